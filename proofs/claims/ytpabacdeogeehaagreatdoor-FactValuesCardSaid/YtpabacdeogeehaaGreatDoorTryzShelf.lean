/-
 DERIVED: THE SHELF's CONTRACTS AT THIS DUMP, IN PLAIN WORDS (tools/lay-plain.mjs out of 'TryzShelf.lean', which tools/lay-shelf.mjs wrote): THE SAME DECLARATIONS UNDER THE SAME NAMES: 'import', 'namespace', 'open', 'def', 'theorem' AND NOTHING ELSE: no command of the shelf's: FOR A HAND-IN. Each laying: the table of numbers ('.._ren') and one theorem, a field a fact of the dump's own or the kernel's comparison; each contract: ONE APPLICATION.
-/
import Derived.Shelf.Strings.Builder1
import Derived.Shelf.Small.Bits
import Derived.Shelf.Small.Strs
import Derived.Shelf.Strings.BuilderF
import Derived.Shelf.Strings.BuilderK
import Derived.Shelf.Strconv.Atoi
import Derived.Shelf.Strconv.Itoa0
import Derived.Shelf.Strconv.Itoa1
import Derived.Shelf.LaysM
import Derived.Shelf.Strconv.Itoa2
import Derived.Shelf.Strconv.Itoa3
import Derived.Shelf.Strconv.AtoiErrFast
import Derived.Shelf.Strconv.ParseIntEmpty
import Derived.Shelf.Strconv.AtoiFail
import Derived.Shelf.Strconv.Clone
import Derived.Shelf.Strconv.SyntaxError
import Derived.Shelf.LaysC
import Derived.Shelf.Strconv.ToError
import Derived.Shelf.Strconv.AtoiErr
import Derived.Shelf.Strconv.Lower
import Derived.Shelf.Strconv.ParseUint10
import Derived.Shelf.Strconv.ParseUint10Empty
import Derived.Shelf.Strconv.ParseUint10Any
import Derived.Shelf.Strconv.ParseInt10
import Derived.Shelf.Strconv.AtoiLong
import Derived.Shelf.Strconv.AtoiInnerAll
import Derived.Shelf.Strconv.RangeError
import Derived.Shelf.Strconv.ToErrorRange
import Derived.Shelf.Strconv.AtoiAll
import Derived.Shelf.Strconv.ErrVarAll
import Derived.Shelf.Strings.Search1
import Derived.Shelf.Bits.Mul64
import Derived.Ground.Names2Prog
import Derived.Shelf.Slices.CompactI
import Derived.Shelf.Slices.CompactS
import Derived.Shelf.Slices.SearchI
import Derived.Shelf.Slices.Cells
import Derived.Ground.SlgmProg
import Derived.Shelf.SortM.Plain
import Derived.Shelf.SortM.SortNone
import Derived.Test.YtpabacdeogeehaaGreatDoorProg
set_option linter.all false
namespace Go.Proofs
open Go.Shelf
def Tryz.lays169_ren : Go.Shelf.Ren := ⟨fun | 169 => 45 | n => n, fun | 70 => 99 | 9 => 9 | 0 => 0 | 72 => 102 | 37 => 100 | 127 => 136 | 3 => 3 | 5 => 5 | n => n, fun | n => n⟩
def Tryz.lays128_ren : Go.Shelf.Ren := ⟨fun | 128 => 57 | n => n, fun | 51 => 119 | 3 => 3 | 4 => 4 | 46 => 83 | 5 => 5 | 9 => 9 | n => n, fun | n => n⟩
def Tryz.lays125_ren : Go.Shelf.Ren := ⟨fun | 125 => 32 | 128 => 57 | 129 => 58 | n => n, fun | 46 => 83 | 3 => 3 | 51 => 119 | 53 => 121 | 4 => 4 | 5 => 5 | 9 => 9 | n => n, fun | n => n⟩
def Tryz.lays137_ren : Go.Shelf.Ren := ⟨fun | 137 => 74 | 217 => 100 | 266 => 119 | n => n, fun | 9 => 9 | 5 => 5 | 3 => 3 | n => n, fun | n => n⟩
theorem Tryz.lays137 : Go.Proofs.Lays.n137 Tryz.prog Tryz.lays137_ren := {
 mixed := by kernel_rfl
 f137 := Tryz.func74.trans (congrArg some (by kernel_rfl))
 f217 := Tryz.func100.trans (congrArg some (by kernel_rfl))
 f266 := Tryz.func119.trans (congrArg some (by kernel_rfl))
 t3 := Tryz.underlying3
 a3 := Tryz.isAgg3
 z3 := Tryz.sizeOf3
 v3 := Tryz.zeroValue3
 t5 := Tryz.underlying5
 a5 := Tryz.isAgg5
 z5 := Tryz.sizeOf5
 v5 := Tryz.zeroValue5
 t9 := Tryz.underlying9
 a9 := Tryz.isAgg9
 z9 := Tryz.sizeOf9
 v9 := Tryz.zeroValue9 }
open Go.RowKit in
theorem Tryz.strings_IndexByte (s : ByteArray) (c : Int) (w : World) :
  Calls Tryz.prog 74 #[.string s, .int .u8 c] w fun e w' => e = .returned (.int .i64 (Lib.indexByte s.data.toList c.toNat.toUInt8)) ∧ w' = w := Any.strings_IndexByte Tryz.lays137 s c w
def Tryz.lays244_ren : Go.Shelf.Ren := ⟨fun | 244 => 101 | 247 => 120 | 287 => 136 | 321 => 144 | 322 => 145 | n => n, fun | 9 => 9 | 3 => 3 | 75 => 104 | 4 => 4 | 5 => 5 | 167 => 182 | 37 => 100 | 0 => 0 | 85 => 183 | 2 => 2 | 53 => 121 | 175 => 194 | 46 => 83 | 21 => 21 | 80 => 107 | n => n, fun | n => n⟩
def Tryz.lays172_ren : Go.Shelf.Ren := ⟨fun | 172 => 76 | 244 => 101 | 245 => 102 | 247 => 120 | 279 => 121 | 280 => 122 | 281 => 123 | 282 => 124 | 287 => 136 | 316 => 137 | 171 => 44 | 205 => 138 | 321 => 144 | 322 => 145 | 243 => 73 | 246 => 99 | 283 => 115 | 284 => 116 | 285 => 117 | 286 => 118 | 129 => 58 | 317 => 132 | 318 => 133 | 319 => 134 | 320 => 135 | 337 => 142 | 338 => 143 | n => n, fun | 9 => 9 | 3 => 3 | 75 => 104 | 76 => 105 | 4 => 4 | 5 => 5 | 167 => 182 | 37 => 100 | 0 => 0 | 85 => 183 | 2 => 2 | 168 => 185 | 53 => 121 | 175 => 194 | 46 => 83 | 210 => 198 | 127 => 136 | 145 => 207 | 143 => 205 | 21 => 21 | 171 => 178 | 173 => 180 | 212 => 192 | 51 => 119 | 20 => 20 | 213 => 193 | 232 => 212 | 233 => 213 | 80 => 107 | n => n, fun | 15 => 2 | 16 => 3 | 17 => 0 | 18 => 4 | 19 => 5 | n => n⟩
def Tryz.lays129_ren : Go.Shelf.Ren := ⟨fun | 129 => 58 | n => n, fun | 53 => 121 | 3 => 3 | 4 => 4 | 46 => 83 | 5 => 5 | 9 => 9 | n => n, fun | n => n⟩
def Tryz.lays317_ren : Go.Shelf.Ren := ⟨fun | 317 => 132 | n => n, fun | 3 => 3 | 46 => 83 | n => n, fun | n => n⟩
def Tryz.lays318_ren : Go.Shelf.Ren := ⟨fun | 318 => 133 | n => n, fun | 3 => 3 | 4 => 4 | n => n, fun | n => n⟩
def Tryz.lays283_ren : Go.Shelf.Ren := ⟨fun | 283 => 115 | n => n, fun | 3 => 3 | 9 => 9 | 4 => 4 | n => n, fun | n => n⟩
def Tryz.laysM284_ren : Go.Shelf.Ren := ⟨fun | 284 => 116 | 129 => 58 | 317 => 132 | 318 => 133 | n => n, fun | 53 => 121 | 3 => 3 | 212 => 192 | 0 => 0 | 4 => 4 | 46 => 83 | 5 => 5 | 9 => 9 | n => n, fun | 17 => 0 | n => n⟩
def Tryz.lays285_ren : Go.Shelf.Ren := ⟨fun | 285 => 117 | n => n, fun | 37 => 100 | 53 => 121 | 3 => 3 | 4 => 4 | 51 => 119 | 9 => 9 | 5 => 5 | 0 => 0 | n => n, fun | n => n⟩
def Tryz.laysM246_ren : Go.Shelf.Ren := ⟨fun | 246 => 99 | 283 => 115 | 284 => 116 | 285 => 117 | 286 => 118 | 129 => 58 | 317 => 132 | 318 => 133 | 319 => 134 | 320 => 135 | 337 => 142 | 338 => 143 | n => n, fun | 2 => 2 | 3 => 3 | 9 => 9 | 4 => 4 | 171 => 178 | 0 => 0 | 53 => 121 | 37 => 100 | 5 => 5 | 173 => 180 | 212 => 192 | 51 => 119 | 20 => 20 | 213 => 193 | 46 => 83 | 232 => 212 | 233 => 213 | n => n, fun | 17 => 0 | 18 => 4 | 19 => 5 | n => n⟩
def Tryz.lays246_ren : Go.Shelf.Ren := ⟨fun | 246 => 99 | 283 => 115 | 284 => 116 | 285 => 117 | 286 => 118 | 129 => 58 | 317 => 132 | 318 => 133 | 319 => 134 | 320 => 135 | 337 => 142 | 338 => 143 | n => n, fun | 2 => 2 | 3 => 3 | 9 => 9 | 4 => 4 | 171 => 178 | 0 => 0 | 53 => 121 | 37 => 100 | 5 => 5 | 173 => 180 | 212 => 192 | 51 => 119 | 20 => 20 | 213 => 193 | 46 => 83 | 232 => 212 | 233 => 213 | n => n, fun | 17 => 0 | 18 => 4 | 19 => 5 | n => n⟩
def Tryz.laysM243_ren : Go.Shelf.Ren := ⟨fun | 243 => 73 | 246 => 99 | 283 => 115 | 284 => 116 | 285 => 117 | 286 => 118 | 129 => 58 | 317 => 132 | 318 => 133 | 319 => 134 | 320 => 135 | 337 => 142 | 338 => 143 | n => n, fun | 3 => 3 | 9 => 9 | 2 => 2 | 4 => 4 | 171 => 178 | 0 => 0 | 53 => 121 | 37 => 100 | 5 => 5 | 173 => 180 | 212 => 192 | 51 => 119 | 20 => 20 | 213 => 193 | 46 => 83 | 232 => 212 | 233 => 213 | n => n, fun | 17 => 0 | 18 => 4 | 19 => 5 | n => n⟩
def Tryz.lays243_ren : Go.Shelf.Ren := ⟨fun | 243 => 73 | 246 => 99 | 283 => 115 | 284 => 116 | 285 => 117 | 286 => 118 | 129 => 58 | 317 => 132 | 318 => 133 | 319 => 134 | 320 => 135 | 337 => 142 | 338 => 143 | n => n, fun | 3 => 3 | 9 => 9 | 2 => 2 | 4 => 4 | 171 => 178 | 0 => 0 | 53 => 121 | 37 => 100 | 5 => 5 | 173 => 180 | 212 => 192 | 51 => 119 | 20 => 20 | 213 => 193 | 46 => 83 | 232 => 212 | 233 => 213 | n => n, fun | 17 => 0 | 18 => 4 | 19 => 5 | n => n⟩
def Tryz.laysM171_ren : Go.Shelf.Ren := ⟨fun | 171 => 44 | 243 => 73 | 246 => 99 | 283 => 115 | 284 => 116 | 285 => 117 | 286 => 118 | 129 => 58 | 317 => 132 | 318 => 133 | 319 => 134 | 320 => 135 | 337 => 142 | 338 => 143 | n => n, fun | 3 => 3 | 9 => 9 | 2 => 2 | 4 => 4 | 171 => 178 | 0 => 0 | 53 => 121 | 37 => 100 | 5 => 5 | 173 => 180 | 212 => 192 | 51 => 119 | 20 => 20 | 213 => 193 | 46 => 83 | 232 => 212 | 233 => 213 | n => n, fun | 17 => 0 | 18 => 4 | 19 => 5 | n => n⟩
theorem Tryz.laysM171 : Go.Proofs.LaysM.n171 Tryz.prog Tryz.laysM171_ren := {
 mixed := by kernel_rfl
 f129 := Tryz.func58.trans (congrArg some (by kernel_rfl))
 f171 := Tryz.func44.trans (congrArg some (by kernel_rfl))
 f243 := Tryz.func73.trans (congrArg some (by kernel_rfl))
 f246 := Tryz.func99.trans (congrArg some (by kernel_rfl))
 f283 := Tryz.func115.trans (congrArg some (by kernel_rfl))
 f284 := Tryz.func116.trans (congrArg some (by kernel_rfl))
 f285 := Tryz.func117.trans (congrArg some (by kernel_rfl))
 f286 := Tryz.func118.trans (congrArg some (by kernel_rfl))
 f317 := Tryz.func132.trans (congrArg some (by kernel_rfl))
 f318 := Tryz.func133.trans (congrArg some (by kernel_rfl))
 f319 := Tryz.func134.trans (congrArg some (by kernel_rfl))
 f320 := Tryz.func135.trans (congrArg some (by kernel_rfl))
 f337 := Tryz.func142.trans (congrArg some (by kernel_rfl))
 f338 := Tryz.func143.trans (congrArg some (by kernel_rfl))
 t0 := Tryz.underlying0
 a0 := Tryz.isAgg0
 z0 := Tryz.sizeOf0
 v0 := Tryz.zeroValue0
 t2 := Tryz.underlying2
 a2 := Tryz.isAgg2
 z2 := Tryz.sizeOf2
 v2 := Tryz.zeroValue2
 t3 := Tryz.underlying3
 a3 := Tryz.isAgg3
 z3 := Tryz.sizeOf3
 v3 := Tryz.zeroValue3
 t4 := Tryz.underlying4
 a4 := Tryz.isAgg4
 z4 := Tryz.sizeOf4
 v4 := Tryz.zeroValue4
 t5 := Tryz.underlying5
 a5 := Tryz.isAgg5
 z5 := Tryz.sizeOf5
 v5 := Tryz.zeroValue5
 t9 := Tryz.underlying9
 a9 := Tryz.isAgg9
 z9 := Tryz.sizeOf9
 v9 := Tryz.zeroValue9
 t20 := Tryz.underlying20
 a20 := Tryz.isAgg20
 z20 := Tryz.sizeOf20
 v20 := Tryz.zeroValue20
 t37 := Tryz.underlying100
 a37 := Tryz.isAgg100
 z37 := Tryz.sizeOf100
 v37 := Tryz.zeroValue100
 t46 := Tryz.underlying83
 a46 := Tryz.isAgg83
 z46 := Tryz.sizeOf83
 v46 := Tryz.zeroValue83
 t51 := Tryz.underlying119
 a51 := Tryz.isAgg119
 z51 := Tryz.sizeOf119
 v51 := Tryz.zeroValue119
 t53 := Tryz.underlying121
 a53 := Tryz.isAgg121
 z53 := Tryz.sizeOf121
 v53 := Tryz.zeroValue121
 t171 := Tryz.underlying178
 a171 := Tryz.isAgg178
 z171 := Tryz.sizeOf178
 v171 := Tryz.zeroValue178
 t173 := Tryz.underlying180
 a173 := Tryz.isAgg180
 z173 := Tryz.sizeOf180
 v173 := Tryz.zeroValue180
 t212 := Tryz.underlying192
 a212 := Tryz.isAgg192
 z212 := Tryz.sizeOf192
 v212 := Tryz.zeroValue192
 t213 := Tryz.underlying193
 a213 := Tryz.isAgg193
 z213 := Tryz.sizeOf193
 t232 := Tryz.underlying212
 a232 := Tryz.isAgg212
 z232 := Tryz.sizeOf212
 v232 := Tryz.zeroValue212
 t233 := Tryz.underlying213
 a233 := Tryz.isAgg213
 z233 := Tryz.sizeOf213
 v233 := Tryz.zeroValue213
 g17 := by kernel_rfl
 g18 := by kernel_rfl
 g19 := by kernel_rfl
 i0 := by kernel_rfl
 i2 := by kernel_rfl
 i3 := by kernel_rfl
 i4 := by kernel_rfl
 i5 := by kernel_rfl
 i9 := by kernel_rfl
 i20 := by kernel_rfl
 i37 := by kernel_rfl
 i46 := by kernel_rfl
 i51 := by kernel_rfl
 i53 := by kernel_rfl
 i171 := by kernel_rfl
 i173 := by kernel_rfl
 i212 := by kernel_rfl
 i232 := by kernel_rfl
 i233 := by kernel_rfl
 m17 := by kernel_rfl
 m18 := by kernel_rfl
 m19 := by kernel_rfl }
open Go.RowKit Go.Sort Go.Lib in
theorem Tryz.strconv_Itoa (n : Int) (h0 : -9223372036854775808 ≤ n) (h1 : n ≤ 9223372036854775807) (w : World) (htab : Lib.TabIs Tryz.prog w "internal/strconv.uint64pow10" .u64 Lib.pow10Tab) :
  Calls Tryz.prog 44 #[.int .i64 n] w fun e w' => e = .returned (.string ⟨(Lib.itoa n).toArray⟩) ∧ ∃ k os, w' = grow (w.drewN k) os := Any.strconv_Itoa Tryz.laysM171 n h0 h1 w htab
def Tryz.lays171_ren : Go.Shelf.Ren := ⟨fun | 171 => 44 | 243 => 73 | 246 => 99 | 283 => 115 | 284 => 116 | 285 => 117 | 286 => 118 | 129 => 58 | 317 => 132 | 318 => 133 | 319 => 134 | 320 => 135 | 337 => 142 | 338 => 143 | n => n, fun | 3 => 3 | 9 => 9 | 2 => 2 | 4 => 4 | 171 => 178 | 0 => 0 | 53 => 121 | 37 => 100 | 5 => 5 | 173 => 180 | 212 => 192 | 51 => 119 | 20 => 20 | 213 => 193 | 46 => 83 | 232 => 212 | 233 => 213 | n => n, fun | 17 => 0 | 18 => 4 | 19 => 5 | n => n⟩
def Tryz.lays247_ren : Go.Shelf.Ren := ⟨fun | 247 => 120 | 287 => 136 | 321 => 144 | 322 => 145 | n => n, fun | 9 => 9 | 3 => 3 | 2 => 2 | 75 => 104 | 4 => 4 | 167 => 182 | 5 => 5 | 53 => 121 | 175 => 194 | 46 => 83 | 37 => 100 | 0 => 0 | 21 => 21 | 80 => 107 | n => n, fun | n => n⟩
def Tryz.laysM316_ren : Go.Shelf.Ren := ⟨fun | 316 => 137 | n => n, fun | 9 => 9 | 3 => 3 | 4 => 4 | 37 => 100 | 0 => 0 | 127 => 136 | 5 => 5 | n => n, fun | n => n⟩
def Tryz.laysM279_ren : Go.Shelf.Ren := ⟨fun | 279 => 121 | 316 => 137 | n => n, fun | 9 => 9 | 168 => 185 | 75 => 104 | 210 => 198 | 3 => 3 | 4 => 4 | 37 => 100 | 0 => 0 | 127 => 136 | 80 => 107 | 5 => 5 | n => n, fun | 15 => 2 | n => n⟩
def Tryz.laysC245_ren : Go.Shelf.Ren := ⟨fun | 245 => 102 | 279 => 121 | 280 => 122 | 281 => 123 | 282 => 124 | 316 => 137 | 171 => 44 | 205 => 138 | 243 => 73 | 246 => 99 | 283 => 115 | 284 => 116 | 285 => 117 | 286 => 118 | 129 => 58 | 317 => 132 | 318 => 133 | 319 => 134 | 320 => 135 | 337 => 142 | 338 => 143 | n => n, fun | 9 => 9 | 3 => 3 | 75 => 104 | 167 => 182 | 4 => 4 | 168 => 185 | 210 => 198 | 37 => 100 | 0 => 0 | 127 => 136 | 145 => 207 | 143 => 205 | 2 => 2 | 171 => 178 | 53 => 121 | 5 => 5 | 173 => 180 | 212 => 192 | 51 => 119 | 20 => 20 | 213 => 193 | 46 => 83 | 232 => 212 | 233 => 213 | 80 => 107 | n => n, fun | 15 => 2 | 16 => 3 | 17 => 0 | 18 => 4 | 19 => 5 | n => n⟩
def Tryz.laysC172_ren : Go.Shelf.Ren := ⟨fun | 172 => 76 | 244 => 101 | 245 => 102 | 247 => 120 | 279 => 121 | 280 => 122 | 281 => 123 | 282 => 124 | 287 => 136 | 316 => 137 | 171 => 44 | 205 => 138 | 321 => 144 | 322 => 145 | 243 => 73 | 246 => 99 | 283 => 115 | 284 => 116 | 285 => 117 | 286 => 118 | 129 => 58 | 317 => 132 | 318 => 133 | 319 => 134 | 320 => 135 | 337 => 142 | 338 => 143 | n => n, fun | 9 => 9 | 3 => 3 | 75 => 104 | 76 => 105 | 4 => 4 | 5 => 5 | 167 => 182 | 37 => 100 | 0 => 0 | 85 => 183 | 2 => 2 | 168 => 185 | 53 => 121 | 175 => 194 | 46 => 83 | 210 => 198 | 127 => 136 | 145 => 207 | 143 => 205 | 21 => 21 | 171 => 178 | 173 => 180 | 212 => 192 | 51 => 119 | 20 => 20 | 213 => 193 | 232 => 212 | 233 => 213 | 80 => 107 | n => n, fun | 15 => 2 | 16 => 3 | 17 => 0 | 18 => 4 | 19 => 5 | n => n⟩
theorem Tryz.laysC172 : Go.Proofs.LaysC.n172 Tryz.prog Tryz.laysC172_ren := {
 mixed := by kernel_rfl
 f129 := Tryz.func58.trans (congrArg some (by kernel_rfl))
 f171 := Tryz.func44.trans (congrArg some (by kernel_rfl))
 f172 := Tryz.func76.trans (congrArg some (by kernel_rfl))
 f205 := Tryz.func138.trans (congrArg some (by kernel_rfl))
 f243 := Tryz.func73.trans (congrArg some (by kernel_rfl))
 f244 := Tryz.func101.trans (congrArg some (by kernel_rfl))
 f245 := Tryz.func102.trans (congrArg some (by kernel_rfl))
 f246 := Tryz.func99.trans (congrArg some (by kernel_rfl))
 f247 := Tryz.func120.trans (congrArg some (by kernel_rfl))
 f279 := Tryz.func121.trans (congrArg some (by kernel_rfl))
 f280 := Tryz.func122.trans (congrArg some (by kernel_rfl))
 f281 := Tryz.func123.trans (congrArg some (by kernel_rfl))
 f282 := Tryz.func124.trans (congrArg some (by kernel_rfl))
 f283 := Tryz.func115.trans (congrArg some (by kernel_rfl))
 f284 := Tryz.func116.trans (congrArg some (by kernel_rfl))
 f285 := Tryz.func117.trans (congrArg some (by kernel_rfl))
 f286 := Tryz.func118.trans (congrArg some (by kernel_rfl))
 f287 := Tryz.func136.trans (congrArg some (by kernel_rfl))
 f316 := Tryz.func137.trans (congrArg some (by kernel_rfl))
 f317 := Tryz.func132.trans (congrArg some (by kernel_rfl))
 f318 := Tryz.func133.trans (congrArg some (by kernel_rfl))
 f319 := Tryz.func134.trans (congrArg some (by kernel_rfl))
 f320 := Tryz.func135.trans (congrArg some (by kernel_rfl))
 f321 := Tryz.func144.trans (congrArg some (by kernel_rfl))
 f322 := Tryz.func145.trans (congrArg some (by kernel_rfl))
 f337 := Tryz.func142.trans (congrArg some (by kernel_rfl))
 f338 := Tryz.func143.trans (congrArg some (by kernel_rfl))
 t0 := Tryz.underlying0
 a0 := Tryz.isAgg0
 z0 := Tryz.sizeOf0
 v0 := Tryz.zeroValue0
 t2 := Tryz.underlying2
 a2 := Tryz.isAgg2
 z2 := Tryz.sizeOf2
 v2 := Tryz.zeroValue2
 t3 := Tryz.underlying3
 a3 := Tryz.isAgg3
 z3 := Tryz.sizeOf3
 v3 := Tryz.zeroValue3
 t4 := Tryz.underlying4
 a4 := Tryz.isAgg4
 z4 := Tryz.sizeOf4
 v4 := Tryz.zeroValue4
 t5 := Tryz.underlying5
 a5 := Tryz.isAgg5
 z5 := Tryz.sizeOf5
 v5 := Tryz.zeroValue5
 t9 := Tryz.underlying9
 a9 := Tryz.isAgg9
 z9 := Tryz.sizeOf9
 v9 := Tryz.zeroValue9
 t20 := Tryz.underlying20
 a20 := Tryz.isAgg20
 z20 := Tryz.sizeOf20
 v20 := Tryz.zeroValue20
 t21 := Tryz.underlying21
 a21 := Tryz.isAgg21
 z21 := Tryz.sizeOf21
 v21 := Tryz.zeroValue21
 t37 := Tryz.underlying100
 a37 := Tryz.isAgg100
 z37 := Tryz.sizeOf100
 v37 := Tryz.zeroValue100
 t46 := Tryz.underlying83
 a46 := Tryz.isAgg83
 z46 := Tryz.sizeOf83
 v46 := Tryz.zeroValue83
 t51 := Tryz.underlying119
 a51 := Tryz.isAgg119
 z51 := Tryz.sizeOf119
 v51 := Tryz.zeroValue119
 t53 := Tryz.underlying121
 a53 := Tryz.isAgg121
 z53 := Tryz.sizeOf121
 v53 := Tryz.zeroValue121
 t75 := Tryz.underlying104
 a75 := Tryz.isAgg104
 z75 := Tryz.sizeOf104
 v75 := Tryz.zeroValue104
 t76 := Tryz.underlying105
 a76 := Tryz.isAgg105
 z76 := Tryz.sizeOf105
 v76 := Tryz.zeroValue105
 t85 := Tryz.underlying183
 a85 := Tryz.isAgg183
 z85 := Tryz.sizeOf183
 v85 := Tryz.zeroValue183
 t127 := Tryz.underlying136
 a127 := Tryz.isAgg136
 z127 := Tryz.sizeOf136
 v127 := Tryz.zeroValue136
 t143 := Tryz.underlying205
 a143 := Tryz.isAgg205
 z143 := Tryz.sizeOf205
 v143 := Tryz.zeroValue205
 t145 := Tryz.underlying207
 a145 := Tryz.isAgg207
 z145 := Tryz.sizeOf207
 v145 := Tryz.zeroValue207
 t167 := Tryz.underlying182
 a167 := Tryz.isAgg182
 z167 := Tryz.sizeOf182
 v167 := Tryz.zeroValue182
 t168 := Tryz.underlying185
 a168 := Tryz.isAgg185
 z168 := Tryz.sizeOf185
 v168 := Tryz.zeroValue185
 t171 := Tryz.underlying178
 a171 := Tryz.isAgg178
 z171 := Tryz.sizeOf178
 v171 := Tryz.zeroValue178
 t173 := Tryz.underlying180
 a173 := Tryz.isAgg180
 z173 := Tryz.sizeOf180
 v173 := Tryz.zeroValue180
 t175 := Tryz.underlying194
 a175 := Tryz.isAgg194
 z175 := Tryz.sizeOf194
 v175 := Tryz.zeroValue194
 t210 := Tryz.underlying198
 a210 := Tryz.isAgg198
 z210 := Tryz.sizeOf198
 v210 := Tryz.zeroValue198
 t212 := Tryz.underlying192
 a212 := Tryz.isAgg192
 z212 := Tryz.sizeOf192
 v212 := Tryz.zeroValue192
 t213 := Tryz.underlying193
 a213 := Tryz.isAgg193
 z213 := Tryz.sizeOf193
 t232 := Tryz.underlying212
 a232 := Tryz.isAgg212
 z232 := Tryz.sizeOf212
 v232 := Tryz.zeroValue212
 t233 := Tryz.underlying213
 a233 := Tryz.isAgg213
 z233 := Tryz.sizeOf213
 v233 := Tryz.zeroValue213
 g15 := by kernel_rfl
 g16 := by kernel_rfl
 g17 := by kernel_rfl
 g18 := by kernel_rfl
 g19 := by kernel_rfl
 t80 := Tryz.underlying107
 a80 := Tryz.isAgg107
 z80 := Tryz.sizeOf107
 v80 := Tryz.zeroValue107
 i0 := by kernel_rfl
 i2 := by kernel_rfl
 i3 := by kernel_rfl
 i4 := by kernel_rfl
 i5 := by kernel_rfl
 i9 := by kernel_rfl
 i20 := by kernel_rfl
 i21 := by kernel_rfl
 i37 := by kernel_rfl
 i46 := by kernel_rfl
 i51 := by kernel_rfl
 i53 := by kernel_rfl
 i75 := by kernel_rfl
 i76 := by kernel_rfl
 i80 := by kernel_rfl
 i85 := by kernel_rfl
 i127 := by kernel_rfl
 i143 := by kernel_rfl
 i145 := by kernel_rfl
 i167 := by kernel_rfl
 i168 := by kernel_rfl
 i171 := by kernel_rfl
 i173 := by kernel_rfl
 i175 := by kernel_rfl
 i210 := by kernel_rfl
 i212 := by kernel_rfl
 i232 := by kernel_rfl
 i233 := by kernel_rfl
 m15 := by kernel_rfl
 m16 := by kernel_rfl
 m17 := by kernel_rfl
 m18 := by kernel_rfl
 m19 := by kernel_rfl
 c0 := by kernel_rfl
 c2 := by kernel_rfl
 c3 := by kernel_rfl
 c4 := by kernel_rfl
 c5 := by kernel_rfl
 c9 := by kernel_rfl
 c20 := by kernel_rfl
 c21 := by kernel_rfl
 c37 := by kernel_rfl
 c46 := by kernel_rfl
 c51 := by kernel_rfl
 c53 := by kernel_rfl
 c75 := by kernel_rfl
 c76 := by kernel_rfl
 c80 := by kernel_rfl
 c85 := by kernel_rfl
 c127 := by kernel_rfl
 c143 := by kernel_rfl
 c145 := by kernel_rfl
 c167 := by kernel_rfl
 c168 := by kernel_rfl
 c171 := by kernel_rfl
 c173 := by kernel_rfl
 c175 := by kernel_rfl
 c210 := by kernel_rfl
 c212 := by kernel_rfl
 c213 := by kernel_rfl
 c232 := by kernel_rfl
 c233 := by kernel_rfl }
def Tryz.lays321_ren : Go.Shelf.Ren := ⟨fun | 321 => 144 | n => n, fun | 5 => 5 | n => n, fun | n => n⟩
def Tryz.lays287_ren : Go.Shelf.Ren := ⟨fun | 287 => 136 | 321 => 144 | 322 => 145 | n => n, fun | 9 => 9 | 3 => 3 | 53 => 121 | 75 => 104 | 4 => 4 | 167 => 182 | 5 => 5 | 46 => 83 | 37 => 100 | 0 => 0 | 21 => 21 | 80 => 107 | n => n, fun | n => n⟩
def Tryz.laysC247_ren : Go.Shelf.Ren := ⟨fun | 247 => 120 | 287 => 136 | 321 => 144 | 322 => 145 | n => n, fun | 9 => 9 | 3 => 3 | 2 => 2 | 75 => 104 | 4 => 4 | 167 => 182 | 5 => 5 | 53 => 121 | 175 => 194 | 46 => 83 | 37 => 100 | 0 => 0 | 21 => 21 | 80 => 107 | n => n, fun | n => n⟩
def Tryz.laysC244_ren : Go.Shelf.Ren := ⟨fun | 244 => 101 | 247 => 120 | 287 => 136 | 321 => 144 | 322 => 145 | n => n, fun | 9 => 9 | 3 => 3 | 75 => 104 | 4 => 4 | 5 => 5 | 167 => 182 | 37 => 100 | 0 => 0 | 85 => 183 | 2 => 2 | 53 => 121 | 175 => 194 | 46 => 83 | 21 => 21 | 80 => 107 | n => n, fun | n => n⟩
def Tryz.laysM280_ren : Go.Shelf.Ren := ⟨fun | 280 => 122 | 316 => 137 | n => n, fun | 9 => 9 | 168 => 185 | 75 => 104 | 210 => 198 | 3 => 3 | 4 => 4 | 37 => 100 | 0 => 0 | 127 => 136 | 80 => 107 | 5 => 5 | n => n, fun | 16 => 3 | n => n⟩
open Go.RowKit in
theorem Tryz.strconv_Atoi_ok (s : ByteArray) (hmax : s.size ≤ 9223372036854775806) (v : Int) (h : Lib.atoiAll s.data.toList = .ok v) (w : World) :
  Calls Tryz.prog 76 #[.string s] w fun e w' => e = .returned (.tuple #[.int .i64 v, .nilIface]) ∧ (w' = w ∨ ∃ t, w' = Lib.bytesWorld w 5 t) := Any.strconv_Atoi_ok Tryz.laysC172 s hmax v h w
open Go.RowKit in
theorem Tryz.strconv_Atoi_range (s : ByteArray) (hlim : s.size ≤ 281474976710656) (h : Lib.atoiAll s.data.toList = .range) (ev : Value) (w : World) (hv : w.cell? ⟨3, 0, none⟩ = some ev) (hev : ev = .nilIface ∨ ∃ te pe, ev = .iface te pe) :
  Calls Tryz.prog 76 #[.string s] w fun e w' => ∃ N, e = .returned (.tuple #[.int .i64 (Lib.atoiSat s.data.toList), .iface 185 (.pointer (some ⟨N, 0, none⟩))]) ∧ w.heap.size ≤ N ∧ w'.heap[N]? = some (.cells #[.string ⟨#[65, 116, 111, 105]⟩, .string s, ev] 198 (0, 0)) ∧ Below w.heap.size w w' := Any.strconv_Atoi_range Tryz.laysC172 s hlim h ev w hv hev
def Tryz.lays217_ren : Go.Shelf.Ren := ⟨fun | 217 => 100 | 266 => 119 | n => n, fun | 9 => 9 | 5 => 5 | 3 => 3 | n => n, fun | n => n⟩
def Tryz.lays264_ren : Go.Shelf.Ren := ⟨fun | 264 => 147 | n => n, fun | 53 => 121 | 46 => 83 | n => n, fun | n => n⟩
def Tryz.lays212_ren : Go.Shelf.Ren := ⟨fun | 212 => 140 | 263 => 146 | 264 => 147 | n => n, fun | 46 => 83 | 51 => 119 | 146 => 208 | 53 => 121 | 148 => 210 | n => n, fun | n => n⟩
def Tryz.laysNm220_ren : Go.Shelf.Ren := ⟨fun | 20 => 42 | n => n, fun | 22 => 49 | 3 => 3 | 4 => 4 | 0 => 0 | n => n, fun | n => n⟩
theorem Tryz.laysNm220 : Go.Proofs.Lays2.n20 Tryz.prog Tryz.laysNm220_ren := {
 mixed := by kernel_rfl
 f20 := Tryz.func42.trans (congrArg some (by kernel_rfl))
 t0 := Tryz.underlying0
 a0 := Tryz.isAgg0
 z0 := Tryz.sizeOf0
 v0 := Tryz.zeroValue0
 t3 := Tryz.underlying3
 a3 := Tryz.isAgg3
 z3 := Tryz.sizeOf3
 v3 := Tryz.zeroValue3
 t4 := Tryz.underlying4
 a4 := Tryz.isAgg4
 z4 := Tryz.sizeOf4
 v4 := Tryz.zeroValue4
 t22 := Tryz.underlying49
 a22 := Tryz.isAgg49
 z22 := Tryz.sizeOf49
 v22 := Tryz.zeroValue49
 i3 := by kernel_rfl }
open Go.RowKit Go.Lib Go.Sort in
theorem Tryz.slices_Compact_int (blk off cap : Nat) (zs : List Int) (w : World) (hH : Holds (Value.int .i64) w blk off zs.toArray) (hsz : zs.length ≤ 9223372036854775807) (hcap : zs.length ≤ cap) :
  Calls Tryz.prog 42 #[.slice (some ⟨blk, off, none⟩) zs.length cap] w fun e w' => e = .returned (.slice (some ⟨blk, off, none⟩) (Lib.compact zs).length cap) ∧ ∃ q, w' = putRow (Value.int .i64) (Sort.ahead w q) blk off (Lib.compact zs ++ List.replicate (zs.length - (Lib.compact zs).length) 0).toArray := Any.slices_Compact_int Tryz.laysNm220 blk off cap zs w hH hsz hcap
open Go.RowKit Go.Lib Go.Sort in
theorem Tryz.slices_Compact_int_empty (a : Option Addr) (cap : Nat) (w : World) :
  Calls Tryz.prog 42 #[.slice a 0 cap] w fun e w' => e = .returned (.slice a 0 cap) ∧ w' = w := Any.slices_Compact_int_empty Tryz.laysNm220 a cap w
def Tryz.lays194_ren : Go.Shelf.Ren := ⟨fun | 194 => 20 | n => n, fun | 31 => 26 | 9 => 9 | 3 => 3 | 4 => 4 | 0 => 0 | n => n, fun | n => n⟩
theorem Tryz.lays194 : Go.Proofs.Lays.n194 Tryz.prog Tryz.lays194_ren := {
 mixed := by kernel_rfl
 f194 := Tryz.func20.trans (congrArg some (by kernel_rfl))
 t0 := Tryz.underlying0
 a0 := Tryz.isAgg0
 z0 := Tryz.sizeOf0
 v0 := Tryz.zeroValue0
 t3 := Tryz.underlying3
 a3 := Tryz.isAgg3
 z3 := Tryz.sizeOf3
 v3 := Tryz.zeroValue3
 t4 := Tryz.underlying4
 a4 := Tryz.isAgg4
 z4 := Tryz.sizeOf4
 v4 := Tryz.zeroValue4
 t9 := Tryz.underlying9
 a9 := Tryz.isAgg9
 z9 := Tryz.sizeOf9
 v9 := Tryz.zeroValue9
 t31 := Tryz.underlying26
 a31 := Tryz.isAgg26
 z31 := Tryz.sizeOf26
 v31 := Tryz.zeroValue26 }
open Go.RowKit Go.Lib Go.Sort in
theorem Tryz.slices_Compact_string (blk off cap : Nat) (zs : List (List UInt8)) (w : World) (hH : Holds encStr w blk off zs.toArray) (hsz : zs.length ≤ 9223372036854775807) (hcap : zs.length ≤ cap) :
  Calls Tryz.prog 20 #[.slice (some ⟨blk, off, none⟩) zs.length cap] w fun e w' => e = .returned (.slice (some ⟨blk, off, none⟩) (Lib.compact zs).length cap) ∧ ∃ q, w' = putRow encStr (Sort.ahead w q) blk off (Lib.compact zs ++ List.replicate (zs.length - (Lib.compact zs).length) []).toArray := Any.slices_Compact_string Tryz.lays194 blk off cap zs w hH hsz hcap
open Go.RowKit Go.Lib Go.Sort in
theorem Tryz.slices_Compact_string_empty (a : Option Addr) (cap : Nat) (w : World) :
  Calls Tryz.prog 20 #[.slice a 0 cap] w fun e w' => e = .returned (.slice a 0 cap) ∧ w' = w := Any.slices_Compact_string_empty Tryz.lays194 a cap w
def Tryz.laysNm237_ren : Go.Shelf.Ren := ⟨fun | 37 => 114 | n => n, fun | 3 => 3 | 4 => 4 | n => n, fun | n => n⟩
def Tryz.laysNm231_ren : Go.Shelf.Ren := ⟨fun | 31 => 95 | 37 => 114 | n => n, fun | 3 => 3 | 4 => 4 | n => n, fun | n => n⟩
def Tryz.laysSlM5_f41_ren : Go.Shelf.Ren := ⟨fun | 5 => 41 | 8 => 32 | 7 => 71 | 19 => 57 | 20 => 58 | 10 => 89 | 11 => 90 | 12 => 91 | 13 => 92 | 14 => 93 | 15 => 94 | 16 => 95 | 17 => 96 | 18 => 97 | 30 => 111 | 31 => 79 | 32 => 80 | 33 => 112 | 34 => 113 | 35 => 114 | 40 => 131 | n => n, fun | 23 => 49 | 25 => 3 | 3 => 3 | 32 => 83 | 22 => 49 | 0 => 0 | 44 => 119 | 46 => 121 | 4 => 4 | 36 => 112 | 35 => 111 | 41 => 28 | 5 => 5 | 9 => 9 | 53 => 140 | 57 => 144 | 63 => 165 | 64 => 166 | n => n, fun | n => n⟩
theorem Tryz.laysSlM5_f41 : Go.Proofs.SlLaysM.n5 Tryz.prog Tryz.laysSlM5_f41_ren := {
 mixed := by kernel_rfl
 f5 := ⟨Tryz.f41.name, by decide, Tryz.func41.trans (congrArg some (by kernel_rfl))⟩
 f7 := ⟨Tryz.f71.name, by decide, Tryz.func71.trans (congrArg some (by kernel_rfl))⟩
 f8 := Tryz.func32.trans (congrArg some (by kernel_rfl))
 f10 := ⟨Tryz.f89.name, by decide, Tryz.func89.trans (congrArg some (by kernel_rfl))⟩
 f11 := ⟨Tryz.f90.name, by decide, Tryz.func90.trans (congrArg some (by kernel_rfl))⟩
 f12 := ⟨Tryz.f91.name, by decide, Tryz.func91.trans (congrArg some (by kernel_rfl))⟩
 f13 := ⟨Tryz.f92.name, by decide, Tryz.func92.trans (congrArg some (by kernel_rfl))⟩
 f14 := ⟨Tryz.f93.name, by decide, Tryz.func93.trans (congrArg some (by kernel_rfl))⟩
 f15 := ⟨Tryz.f94.name, by decide, Tryz.func94.trans (congrArg some (by kernel_rfl))⟩
 f16 := ⟨Tryz.f95.name, by decide, Tryz.func95.trans (congrArg some (by kernel_rfl))⟩
 f17 := ⟨Tryz.f96.name, by decide, Tryz.func96.trans (congrArg some (by kernel_rfl))⟩
 f18 := ⟨Tryz.f97.name, by decide, Tryz.func97.trans (congrArg some (by kernel_rfl))⟩
 f19 := Tryz.func57.trans (congrArg some (by kernel_rfl))
 f20 := Tryz.func58.trans (congrArg some (by kernel_rfl))
 f30 := ⟨Tryz.f111.name, by decide, Tryz.func111.trans (congrArg some (by kernel_rfl))⟩
 f31 := Tryz.func79.trans (congrArg some (by kernel_rfl))
 f32 := Tryz.func80.trans (congrArg some (by kernel_rfl))
 f33 := ⟨Tryz.f112.name, by decide, Tryz.func112.trans (congrArg some (by kernel_rfl))⟩
 f34 := ⟨Tryz.f113.name, by decide, Tryz.func113.trans (congrArg some (by kernel_rfl))⟩
 f35 := ⟨Tryz.f114.name, by decide, Tryz.func114.trans (congrArg some (by kernel_rfl))⟩
 f40 := ⟨Tryz.f131.name, by decide, Tryz.func131.trans (congrArg some (by kernel_rfl))⟩
 t0 := Tryz.underlying0
 a0 := Tryz.isAgg0
 z0 := Tryz.sizeOf0
 v0 := Tryz.zeroValue0
 t3 := Tryz.underlying3
 a3 := Tryz.isAgg3
 z3 := Tryz.sizeOf3
 v3 := Tryz.zeroValue3
 t4 := Tryz.underlying4
 a4 := Tryz.isAgg4
 z4 := Tryz.sizeOf4
 v4 := Tryz.zeroValue4
 t5 := Tryz.underlying5
 a5 := Tryz.isAgg5
 z5 := Tryz.sizeOf5
 v5 := Tryz.zeroValue5
 t9 := Tryz.underlying9
 a9 := Tryz.isAgg9
 z9 := Tryz.sizeOf9
 v9 := Tryz.zeroValue9
 t22 := Tryz.underlying49
 a22 := Tryz.isAgg49
 z22 := Tryz.sizeOf49
 v22 := Tryz.zeroValue49
 t23 := Tryz.underlying49
 a23 := Tryz.isAgg49
 z23 := Tryz.sizeOf49
 v23 := Tryz.zeroValue49
 t25 := Tryz.underlying3
 a25 := Tryz.isAgg3
 z25 := Tryz.sizeOf3
 v25 := Tryz.zeroValue3
 t32 := Tryz.underlying83
 a32 := Tryz.isAgg83
 z32 := Tryz.sizeOf83
 v32 := Tryz.zeroValue83
 t35 := Tryz.underlying111
 a35 := Tryz.isAgg111
 z35 := Tryz.sizeOf111
 v35 := Tryz.zeroValue111
 t36 := Tryz.underlying112
 a36 := Tryz.isAgg112
 z36 := Tryz.sizeOf112
 v36 := Tryz.zeroValue112
 t41 := Tryz.underlying28
 a41 := Tryz.isAgg28
 z41 := Tryz.sizeOf28
 v41 := Tryz.zeroValue28
 t44 := Tryz.underlying119
 a44 := Tryz.isAgg119
 z44 := Tryz.sizeOf119
 v44 := Tryz.zeroValue119
 t46 := Tryz.underlying121
 a46 := Tryz.isAgg121
 z46 := Tryz.sizeOf121
 v46 := Tryz.zeroValue121
 t53 := Tryz.underlying140
 a53 := Tryz.isAgg140
 z53 := Tryz.sizeOf140
 v53 := Tryz.zeroValue140
 t57 := Tryz.underlying144
 a57 := Tryz.isAgg144
 z57 := Tryz.sizeOf144
 v57 := Tryz.zeroValue144
 t63 := Tryz.underlying165
 a63 := Tryz.isAgg165
 z63 := Tryz.sizeOf165
 v63 := Tryz.zeroValue165
 t64 := Tryz.underlying166
 a64 := Tryz.isAgg166
 z64 := Tryz.sizeOf166
 v64 := Tryz.zeroValue166 }
open Go.Sort Go.RowKit in
theorem Tryz.slices_Sort_int (blk off cap : Nat) (zs : List Int) (w : World) (hH : Holds (Value.int .i64) w blk off zs.toArray) (hblk : blk < w.heap.size) (hsz : zs.length < 4611686018427387904) :
  Calls Tryz.prog 41 #[.slice (some ⟨blk, off, none⟩) zs.length cap] w fun e w' =>
   e = .returned (.tuple #[]) ∧ ∃ n os, w' = grow (putRow (Value.int .i64) (Sort.ahead w n) blk off (zs.mergeSort fun x y => decide (x ≤ y)).toArray) os := AnyM.slices_Sort_int Tryz.laysSlM5_f41 blk off cap zs w hH hblk hsz
def Tryz.laysSlM6_f19_ren : Go.Shelf.Ren := ⟨fun | 6 => 19 | 8 => 32 | 9 => 31 | 19 => 57 | 20 => 58 | 21 => 48 | 22 => 49 | 23 => 50 | 24 => 51 | 25 => 52 | 26 => 53 | 27 => 54 | 28 => 55 | 29 => 56 | 36 => 78 | 31 => 79 | 32 => 80 | 37 => 81 | 38 => 82 | 39 => 83 | 41 => 104 | n => n, fun | 27 => 26 | 29 => 9 | 3 => 3 | 32 => 83 | 26 => 26 | 0 => 0 | 44 => 119 | 46 => 121 | 4 => 4 | 36 => 112 | 35 => 111 | 41 => 28 | 5 => 5 | 9 => 9 | 53 => 140 | 57 => 144 | 63 => 165 | 64 => 166 | n => n, fun | n => n⟩
theorem Tryz.laysSlM6_f19 : Go.Proofs.SlLaysM.n6 Tryz.prog Tryz.laysSlM6_f19_ren := {
 mixed := by kernel_rfl
 f6 := ⟨Tryz.f19.name, by decide, Tryz.func19.trans (congrArg some (by kernel_rfl))⟩
 f8 := Tryz.func32.trans (congrArg some (by kernel_rfl))
 f9 := ⟨Tryz.f31.name, by decide, Tryz.func31.trans (congrArg some (by kernel_rfl))⟩
 f19 := Tryz.func57.trans (congrArg some (by kernel_rfl))
 f20 := Tryz.func58.trans (congrArg some (by kernel_rfl))
 f21 := ⟨Tryz.f48.name, by decide, Tryz.func48.trans (congrArg some (by kernel_rfl))⟩
 f22 := ⟨Tryz.f49.name, by decide, Tryz.func49.trans (congrArg some (by kernel_rfl))⟩
 f23 := ⟨Tryz.f50.name, by decide, Tryz.func50.trans (congrArg some (by kernel_rfl))⟩
 f24 := ⟨Tryz.f51.name, by decide, Tryz.func51.trans (congrArg some (by kernel_rfl))⟩
 f25 := ⟨Tryz.f52.name, by decide, Tryz.func52.trans (congrArg some (by kernel_rfl))⟩
 f26 := ⟨Tryz.f53.name, by decide, Tryz.func53.trans (congrArg some (by kernel_rfl))⟩
 f27 := ⟨Tryz.f54.name, by decide, Tryz.func54.trans (congrArg some (by kernel_rfl))⟩
 f28 := ⟨Tryz.f55.name, by decide, Tryz.func55.trans (congrArg some (by kernel_rfl))⟩
 f29 := ⟨Tryz.f56.name, by decide, Tryz.func56.trans (congrArg some (by kernel_rfl))⟩
 f31 := Tryz.func79.trans (congrArg some (by kernel_rfl))
 f32 := Tryz.func80.trans (congrArg some (by kernel_rfl))
 f36 := ⟨Tryz.f78.name, by decide, Tryz.func78.trans (congrArg some (by kernel_rfl))⟩
 f37 := ⟨Tryz.f81.name, by decide, Tryz.func81.trans (congrArg some (by kernel_rfl))⟩
 f38 := ⟨Tryz.f82.name, by decide, Tryz.func82.trans (congrArg some (by kernel_rfl))⟩
 f39 := ⟨Tryz.f83.name, by decide, Tryz.func83.trans (congrArg some (by kernel_rfl))⟩
 f41 := ⟨Tryz.f104.name, by decide, Tryz.func104.trans (congrArg some (by kernel_rfl))⟩
 t0 := Tryz.underlying0
 a0 := Tryz.isAgg0
 z0 := Tryz.sizeOf0
 v0 := Tryz.zeroValue0
 t3 := Tryz.underlying3
 a3 := Tryz.isAgg3
 z3 := Tryz.sizeOf3
 v3 := Tryz.zeroValue3
 t4 := Tryz.underlying4
 a4 := Tryz.isAgg4
 z4 := Tryz.sizeOf4
 v4 := Tryz.zeroValue4
 t5 := Tryz.underlying5
 a5 := Tryz.isAgg5
 z5 := Tryz.sizeOf5
 v5 := Tryz.zeroValue5
 t9 := Tryz.underlying9
 a9 := Tryz.isAgg9
 z9 := Tryz.sizeOf9
 v9 := Tryz.zeroValue9
 t26 := Tryz.underlying26
 a26 := Tryz.isAgg26
 z26 := Tryz.sizeOf26
 v26 := Tryz.zeroValue26
 t27 := Tryz.underlying26
 a27 := Tryz.isAgg26
 z27 := Tryz.sizeOf26
 v27 := Tryz.zeroValue26
 t29 := Tryz.underlying9
 a29 := Tryz.isAgg9
 z29 := Tryz.sizeOf9
 v29 := Tryz.zeroValue9
 t32 := Tryz.underlying83
 a32 := Tryz.isAgg83
 z32 := Tryz.sizeOf83
 v32 := Tryz.zeroValue83
 t35 := Tryz.underlying111
 a35 := Tryz.isAgg111
 z35 := Tryz.sizeOf111
 v35 := Tryz.zeroValue111
 t36 := Tryz.underlying112
 a36 := Tryz.isAgg112
 z36 := Tryz.sizeOf112
 v36 := Tryz.zeroValue112
 t41 := Tryz.underlying28
 a41 := Tryz.isAgg28
 z41 := Tryz.sizeOf28
 v41 := Tryz.zeroValue28
 t44 := Tryz.underlying119
 a44 := Tryz.isAgg119
 z44 := Tryz.sizeOf119
 v44 := Tryz.zeroValue119
 t46 := Tryz.underlying121
 a46 := Tryz.isAgg121
 z46 := Tryz.sizeOf121
 v46 := Tryz.zeroValue121
 t53 := Tryz.underlying140
 a53 := Tryz.isAgg140
 z53 := Tryz.sizeOf140
 v53 := Tryz.zeroValue140
 t57 := Tryz.underlying144
 a57 := Tryz.isAgg144
 z57 := Tryz.sizeOf144
 v57 := Tryz.zeroValue144
 t63 := Tryz.underlying165
 a63 := Tryz.isAgg165
 z63 := Tryz.sizeOf165
 v63 := Tryz.zeroValue165
 t64 := Tryz.underlying166
 a64 := Tryz.isAgg166
 z64 := Tryz.sizeOf166
 v64 := Tryz.zeroValue166 }
open Go.Sort Go.RowKit in
theorem Tryz.slices_Sort_string (blk off cap : Nat) (ss : List (List UInt8)) (w : World) (hH : Holds encStr w blk off ss.toArray) (hblk : blk < w.heap.size) (hsz : ss.length < 4611686018427387904) :
  Calls Tryz.prog 19 #[.slice (some ⟨blk, off, none⟩) ss.length cap] w fun e w' =>
   e = .returned (.tuple #[]) ∧ ∃ n os, w' = grow (putRow encStr (Sort.ahead w n) blk off (ss.mergeSort fun x y => decide (x ≤ y)).toArray) os := AnyM.slices_Sort_string Tryz.laysSlM6_f19 blk off cap ss w hH hblk hsz
open Go.RowKit Go.Sort in
theorem Tryz.slices_Sort_string_none (p : Option Addr) (cap : Nat) (w : World) :
  Calls Tryz.prog 19 #[.slice p 0 cap] w fun e w' => e = .returned (.tuple #[]) ∧ w' = w := AnyM.slices_Sort_string_none Tryz.laysSlM6_f19 p cap w
open Go.RowKit Go.Sort in
theorem Tryz.slices_Sort_int_none (p : Option Addr) (cap : Nat) (w : World) :
  Calls Tryz.prog 41 #[.slice p 0 cap] w fun e w' => e = .returned (.tuple #[]) ∧ w' = w := AnyM.slices_Sort_int_none Tryz.laysSlM5_f41 p cap w
end Go.Proofs
