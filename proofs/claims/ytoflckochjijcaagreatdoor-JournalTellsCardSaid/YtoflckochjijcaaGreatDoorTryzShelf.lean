/-
 DERIVED: THE SHELF's CONTRACTS AT THIS DUMP, IN PLAIN WORDS (tools/lay-plain.mjs out of 'TryzShelf.lean', which tools/lay-shelf.mjs wrote): THE SAME DECLARATIONS UNDER THE SAME NAMES: 'import', 'namespace', 'open', 'def', 'theorem' AND NOTHING ELSE: no command of the shelf's: FOR A HAND-IN. Each laying: the table of numbers ('.._ren') and one theorem, a field a fact of the dump's own or the kernel's comparison; each contract: ONE APPLICATION.
-/
import Derived.Shelf.Small.Strs
import Derived.Shelf.Small.Wraps
import Derived.Shelf.Strconv.Atoi
import Derived.Shelf.Strconv.Itoa0
import Derived.Shelf.Strconv.Itoa1
import Derived.Shelf.LaysM
import Derived.Shelf.Strconv.Itoa2
import Derived.Shelf.Strconv.Itoa3
import Derived.Shelf.Strconv.AtoiErrFast
import Derived.Shelf.Strconv.ParseIntEmpty
import Derived.Shelf.Strconv.AtoiFail
import Derived.Shelf.Strconv.Clone
import Derived.Shelf.Strconv.SyntaxError
import Derived.Shelf.LaysC
import Derived.Shelf.Strconv.ToError
import Derived.Shelf.Strconv.AtoiErr
import Derived.Shelf.Strconv.Lower
import Derived.Shelf.Strconv.ParseUint10
import Derived.Shelf.Strconv.ParseUint10Empty
import Derived.Shelf.Strconv.ParseUint10Any
import Derived.Shelf.Strconv.ParseInt10
import Derived.Shelf.Strconv.AtoiLong
import Derived.Shelf.Strconv.AtoiInnerAll
import Derived.Shelf.Strconv.RangeError
import Derived.Shelf.Strconv.ToErrorRange
import Derived.Shelf.Strconv.AtoiAll
import Derived.Shelf.Strconv.ErrVarAll
import Derived.Shelf.Strconv.ParseUintEmpty
import Derived.Shelf.Strconv.ParseUint10b64
import Derived.Shelf.Strconv.ParseUint10b32
import Derived.Shelf.Strconv.ParseUint10b16
import Derived.Shelf.Strconv.ParseUint10b8
import Derived.Shelf.Strings.Search1
import Derived.Shelf.Strings.Prefix
import Derived.Ground.Names2Prog
import Derived.Shelf.Slices.Clone
import Derived.Ground.SlgnProg
import Derived.Shelf.SlicesE.Clone
import Derived.Test.YtoflckochjijcaaGreatDoorProg
set_option linter.all false
namespace Go.Proofs
open Go.Shelf
def Tryz.lays137_ren : Go.Shelf.Ren := ⟨fun | 137 => 85 | 217 => 90 | 266 => 96 | n => n, fun | 9 => 9 | 5 => 5 | 3 => 3 | n => n, fun | n => n⟩
theorem Tryz.lays137 : Go.Proofs.Lays.n137 Tryz.prog Tryz.lays137_ren := {
 mixed := by kernel_rfl
 f137 := Tryz.func85.trans (congrArg some (by kernel_rfl))
 f217 := Tryz.func90.trans (congrArg some (by kernel_rfl))
 f266 := Tryz.func96.trans (congrArg some (by kernel_rfl))
 t3 := Tryz.underlying3
 a3 := Tryz.isAgg3
 z3 := Tryz.sizeOf3
 v3 := Tryz.zeroValue3
 t5 := Tryz.underlying5
 a5 := Tryz.isAgg5
 z5 := Tryz.sizeOf5
 v5 := Tryz.zeroValue5
 t9 := Tryz.underlying9
 a9 := Tryz.isAgg9
 z9 := Tryz.sizeOf9
 v9 := Tryz.zeroValue9 }
open Go.RowKit in
theorem Tryz.strings_IndexByte (s : ByteArray) (c : Int) (w : World) :
  Calls Tryz.prog 85 #[.string s, .int .u8 c] w fun e w' => e = .returned (.int .i64 (Lib.indexByte s.data.toList c.toNat.toUInt8)) ∧ w' = w := Any.strings_IndexByte Tryz.lays137 s c w
def Tryz.lays210_ren : Go.Shelf.Ren := ⟨fun | 210 => 93 | 206 => 102 | n => n, fun | 9 => 9 | 4 => 4 | 3 => 3 | n => n, fun | n => n⟩
def Tryz.lays103_ren : Go.Shelf.Ren := ⟨fun | 103 => 87 | 210 => 93 | 206 => 102 | n => n, fun | 9 => 9 | 4 => 4 | 24 => 115 | 3 => 3 | n => n, fun | n => n⟩
def Tryz.lays244_ren : Go.Shelf.Ren := ⟨fun | 244 => 91 | 247 => 97 | 287 => 107 | 321 => 115 | 322 => 116 | n => n, fun | 9 => 9 | 3 => 3 | 75 => 112 | 4 => 4 | 5 => 5 | 167 => 121 | 37 => 96 | 0 => 0 | 85 => 122 | 2 => 2 | 53 => 129 | 175 => 134 | 46 => 136 | 21 => 21 | 80 => 89 | n => n, fun | n => n⟩
def Tryz.lays172_ren : Go.Shelf.Ren := ⟨fun | 172 => 86 | 244 => 91 | 245 => 92 | 247 => 97 | 279 => 98 | 280 => 99 | 281 => 100 | 282 => 101 | 287 => 107 | 316 => 108 | 171 => 79 | 205 => 109 | 321 => 115 | 322 => 116 | 243 => 89 | 246 => 95 | 283 => 103 | 284 => 104 | 285 => 105 | 286 => 106 | 129 => 111 | 317 => 110 | 318 => 112 | 319 => 113 | 320 => 114 | 337 => 117 | 338 => 118 | n => n, fun | 9 => 9 | 3 => 3 | 75 => 112 | 76 => 113 | 4 => 4 | 5 => 5 | 167 => 121 | 37 => 96 | 0 => 0 | 85 => 122 | 2 => 2 | 168 => 124 | 53 => 129 | 175 => 134 | 46 => 136 | 210 => 138 | 127 => 148 | 145 => 151 | 143 => 149 | 21 => 21 | 171 => 128 | 173 => 132 | 212 => 141 | 51 => 142 | 20 => 20 | 213 => 143 | 232 => 153 | 233 => 154 | 80 => 89 | n => n, fun | 15 => 1 | 16 => 2 | 17 => 3 | 18 => 4 | 19 => 5 | n => n⟩
def Tryz.lays129_ren : Go.Shelf.Ren := ⟨fun | 129 => 111 | n => n, fun | 53 => 129 | 3 => 3 | 4 => 4 | 46 => 136 | 5 => 5 | 9 => 9 | n => n, fun | n => n⟩
def Tryz.lays317_ren : Go.Shelf.Ren := ⟨fun | 317 => 110 | n => n, fun | 3 => 3 | 46 => 136 | n => n, fun | n => n⟩
def Tryz.lays318_ren : Go.Shelf.Ren := ⟨fun | 318 => 112 | n => n, fun | 3 => 3 | 4 => 4 | n => n, fun | n => n⟩
def Tryz.lays283_ren : Go.Shelf.Ren := ⟨fun | 283 => 103 | n => n, fun | 3 => 3 | 9 => 9 | 4 => 4 | n => n, fun | n => n⟩
def Tryz.laysM284_ren : Go.Shelf.Ren := ⟨fun | 284 => 104 | 129 => 111 | 317 => 110 | 318 => 112 | n => n, fun | 53 => 129 | 3 => 3 | 212 => 141 | 0 => 0 | 4 => 4 | 46 => 136 | 5 => 5 | 9 => 9 | n => n, fun | 17 => 3 | n => n⟩
def Tryz.lays285_ren : Go.Shelf.Ren := ⟨fun | 285 => 105 | n => n, fun | 37 => 96 | 53 => 129 | 3 => 3 | 4 => 4 | 51 => 142 | 9 => 9 | 5 => 5 | 0 => 0 | n => n, fun | n => n⟩
def Tryz.laysM246_ren : Go.Shelf.Ren := ⟨fun | 246 => 95 | 283 => 103 | 284 => 104 | 285 => 105 | 286 => 106 | 129 => 111 | 317 => 110 | 318 => 112 | 319 => 113 | 320 => 114 | 337 => 117 | 338 => 118 | n => n, fun | 2 => 2 | 3 => 3 | 9 => 9 | 4 => 4 | 171 => 128 | 0 => 0 | 53 => 129 | 37 => 96 | 5 => 5 | 173 => 132 | 212 => 141 | 51 => 142 | 20 => 20 | 213 => 143 | 46 => 136 | 232 => 153 | 233 => 154 | n => n, fun | 17 => 3 | 18 => 4 | 19 => 5 | n => n⟩
def Tryz.lays246_ren : Go.Shelf.Ren := ⟨fun | 246 => 95 | 283 => 103 | 284 => 104 | 285 => 105 | 286 => 106 | 129 => 111 | 317 => 110 | 318 => 112 | 319 => 113 | 320 => 114 | 337 => 117 | 338 => 118 | n => n, fun | 2 => 2 | 3 => 3 | 9 => 9 | 4 => 4 | 171 => 128 | 0 => 0 | 53 => 129 | 37 => 96 | 5 => 5 | 173 => 132 | 212 => 141 | 51 => 142 | 20 => 20 | 213 => 143 | 46 => 136 | 232 => 153 | 233 => 154 | n => n, fun | 17 => 3 | 18 => 4 | 19 => 5 | n => n⟩
def Tryz.laysM243_ren : Go.Shelf.Ren := ⟨fun | 243 => 89 | 246 => 95 | 283 => 103 | 284 => 104 | 285 => 105 | 286 => 106 | 129 => 111 | 317 => 110 | 318 => 112 | 319 => 113 | 320 => 114 | 337 => 117 | 338 => 118 | n => n, fun | 3 => 3 | 9 => 9 | 2 => 2 | 4 => 4 | 171 => 128 | 0 => 0 | 53 => 129 | 37 => 96 | 5 => 5 | 173 => 132 | 212 => 141 | 51 => 142 | 20 => 20 | 213 => 143 | 46 => 136 | 232 => 153 | 233 => 154 | n => n, fun | 17 => 3 | 18 => 4 | 19 => 5 | n => n⟩
def Tryz.lays243_ren : Go.Shelf.Ren := ⟨fun | 243 => 89 | 246 => 95 | 283 => 103 | 284 => 104 | 285 => 105 | 286 => 106 | 129 => 111 | 317 => 110 | 318 => 112 | 319 => 113 | 320 => 114 | 337 => 117 | 338 => 118 | n => n, fun | 3 => 3 | 9 => 9 | 2 => 2 | 4 => 4 | 171 => 128 | 0 => 0 | 53 => 129 | 37 => 96 | 5 => 5 | 173 => 132 | 212 => 141 | 51 => 142 | 20 => 20 | 213 => 143 | 46 => 136 | 232 => 153 | 233 => 154 | n => n, fun | 17 => 3 | 18 => 4 | 19 => 5 | n => n⟩
def Tryz.laysM171_ren : Go.Shelf.Ren := ⟨fun | 171 => 79 | 243 => 89 | 246 => 95 | 283 => 103 | 284 => 104 | 285 => 105 | 286 => 106 | 129 => 111 | 317 => 110 | 318 => 112 | 319 => 113 | 320 => 114 | 337 => 117 | 338 => 118 | n => n, fun | 3 => 3 | 9 => 9 | 2 => 2 | 4 => 4 | 171 => 128 | 0 => 0 | 53 => 129 | 37 => 96 | 5 => 5 | 173 => 132 | 212 => 141 | 51 => 142 | 20 => 20 | 213 => 143 | 46 => 136 | 232 => 153 | 233 => 154 | n => n, fun | 17 => 3 | 18 => 4 | 19 => 5 | n => n⟩
theorem Tryz.laysM171 : Go.Proofs.LaysM.n171 Tryz.prog Tryz.laysM171_ren := {
 mixed := by kernel_rfl
 f129 := Tryz.func111.trans (congrArg some (by kernel_rfl))
 f171 := Tryz.func79.trans (congrArg some (by kernel_rfl))
 f243 := Tryz.func89.trans (congrArg some (by kernel_rfl))
 f246 := Tryz.func95.trans (congrArg some (by kernel_rfl))
 f283 := Tryz.func103.trans (congrArg some (by kernel_rfl))
 f284 := Tryz.func104.trans (congrArg some (by kernel_rfl))
 f285 := Tryz.func105.trans (congrArg some (by kernel_rfl))
 f286 := Tryz.func106.trans (congrArg some (by kernel_rfl))
 f317 := Tryz.func110.trans (congrArg some (by kernel_rfl))
 f318 := Tryz.func112.trans (congrArg some (by kernel_rfl))
 f319 := Tryz.func113.trans (congrArg some (by kernel_rfl))
 f320 := Tryz.func114.trans (congrArg some (by kernel_rfl))
 f337 := Tryz.func117.trans (congrArg some (by kernel_rfl))
 f338 := Tryz.func118.trans (congrArg some (by kernel_rfl))
 t0 := Tryz.underlying0
 a0 := Tryz.isAgg0
 z0 := Tryz.sizeOf0
 v0 := Tryz.zeroValue0
 t2 := Tryz.underlying2
 a2 := Tryz.isAgg2
 z2 := Tryz.sizeOf2
 v2 := Tryz.zeroValue2
 t3 := Tryz.underlying3
 a3 := Tryz.isAgg3
 z3 := Tryz.sizeOf3
 v3 := Tryz.zeroValue3
 t4 := Tryz.underlying4
 a4 := Tryz.isAgg4
 z4 := Tryz.sizeOf4
 v4 := Tryz.zeroValue4
 t5 := Tryz.underlying5
 a5 := Tryz.isAgg5
 z5 := Tryz.sizeOf5
 v5 := Tryz.zeroValue5
 t9 := Tryz.underlying9
 a9 := Tryz.isAgg9
 z9 := Tryz.sizeOf9
 v9 := Tryz.zeroValue9
 t20 := Tryz.underlying20
 a20 := Tryz.isAgg20
 z20 := Tryz.sizeOf20
 v20 := Tryz.zeroValue20
 t37 := Tryz.underlying96
 a37 := Tryz.isAgg96
 z37 := Tryz.sizeOf96
 v37 := Tryz.zeroValue96
 t46 := Tryz.underlying136
 a46 := Tryz.isAgg136
 z46 := Tryz.sizeOf136
 v46 := Tryz.zeroValue136
 t51 := Tryz.underlying142
 a51 := Tryz.isAgg142
 z51 := Tryz.sizeOf142
 v51 := Tryz.zeroValue142
 t53 := Tryz.underlying129
 a53 := Tryz.isAgg129
 z53 := Tryz.sizeOf129
 v53 := Tryz.zeroValue129
 t171 := Tryz.underlying128
 a171 := Tryz.isAgg128
 z171 := Tryz.sizeOf128
 v171 := Tryz.zeroValue128
 t173 := Tryz.underlying132
 a173 := Tryz.isAgg132
 z173 := Tryz.sizeOf132
 v173 := Tryz.zeroValue132
 t212 := Tryz.underlying141
 a212 := Tryz.isAgg141
 z212 := Tryz.sizeOf141
 v212 := Tryz.zeroValue141
 t213 := Tryz.underlying143
 a213 := Tryz.isAgg143
 z213 := Tryz.sizeOf143
 t232 := Tryz.underlying153
 a232 := Tryz.isAgg153
 z232 := Tryz.sizeOf153
 v232 := Tryz.zeroValue153
 t233 := Tryz.underlying154
 a233 := Tryz.isAgg154
 z233 := Tryz.sizeOf154
 v233 := Tryz.zeroValue154
 g17 := by kernel_rfl
 g18 := by kernel_rfl
 g19 := by kernel_rfl
 i0 := by kernel_rfl
 i2 := by kernel_rfl
 i3 := by kernel_rfl
 i4 := by kernel_rfl
 i5 := by kernel_rfl
 i9 := by kernel_rfl
 i20 := by kernel_rfl
 i37 := by kernel_rfl
 i46 := by kernel_rfl
 i51 := by kernel_rfl
 i53 := by kernel_rfl
 i171 := by kernel_rfl
 i173 := by kernel_rfl
 i212 := by kernel_rfl
 i232 := by kernel_rfl
 i233 := by kernel_rfl
 m17 := by kernel_rfl
 m18 := by kernel_rfl
 m19 := by kernel_rfl }
open Go.RowKit Go.Sort Go.Lib in
theorem Tryz.strconv_Itoa (n : Int) (h0 : -9223372036854775808 ≤ n) (h1 : n ≤ 9223372036854775807) (w : World) (htab : Lib.TabIs Tryz.prog w "internal/strconv.uint64pow10" .u64 Lib.pow10Tab) :
  Calls Tryz.prog 79 #[.int .i64 n] w fun e w' => e = .returned (.string ⟨(Lib.itoa n).toArray⟩) ∧ ∃ k os, w' = grow (w.drewN k) os := Any.strconv_Itoa Tryz.laysM171 n h0 h1 w htab
def Tryz.lays171_ren : Go.Shelf.Ren := ⟨fun | 171 => 79 | 243 => 89 | 246 => 95 | 283 => 103 | 284 => 104 | 285 => 105 | 286 => 106 | 129 => 111 | 317 => 110 | 318 => 112 | 319 => 113 | 320 => 114 | 337 => 117 | 338 => 118 | n => n, fun | 3 => 3 | 9 => 9 | 2 => 2 | 4 => 4 | 171 => 128 | 0 => 0 | 53 => 129 | 37 => 96 | 5 => 5 | 173 => 132 | 212 => 141 | 51 => 142 | 20 => 20 | 213 => 143 | 46 => 136 | 232 => 153 | 233 => 154 | n => n, fun | 17 => 3 | 18 => 4 | 19 => 5 | n => n⟩
def Tryz.lays247_ren : Go.Shelf.Ren := ⟨fun | 247 => 97 | 287 => 107 | 321 => 115 | 322 => 116 | n => n, fun | 9 => 9 | 3 => 3 | 2 => 2 | 75 => 112 | 4 => 4 | 167 => 121 | 5 => 5 | 53 => 129 | 175 => 134 | 46 => 136 | 37 => 96 | 0 => 0 | 21 => 21 | 80 => 89 | n => n, fun | n => n⟩
def Tryz.laysM316_ren : Go.Shelf.Ren := ⟨fun | 316 => 108 | n => n, fun | 9 => 9 | 3 => 3 | 4 => 4 | 37 => 96 | 0 => 0 | 127 => 148 | 5 => 5 | n => n, fun | n => n⟩
def Tryz.laysM279_ren : Go.Shelf.Ren := ⟨fun | 279 => 98 | 316 => 108 | n => n, fun | 9 => 9 | 168 => 124 | 75 => 112 | 210 => 138 | 3 => 3 | 4 => 4 | 37 => 96 | 0 => 0 | 127 => 148 | 80 => 89 | 5 => 5 | n => n, fun | 15 => 1 | n => n⟩
def Tryz.laysC245_ren : Go.Shelf.Ren := ⟨fun | 245 => 92 | 279 => 98 | 280 => 99 | 281 => 100 | 282 => 101 | 316 => 108 | 171 => 79 | 205 => 109 | 243 => 89 | 246 => 95 | 283 => 103 | 284 => 104 | 285 => 105 | 286 => 106 | 129 => 111 | 317 => 110 | 318 => 112 | 319 => 113 | 320 => 114 | 337 => 117 | 338 => 118 | n => n, fun | 9 => 9 | 3 => 3 | 75 => 112 | 167 => 121 | 4 => 4 | 168 => 124 | 210 => 138 | 37 => 96 | 0 => 0 | 127 => 148 | 145 => 151 | 143 => 149 | 2 => 2 | 171 => 128 | 53 => 129 | 5 => 5 | 173 => 132 | 212 => 141 | 51 => 142 | 20 => 20 | 213 => 143 | 46 => 136 | 232 => 153 | 233 => 154 | 80 => 89 | n => n, fun | 15 => 1 | 16 => 2 | 17 => 3 | 18 => 4 | 19 => 5 | n => n⟩
def Tryz.laysC172_ren : Go.Shelf.Ren := ⟨fun | 172 => 86 | 244 => 91 | 245 => 92 | 247 => 97 | 279 => 98 | 280 => 99 | 281 => 100 | 282 => 101 | 287 => 107 | 316 => 108 | 171 => 79 | 205 => 109 | 321 => 115 | 322 => 116 | 243 => 89 | 246 => 95 | 283 => 103 | 284 => 104 | 285 => 105 | 286 => 106 | 129 => 111 | 317 => 110 | 318 => 112 | 319 => 113 | 320 => 114 | 337 => 117 | 338 => 118 | n => n, fun | 9 => 9 | 3 => 3 | 75 => 112 | 76 => 113 | 4 => 4 | 5 => 5 | 167 => 121 | 37 => 96 | 0 => 0 | 85 => 122 | 2 => 2 | 168 => 124 | 53 => 129 | 175 => 134 | 46 => 136 | 210 => 138 | 127 => 148 | 145 => 151 | 143 => 149 | 21 => 21 | 171 => 128 | 173 => 132 | 212 => 141 | 51 => 142 | 20 => 20 | 213 => 143 | 232 => 153 | 233 => 154 | 80 => 89 | n => n, fun | 15 => 1 | 16 => 2 | 17 => 3 | 18 => 4 | 19 => 5 | n => n⟩
theorem Tryz.laysC172 : Go.Proofs.LaysC.n172 Tryz.prog Tryz.laysC172_ren := {
 mixed := by kernel_rfl
 f129 := Tryz.func111.trans (congrArg some (by kernel_rfl))
 f171 := Tryz.func79.trans (congrArg some (by kernel_rfl))
 f172 := Tryz.func86.trans (congrArg some (by kernel_rfl))
 f205 := Tryz.func109.trans (congrArg some (by kernel_rfl))
 f243 := Tryz.func89.trans (congrArg some (by kernel_rfl))
 f244 := Tryz.func91.trans (congrArg some (by kernel_rfl))
 f245 := Tryz.func92.trans (congrArg some (by kernel_rfl))
 f246 := Tryz.func95.trans (congrArg some (by kernel_rfl))
 f247 := Tryz.func97.trans (congrArg some (by kernel_rfl))
 f279 := Tryz.func98.trans (congrArg some (by kernel_rfl))
 f280 := Tryz.func99.trans (congrArg some (by kernel_rfl))
 f281 := Tryz.func100.trans (congrArg some (by kernel_rfl))
 f282 := Tryz.func101.trans (congrArg some (by kernel_rfl))
 f283 := Tryz.func103.trans (congrArg some (by kernel_rfl))
 f284 := Tryz.func104.trans (congrArg some (by kernel_rfl))
 f285 := Tryz.func105.trans (congrArg some (by kernel_rfl))
 f286 := Tryz.func106.trans (congrArg some (by kernel_rfl))
 f287 := Tryz.func107.trans (congrArg some (by kernel_rfl))
 f316 := Tryz.func108.trans (congrArg some (by kernel_rfl))
 f317 := Tryz.func110.trans (congrArg some (by kernel_rfl))
 f318 := Tryz.func112.trans (congrArg some (by kernel_rfl))
 f319 := Tryz.func113.trans (congrArg some (by kernel_rfl))
 f320 := Tryz.func114.trans (congrArg some (by kernel_rfl))
 f321 := Tryz.func115.trans (congrArg some (by kernel_rfl))
 f322 := Tryz.func116.trans (congrArg some (by kernel_rfl))
 f337 := Tryz.func117.trans (congrArg some (by kernel_rfl))
 f338 := Tryz.func118.trans (congrArg some (by kernel_rfl))
 t0 := Tryz.underlying0
 a0 := Tryz.isAgg0
 z0 := Tryz.sizeOf0
 v0 := Tryz.zeroValue0
 t2 := Tryz.underlying2
 a2 := Tryz.isAgg2
 z2 := Tryz.sizeOf2
 v2 := Tryz.zeroValue2
 t3 := Tryz.underlying3
 a3 := Tryz.isAgg3
 z3 := Tryz.sizeOf3
 v3 := Tryz.zeroValue3
 t4 := Tryz.underlying4
 a4 := Tryz.isAgg4
 z4 := Tryz.sizeOf4
 v4 := Tryz.zeroValue4
 t5 := Tryz.underlying5
 a5 := Tryz.isAgg5
 z5 := Tryz.sizeOf5
 v5 := Tryz.zeroValue5
 t9 := Tryz.underlying9
 a9 := Tryz.isAgg9
 z9 := Tryz.sizeOf9
 v9 := Tryz.zeroValue9
 t20 := Tryz.underlying20
 a20 := Tryz.isAgg20
 z20 := Tryz.sizeOf20
 v20 := Tryz.zeroValue20
 t21 := Tryz.underlying21
 a21 := Tryz.isAgg21
 z21 := Tryz.sizeOf21
 v21 := Tryz.zeroValue21
 t37 := Tryz.underlying96
 a37 := Tryz.isAgg96
 z37 := Tryz.sizeOf96
 v37 := Tryz.zeroValue96
 t46 := Tryz.underlying136
 a46 := Tryz.isAgg136
 z46 := Tryz.sizeOf136
 v46 := Tryz.zeroValue136
 t51 := Tryz.underlying142
 a51 := Tryz.isAgg142
 z51 := Tryz.sizeOf142
 v51 := Tryz.zeroValue142
 t53 := Tryz.underlying129
 a53 := Tryz.isAgg129
 z53 := Tryz.sizeOf129
 v53 := Tryz.zeroValue129
 t75 := Tryz.underlying112
 a75 := Tryz.isAgg112
 z75 := Tryz.sizeOf112
 v75 := Tryz.zeroValue112
 t76 := Tryz.underlying113
 a76 := Tryz.isAgg113
 z76 := Tryz.sizeOf113
 v76 := Tryz.zeroValue113
 t85 := Tryz.underlying122
 a85 := Tryz.isAgg122
 z85 := Tryz.sizeOf122
 v85 := Tryz.zeroValue122
 t127 := Tryz.underlying148
 a127 := Tryz.isAgg148
 z127 := Tryz.sizeOf148
 v127 := Tryz.zeroValue148
 t143 := Tryz.underlying149
 a143 := Tryz.isAgg149
 z143 := Tryz.sizeOf149
 v143 := Tryz.zeroValue149
 t145 := Tryz.underlying151
 a145 := Tryz.isAgg151
 z145 := Tryz.sizeOf151
 v145 := Tryz.zeroValue151
 t167 := Tryz.underlying121
 a167 := Tryz.isAgg121
 z167 := Tryz.sizeOf121
 v167 := Tryz.zeroValue121
 t168 := Tryz.underlying124
 a168 := Tryz.isAgg124
 z168 := Tryz.sizeOf124
 v168 := Tryz.zeroValue124
 t171 := Tryz.underlying128
 a171 := Tryz.isAgg128
 z171 := Tryz.sizeOf128
 v171 := Tryz.zeroValue128
 t173 := Tryz.underlying132
 a173 := Tryz.isAgg132
 z173 := Tryz.sizeOf132
 v173 := Tryz.zeroValue132
 t175 := Tryz.underlying134
 a175 := Tryz.isAgg134
 z175 := Tryz.sizeOf134
 v175 := Tryz.zeroValue134
 t210 := Tryz.underlying138
 a210 := Tryz.isAgg138
 z210 := Tryz.sizeOf138
 v210 := Tryz.zeroValue138
 t212 := Tryz.underlying141
 a212 := Tryz.isAgg141
 z212 := Tryz.sizeOf141
 v212 := Tryz.zeroValue141
 t213 := Tryz.underlying143
 a213 := Tryz.isAgg143
 z213 := Tryz.sizeOf143
 t232 := Tryz.underlying153
 a232 := Tryz.isAgg153
 z232 := Tryz.sizeOf153
 v232 := Tryz.zeroValue153
 t233 := Tryz.underlying154
 a233 := Tryz.isAgg154
 z233 := Tryz.sizeOf154
 v233 := Tryz.zeroValue154
 g15 := by kernel_rfl
 g16 := by kernel_rfl
 g17 := by kernel_rfl
 g18 := by kernel_rfl
 g19 := by kernel_rfl
 t80 := Tryz.underlying89
 a80 := Tryz.isAgg89
 z80 := Tryz.sizeOf89
 v80 := Tryz.zeroValue89
 i0 := by kernel_rfl
 i2 := by kernel_rfl
 i3 := by kernel_rfl
 i4 := by kernel_rfl
 i5 := by kernel_rfl
 i9 := by kernel_rfl
 i20 := by kernel_rfl
 i21 := by kernel_rfl
 i37 := by kernel_rfl
 i46 := by kernel_rfl
 i51 := by kernel_rfl
 i53 := by kernel_rfl
 i75 := by kernel_rfl
 i76 := by kernel_rfl
 i80 := by kernel_rfl
 i85 := by kernel_rfl
 i127 := by kernel_rfl
 i143 := by kernel_rfl
 i145 := by kernel_rfl
 i167 := by kernel_rfl
 i168 := by kernel_rfl
 i171 := by kernel_rfl
 i173 := by kernel_rfl
 i175 := by kernel_rfl
 i210 := by kernel_rfl
 i212 := by kernel_rfl
 i232 := by kernel_rfl
 i233 := by kernel_rfl
 m15 := by kernel_rfl
 m16 := by kernel_rfl
 m17 := by kernel_rfl
 m18 := by kernel_rfl
 m19 := by kernel_rfl
 c0 := by kernel_rfl
 c2 := by kernel_rfl
 c3 := by kernel_rfl
 c4 := by kernel_rfl
 c5 := by kernel_rfl
 c9 := by kernel_rfl
 c20 := by kernel_rfl
 c21 := by kernel_rfl
 c37 := by kernel_rfl
 c46 := by kernel_rfl
 c51 := by kernel_rfl
 c53 := by kernel_rfl
 c75 := by kernel_rfl
 c76 := by kernel_rfl
 c80 := by kernel_rfl
 c85 := by kernel_rfl
 c127 := by kernel_rfl
 c143 := by kernel_rfl
 c145 := by kernel_rfl
 c167 := by kernel_rfl
 c168 := by kernel_rfl
 c171 := by kernel_rfl
 c173 := by kernel_rfl
 c175 := by kernel_rfl
 c210 := by kernel_rfl
 c212 := by kernel_rfl
 c213 := by kernel_rfl
 c232 := by kernel_rfl
 c233 := by kernel_rfl }
def Tryz.lays321_ren : Go.Shelf.Ren := ⟨fun | 321 => 115 | n => n, fun | 5 => 5 | n => n, fun | n => n⟩
def Tryz.lays287_ren : Go.Shelf.Ren := ⟨fun | 287 => 107 | 321 => 115 | 322 => 116 | n => n, fun | 9 => 9 | 3 => 3 | 53 => 129 | 75 => 112 | 4 => 4 | 167 => 121 | 5 => 5 | 46 => 136 | 37 => 96 | 0 => 0 | 21 => 21 | 80 => 89 | n => n, fun | n => n⟩
def Tryz.laysC247_ren : Go.Shelf.Ren := ⟨fun | 247 => 97 | 287 => 107 | 321 => 115 | 322 => 116 | n => n, fun | 9 => 9 | 3 => 3 | 2 => 2 | 75 => 112 | 4 => 4 | 167 => 121 | 5 => 5 | 53 => 129 | 175 => 134 | 46 => 136 | 37 => 96 | 0 => 0 | 21 => 21 | 80 => 89 | n => n, fun | n => n⟩
def Tryz.laysC244_ren : Go.Shelf.Ren := ⟨fun | 244 => 91 | 247 => 97 | 287 => 107 | 321 => 115 | 322 => 116 | n => n, fun | 9 => 9 | 3 => 3 | 75 => 112 | 4 => 4 | 5 => 5 | 167 => 121 | 37 => 96 | 0 => 0 | 85 => 122 | 2 => 2 | 53 => 129 | 175 => 134 | 46 => 136 | 21 => 21 | 80 => 89 | n => n, fun | n => n⟩
def Tryz.laysM280_ren : Go.Shelf.Ren := ⟨fun | 280 => 99 | 316 => 108 | n => n, fun | 9 => 9 | 168 => 124 | 75 => 112 | 210 => 138 | 3 => 3 | 4 => 4 | 37 => 96 | 0 => 0 | 127 => 148 | 80 => 89 | 5 => 5 | n => n, fun | 16 => 2 | n => n⟩
open Go.RowKit in
theorem Tryz.strconv_Atoi_ok (s : ByteArray) (hmax : s.size ≤ 9223372036854775806) (v : Int) (h : Lib.atoiAll s.data.toList = .ok v) (w : World) :
  Calls Tryz.prog 86 #[.string s] w fun e w' => e = .returned (.tuple #[.int .i64 v, .nilIface]) ∧ (w' = w ∨ ∃ t, w' = Lib.bytesWorld w 5 t) := Any.strconv_Atoi_ok Tryz.laysC172 s hmax v h w
open Go.RowKit in
theorem Tryz.strconv_Atoi_range (s : ByteArray) (hlim : s.size ≤ 281474976710656) (h : Lib.atoiAll s.data.toList = .range) (ev : Value) (w : World) (hv : w.cell? ⟨2, 0, none⟩ = some ev) (hev : ev = .nilIface ∨ ∃ te pe, ev = .iface te pe) :
  Calls Tryz.prog 86 #[.string s] w fun e w' => ∃ N, e = .returned (.tuple #[.int .i64 (Lib.atoiSat s.data.toList), .iface 124 (.pointer (some ⟨N, 0, none⟩))]) ∧ w.heap.size ≤ N ∧ w'.heap[N]? = some (.cells #[.string ⟨#[65, 116, 111, 105]⟩, .string s, ev] 138 (0, 0)) ∧ Below w.heap.size w w' := Any.strconv_Atoi_range Tryz.laysC172 s hlim h ev w hv hev
def Tryz.lays217_ren : Go.Shelf.Ren := ⟨fun | 217 => 90 | 266 => 96 | n => n, fun | 9 => 9 | 5 => 5 | 3 => 3 | n => n, fun | n => n⟩
def Tryz.lays206_ren : Go.Shelf.Ren := ⟨fun | 206 => 102 | n => n, fun | 9 => 9 | 4 => 4 | 3 => 3 | n => n, fun | n => n⟩
def Tryz.laysNm215_ren : Go.Shelf.Ren := ⟨fun | 15 => 43 | n => n, fun | 22 => 36 | 3 => 3 | 4 => 4 | n => n, fun | n => n⟩
def Tryz.laysSlE041_f43_ren : Go.Shelf.Ren := ⟨fun | 41 => 43 | n => n, fun | 22 => 36 | 23 => 3 | 4 => 4 | n => n, fun | n => n⟩
end Go.Proofs
