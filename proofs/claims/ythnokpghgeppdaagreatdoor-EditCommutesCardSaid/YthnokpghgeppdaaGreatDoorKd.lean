/- texts that the proof reaches, part 4 -/
import Derived.Test.YthnokpghgeppdaaGreatDoorKc
import Derived.Test.YthnokpghgeppdaaGreatDoorRows
import Derived.Test.YthnokpghgeppdaaGreatDoorTie
import Derived.Test.YthnokpghgeppdaaGreatDoorCards
import Derived.Lay
import Derived.Stop.Joined
import Derived.SevenTiedAt
import Derived.Shelf.Vars
import Derived.Handed
import Derived.LaidMore
set_option linter.all false
set_option maxRecDepth 100000
namespace Go.Proofs.YthnokpghgeppdaaGreatDoor
open Go Go.ChangeShapes Go.WideShapes Go.ChangeAt Go.RowKit Go.Deep Go.Joins Go.EV
theorem own:ownKnob Tryz.prog.godebug=none:=by kernel_rfl
theorem laidOut:laidOutB Tryz.prog=true:=by kernel_rfl
theorem zs0:∀t,t<Tryz.prog.types.size→zkj Tryz.prog t=true∧zbz Tryz.prog t=true:=zsx (by kernel_rfl)
theorem zf{P:Program}{t:TypeId}{fs:Array Field}{cs:List V}(ht:P.underlying t=some (.struct fs))(h:zk P t cs)(i:Nat)(off ty n:Nat){f:Field}(hf:fs[i]?=some f)(ho:f.offset=off)(hy:f.type=ty)(hn:P.cellsOf ty=n):zk P ty ((cs.drop off).take n):=by
 subst ho;subst hy;subst hn;refine(zV ht h).2 f ?_;rw[← Array.getElem?_toList]at hf;exact List.mem_of_getElem? hf
section
variable{H:Type}{enc:TypeId×Value→H}{W:World}{b0:Nat}{r:Reach}{v:Value}{d:DataW H}{p:List MemPlace}{t:TypeId}
theorem zuk(ht:Nat.ble (t+1) Tryz.prog.types.size=true)(h:DataW.Trod enc Tryz.prog W 0 (fun _=>true) true t v d p):∃vs,zk Tryz.prog t vs∧zo none W.cell? vs v.cells.toList:=by
 obtain⟨fuel,hf⟩:=h;exact ZD zs0 fuel t _ _ (Nat.le_of_ble_eq_true ht) hf
end
def zb0 : List (String × DataW Unit) := [("math/bits.deBruijn32tab", Rows.laid_math_bits_deBruijn32tab), ("math/bits.deBruijn64tab", Rows.laid_math_bits_deBruijn64tab), ("internal/strconv.uint64pow10", Rows.laid_internal_strconv_uint64pow10), ("unicode/utf8.acceptRanges", Rows.laid_unicode_utf8_acceptRanges), ("unicode.White_Space", Rows.laid_unicode_White_Space), ("strings.asciiSpace", Rows.laid_strings_asciiSpace), ("greenbelt/lex.signs", Rows.laid_greenbelt_lex_signs), ("unicode/utf8.first", Rows.laid_unicode_utf8_first)]
theorem zs1(os:Os)(args:Array Value):laidMetH Tryz.prog zb0 ((World.laidAll Tryz.prog os zb0).forCall (fun _ _=>0) ⟨#[],args,[]⟩).memory:=by
 rw[MakeChecks.laidMetH_plain _ _ _ (by kernel_rfl)];exact laidMet_laidAll _ (by kernel_rfl) (by kernel_rfl)
theorem ZE{P:Program}{w:World}{n:String}{g:Nat}{cs:Array Value}(hg:P.globalNamed n=some g)(h:w.var? P n=some cs):∃t fr,w.heap[g]?=some (.cells cs t fr):=by
 simp only[World.var?,hg,Option.bind_some]at h;split at h
 ·rename_i cs' t fr hh
  cases h;exact⟨t,fr,hh⟩
 ·cases h
theorem ZF{H:Type}{enc:TypeId×Value→H}{P:Program}{w:World}{base:Nat}{sp:Nat→Bool}{held:Bool}{fuel:Nat}{t e:TypeId}{n:Nat}{cs:List Value}{zs:List (List UInt8)}{p:List MemPlace}
  (ht:P.underlying t=some (.array n e)) (he:P.underlying e=some .string) (hce:P.cellsOf e=1) (hct:P.cellsOf t=n)
  (h:DataW.trod enc P w base sp held fuel t cs=some (.agg (zs.map fun z=>.lit (.string z)),p)):cs=zs.map fun z=>Value.string ⟨z.toArray⟩:=by
 cases fuel with
 |zero=>simp[DataW.trod]at h
 |succ fuel =>
  simp only[DataW.trod,ht,hce,hct,Nat.mul_one]at h;split at h
  ·rename_i hl
   obtain⟨xs,hm,hx⟩:=Option.map_eq_some_iff.1 h
   have hxs:xs.map (·.1)=zs.map fun z=>(DataW.lit (.string z):DataW H):=by
    have:=congrArg Prod.fst hx;simpa using this
   have hxl:xs.length=n:=by simpa using Lib.mapM_length hm
   have hzl:zs.length=n:=by
    have:=congrArg List.length hxs;simp at this;omega
   apply List.ext_getElem?;intro i;by_cases hi:i<n
   ·obtain⟨b,hb,hf⟩:=Lib.mapM_at hm i i (by simp[hi])
    obtain⟨z,hc,rfl,_⟩:=DataW.trod_string he hf
    have h1:cs[i]?=some (.string z):=by
     have:=congrArg (·[0]?) hc;simpa[List.getElem?_take,List.getElem?_drop]using this
    have h2:(xs.map (·.1))[i]?=some (DataW.lit (.string z.data.toList):DataW H):=by simp[hb]
    rw[hxs]at h2;simp only[List.getElem?_map,Option.map_eq_some_iff,DataW.lit.injEq,Lit.string.injEq]at h2;obtain⟨z',hz',rfl⟩:=h2;simp[h1,hz']
   ·rw[List.getElem?_eq_none (by omega),List.getElem?_eq_none (by simp;omega)]
  ·cases h
theorem zxm{w:World}{g:Nat}{v:Value}(h:w.cell? ⟨g,0,none⟩=some v)(hs:∃cs t,w.heap[g]?=some (.cells cs t)∧cs.size=1):∃cur t fr,w.heap[g]?=some (.cells cur t fr)∧cur.toList=[v]:=by
 obtain⟨cs,t,hh,h1⟩:=hs;refine⟨cs,t,_,hh,?_⟩
 have hlt:0<cs.size:=by omega
 have hc:w.cell? ⟨g,0,none⟩=some cs[0]:=by simp[World.cell?,hh,hlt]
 rw[hc]at h;cases h;obtain⟨l⟩:=cs
 match l,h1 with
 |[x],_=>rfl
end Go.Proofs.YthnokpghgeppdaaGreatDoor
