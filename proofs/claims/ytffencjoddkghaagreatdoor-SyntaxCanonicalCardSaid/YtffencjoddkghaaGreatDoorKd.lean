/- texts that the proof reaches, part 4 -/
import Derived.Test.YtffencjoddkghaaGreatDoorKc
import Derived.Test.YtffencjoddkghaaGreatDoorRows
import Derived.Test.YtffencjoddkghaaGreatDoorTie
import Derived.Test.YtffencjoddkghaaGreatDoorCards
import Derived.Stop.Joined
import Derived.SevenTiedAt
import Derived.Shelf.Vars
import Derived.Handed
import Derived.LaidMore
set_option linter.all false
open Bool renaming true->bf
open Go renaming Value->bu,World->bG,TypeId->bJ
open Go.Proofs.Tryz renaming prog->bq
open Option renaming some->bc,map_eq_some_iff->cv
set_option maxRecDepth 100000
namespace Go.Proofs.YtffencjoddkghaaGreatDoor
open Go Go.ChangeShapes Go.WideShapes Go.ChangeAt Go.RowKit Go.Deep Go.Joins Go.EV
def own:ownKnob Tryz.prog.godebug=none:=by kernel_rfl
def laidOut:laidOutB bq=bf:=by kernel_rfl
def zI6:∀t,t<Tryz.prog.types.size->zx4 bq t=bf/\znh bq t=bf:=zI4 (by kernel_rfl)
section
variable{H:Type}{enc:bJ×bu->H}{W:bG}{b0:Nat}{r:Reach}{v:bu}{d:DataW H}{p:List MemPlace}{t:bJ}
def zVo(ht:Nat.ble (t+1) Tryz.prog.types.size=bf)(h:DataW.Trod enc bq W 0 (λ_=>bf) bf t v d p):∃vs,Hi bq t vs/\zT none W.cell? vs v.cells.toList:=by
 obtain⟨fuel,hf⟩:=h;exact zjo zI6 fuel t _ _ (lb ht) hf
end
def zx6 : List (String × DataW Unit) := [("math/bits.deBruijn32tab", Rows.laid_math_bits_deBruijn32tab), ("math/bits.deBruijn64tab", Rows.laid_math_bits_deBruijn64tab), ("internal/strconv.uint64pow10", Rows.laid_internal_strconv_uint64pow10), ("unicode.White_Space", Rows.laid_unicode_White_Space), ("strings.asciiSpace", Rows.laid_strings_asciiSpace), ("greenbelt/lex.signs", Rows.laid_greenbelt_lex_signs)]
def zI7(os:Os)(args:Array bu):laidMetH bq zx6 ((World.doorLaid bq 400 os).forCall (λ_ _=>0) ⟨#[],args,[]⟩).memory :=
 laidMetH_of_parts3 (fuel:=8) (laidMet_of_run' 8 (by kernel_rfl) (by kernel_rfl)) (by kernel_rfl) (by kernel_rfl)
def zjp{P:Program}{w:bG}{n:String}{g:Nat}{cs:Array bu}(hg:P.globalNamed n=bc g)(h:w.var? P n=bc cs):∃t fr,w.heap[g]?=bc (.cells cs t fr):=by
 simp only[World.var?,hg,bsQ]at h;split at h
 ·rename_i cs' t fr hh
  cases h;exact⟨t,fr,hh⟩
 ·cases h
def zjq{H:Type}{enc:bJ×bu->H}{P:Program}{w:bG}{base:Nat}{sp:Nat->Bool}{held:Bool}{fuel:Nat}{t e:bJ}{n:Nat}{cs:List bu}{zs:List ak}{p:List MemPlace}
  (ht:P.underlying t=bc (.array n e)) (he:P.underlying e=bc .string) (hce:P.cellsOf e=1) (hct:P.cellsOf t=n)
  (h:DataW.trod enc P w base sp held fuel t cs=bc (.agg (zs.map λz=>.lit (.string z)),p)):cs=zs.map λz=>Value.string ⟨z.toArray⟩:=by
 cases fuel with
 |zero=>simp[DataW.trod]at h
 |succ fuel =>
  simp only[DataW.trod,ht,hce,hct,Nat.mul_one]at h;split at h
  ·rename_i hl
   obtain⟨xs,hm,hx⟩:=cv.1 h
   have hxs:xs.map (·.1)=zs.map λz=>(DataW.lit (.string z):DataW H):=by
    have:=aQ Prod.fst hx;simpa using this
   have hxl:xs.length=n:=by simpa using Lib.mapM_length hm
   have hzl:zs.length=n:=by
    have:=aQ List.length hxs;simp at this;omega
   apply List.ext_getElem?;intro i;by_cases hi:i<n
   ·obtain⟨b,hb,hf⟩:=Lib.mapM_at hm i i (by simp[hi])
    obtain⟨z,hc,rfl,_⟩:=DataW.trod_string he hf
    have h1:cs[i]?=bc (.string z):=by
     have:=aQ (·[0]?) hc;simpa[List.getElem?_take,List.getElem?_drop]using this
    have h2:(xs.map (·.1))[i]?=bc (DataW.lit (.string z.data.toList):DataW H):=by simp[hb]
    rw[hxs]at h2;simp only[List.getElem?_map,cv,DataW.lit.injEq,Lit.string.injEq]at h2;obtain⟨z',hz',rfl⟩:=h2;simp[h1,hz']
   ·rw[List.getElem?_eq_none ab,List.getElem?_eq_none (by simp;omega)]
  ·cases h
def zQx{w:bG}{g:Nat}{v:bu}(h:w.cell? ⟨g,0,none⟩=bc v)(hs:∃cs t,w.heap[g]?=bc (.cells cs t)/\cs.size=1):∃cur t fr,w.heap[g]?=bc (.cells cur t fr)/\cur.toList=[v]:=by
 obtain⟨cs,t,hh,h1⟩:=hs;refine⟨cs,t,_,hh,?_⟩
 have hlt:0<cs.size:=ab
 have hc:w.cell? ⟨g,0,none⟩=bc cs[0]:=by simp[World.cell?,hh,hlt]
 rw[hc]at h;cases h;obtain⟨l⟩:=cs
 match l,h1 with
 |[x],_=>rfl
end Go.Proofs.YtffencjoddkghaaGreatDoor
