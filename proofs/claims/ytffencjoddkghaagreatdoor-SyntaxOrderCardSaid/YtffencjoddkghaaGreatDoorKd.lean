/- texts that the proof reaches, part 4 -/
import Derived.Test.YtffencjoddkghaaGreatDoorKc
import Derived.Test.YtffencjoddkghaaGreatDoorRows
import Derived.Test.YtffencjoddkghaaGreatDoorTie
import Derived.Test.YtffencjoddkghaaGreatDoorCards
import Derived.Stop.Joined
import Derived.SevenTiedAt
import Derived.Shelf.Vars
import Derived.Handed
import Derived.LaidMore
set_option linter.all false
open Bool renaming true->bg
open Go renaming Program->bo,Value->bw,World->bF,TypeId->bG
open Go.Proofs.Tryz renaming prog->bm
open Option renaming some->bc,map_eq_some_iff->cx
set_option maxRecDepth 100000
namespace Go.Proofs.YtffencjoddkghaaGreatDoor
open Go Go.ChangeShapes Go.WideShapes Go.ChangeAt Go.RowKit Go.Deep Go.Joins Go.EV
def own:ownKnob Tryz.prog.godebug=none:=aj
def laidOut:laidOutB bm=bg:=aj
def zJ0:∀t,t<Tryz.prog.types.size->zym bm t=bg/\zn8 bm t=bg:=zJx aj
def zn{P:bo}{t:bG}{fs:Array Field}{cs:List V}(ht:P.underlying t=bc (.struct fs))(h:zG P t cs)(i:Nat)(off ty n:Nat){f:Field}(hf:fs[i]?=bc f)(ho:f.offset=off)(hy:f.type=ty)(hn:P.cellsOf ty=n):zG P ty ((cs.drop off).take n):=by
 subst ho;subst hy;subst hn;refine(xD ht h).2 f ?_;rw[<- Array.getElem?_toList]at hf;exact List.mem_of_getElem? hf
section
variable{H:Type}{enc:bG×bw->H}{W:bF}{b0:Nat}{r:Reach}{v:bw}{d:DataW H}{p:List MemPlace}{t:bG}
def zNw(ht:Nat.ble (t+1) Tryz.prog.types.size=bg)(h:DataW.Trod enc bm W 0 (λ_=>bg) bg t v d p):∃vs,zG bm t vs/\zW none W.cell? vs v.cells.toList:=by
 obtain⟨fuel,hf⟩:=h;exact zki zJ0 fuel t _ _ (lbQ ht) hf
end
def zyo : List (String × DataW Unit) := [("math/bits.deBruijn32tab", Rows.laid_math_bits_deBruijn32tab), ("math/bits.deBruijn64tab", Rows.laid_math_bits_deBruijn64tab), ("internal/strconv.uint64pow10", Rows.laid_internal_strconv_uint64pow10), ("unicode.White_Space", Rows.laid_unicode_White_Space), ("strings.asciiSpace", Rows.laid_strings_asciiSpace), ("greenbelt/lex.signs", Rows.laid_greenbelt_lex_signs)]
def zJ1(os:Os)(args:Array bw):laidMetH bm zyo ((World.doorLaid bm 400 os).forCall (λ_ _=>0) ⟨#[],args,[]⟩).memory :=
 laidMetH_of_parts3 (fuel:=8) (laidMet_of_run' 8 aj aj) aj aj
def zkj{P:bo}{w:bF}{n:String}{g:Nat}{cs:Array bw}(hg:P.globalNamed n=bc g)(h:w.var? P n=bc cs):∃t fr,w.heap[g]?=bc (.cells cs t fr):=by
 simp only[World.var?,hg,bsQ]at h;split at h
 ·rename_i cs' t fr hh
  cases h;exact⟨t,fr,hh⟩
 ·cases h
def zkk{H:Type}{enc:bG×bw->H}{P:bo}{w:bF}{base:Nat}{sp:Nat->Bool}{held:Bool}{fuel:Nat}{t e:bG}{n:Nat}{cs:List bw}{zs:List ak}{p:List MemPlace}
  (ht:P.underlying t=bc (.array n e)) (he:P.underlying e=bc .string) (hce:P.cellsOf e=1) (hct:P.cellsOf t=n)
  (h:DataW.trod enc P w base sp held fuel t cs=bc (.agg (zs.map λz=>.lit (.string z)),p)):cs=zs.map λz=>Value.string ⟨z.toArray⟩:=by
 cases fuel with
 |zero=>simp[DataW.trod]at h
 |succ fuel =>
  simp only[DataW.trod,ht,hce,hct,Nat.mul_one]at h;split at h
  ·rename_i hl
   obtain⟨xs,hm,hx⟩:=cx.1 h
   have hxs:xs.map (·.1)=zs.map λz=>(DataW.lit (.string z):DataW H):=by
    have:=aQ Prod.fst hx;simpa using this
   have hxl:xs.length=n:=by simpa using Lib.mapM_length hm
   have hzl:zs.length=n:=by
    have:=aQ List.length hxs;simp at this;omega
   apply List.ext_getElem?;intro i;by_cases hi:i<n
   ·obtain⟨b,hb,hf⟩:=Lib.mapM_at hm i i (by simp[hi])
    obtain⟨z,hc,rfl,_⟩:=DataW.trod_string he hf
    have h1:cs[i]?=bc (.string z):=by
     have:=aQ (·[0]?) hc;simpa[List.getElem?_take,List.getElem?_drop]using this
    have h2:(xs.map (·.1))[i]?=bc (DataW.lit (.string z.data.toList):DataW H):=by simp[hb]
    rw[hxs]at h2;simp only[List.getElem?_map,cx,DataW.lit.injEq,Lit.string.injEq]at h2;obtain⟨z',hz',rfl⟩:=h2;simp[h1,hz']
   ·rw[List.getElem?_eq_none ab,List.getElem?_eq_none (by simp;omega)]
  ·cases h
def zR6{w:bF}{g:Nat}{v:bw}(h:w.cell? ⟨g,0,none⟩=bc v)(hs:∃cs t,w.heap[g]?=bc (.cells cs t)/\cs.size=1):∃cur t fr,w.heap[g]?=bc (.cells cur t fr)/\cur.toList=[v]:=by
 obtain⟨cs,t,hh,h1⟩:=hs;refine⟨cs,t,_,hh,?_⟩
 have hlt:0<cs.size:=ab
 have hc:w.cell? ⟨g,0,none⟩=bc cs[0]:=by simp[World.cell?,hh,hlt]
 rw[hc]at h;cases h;obtain⟨l⟩:=cs
 match l,h1 with
 |[x],_=>rfl
end Go.Proofs.YtffencjoddkghaaGreatDoor
