/- texts that the proof reaches, part 4 -/
import Derived.Test.YtogbenbghgjbiaaGreatDoorKc
import Derived.Test.YtogbenbghgjbiaaGreatDoorRows
import Derived.Test.YtogbenbghgjbiaaGreatDoorTie
import Derived.Test.YtogbenbghgjbiaaGreatDoorCards
import Derived.Lay
import Derived.Stop.Joined
import Derived.SevenTiedAt
import Derived.Shelf.Vars
import Derived.Handed
set_option linter.all false
open Bool renaming true->bh
open Go renaming Program->bo,Value->bx,World->bF,TypeId->bK
open Go.Proofs.Tryz renaming prog->bk
open Option renaming some->aY,map_eq_some_iff->ca
set_option maxRecDepth 100000
namespace Go.Proofs.YtogbenbghgjbiaaGreatDoor
open Go Go.ChangeShapes Go.WideShapes Go.ChangeAt Go.RowKit Go.Deep Go.Joins Go.EV
def own:ownKnob Tryz.prog.godebug=none:=by kernel_rfl
def laidOut:laidOutB bk=bh:=by kernel_rfl
def zzl:∀t,t<Tryz.prog.types.size->Gb bk t=bh/\IK bk t=bh:=zzi (by kernel_rfl)
def zg{P:bo}{t:bK}{fs:Array Field}{cs:List V}(ht:P.underlying t=aY (.struct fs))(h:zn P t cs)(i:Nat)(off ty n:Nat){f:Field}(hf:fs[i]?=aY f)(ho:f.offset=off)(hy:f.type=ty)(hn:P.cellsOf ty=n):zn P ty ((cs.drop off).take n):=by subst ho;subst hy;subst hn;refine(yK ht h).2 f ?_;rw[<- Array.getElem?_toList]at hf;exact List.mem_of_getElem? hf
section
variable{H:Type}{enc:bK×bx->H}{W:bF}{b0:Nat}{r:Reach}{v:bx}{d:DataW H}{p:List MemPlace}{t:bK}
def MZ(ht:Nat.ble (t+1) Tryz.prog.types.size=bh)(h:DataW.Trod enc bk W 0 (λ_=>bh) bh t v d p):∃vs,zn bk t vs/\zC none W.cell? vs v.cells.toList:=by obtain⟨fuel,hf⟩:=h;exact MD zzl fuel t _ _ (mi ht) hf
end
def Dj : List (String × DataW Unit) := [("math/bits.deBruijn32tab", Rows.laid_math_bits_deBruijn32tab), ("math/bits.deBruijn64tab", Rows.laid_math_bits_deBruijn64tab), ("internal/strconv.uint64pow10", Rows.laid_internal_strconv_uint64pow10), ("unicode/utf8.acceptRanges", Rows.laid_unicode_utf8_acceptRanges), ("unicode.White_Space", Rows.laid_unicode_White_Space), ("strings.asciiSpace", Rows.laid_strings_asciiSpace), ("greenbelt/lex.signs", Rows.laid_greenbelt_lex_signs), ("unicode/utf8.first", Rows.laid_unicode_utf8_first)]
def zzm(os:Os)(args:Array bx):laidMetH bk Dj ((World.laidAll bk os Dj).forCall (λ_ _=>0) ⟨#[],args,[]⟩).memory:=by rw[MakeChecks.laidMetH_plain _ _ _ (by kernel_rfl)];exact laidMet_laidAll _ (by kernel_rfl) (by kernel_rfl)
def P5{P:bo}{w:bF}{n:String}{g:Nat}{cs:Array bx}(hg:P.globalNamed n=aY g)(h:w.var? P n=aY cs):∃t fr,w.heap[g]?=aY (.cells cs t fr):=by
 simp only[World.var?,hg,aC]at h;split at h
 .rename_i cs' t fr hh;cases h;exact⟨t,fr,hh⟩
 .cases h
def ze3{H:Type}{enc:bK×bx->H}{P:bo}{w:bF}{base:Nat}{sp:Nat->Bool}{held:Bool}{fuel:Nat}{t e:bK}{n:Nat}{cs:List bx}{zs:List aj}{p:List MemPlace}
  (ht:P.underlying t=aY (.array n e)) (he:P.underlying e=aY .string) (B0:P.cellsOf e=1) (hct:P.cellsOf t=n)
  (h:DataW.trod enc P w base sp held fuel t cs=aY (.agg (zs.map λz=>.lit (.string z)),p)):cs=zs.map λz=>Value.string ⟨z.toArray⟩:=by
 cases fuel with
 |zero=>simp[DataW.trod]at h
 |succ fuel =>
  simp only[DataW.trod,ht,B0,hct,Nat.mul_one]at h;split at h
  .rename_i hl;obtain⟨xs,hm,hx⟩:=ca.1 h
   have B':xs.map (·.1)=zs.map λz=>(DataW.lit (.string z):DataW H):=by have:=aP Prod.fst hx;simpa using this
   have U6:xs.length=n:=by simpa using Lib.mapM_length hm
   have LI:zs.length=n:=by have:=aP List.length B';simp at this;omega
   apply List.ext_getElem?;intro i;by_cases hi:i<n
   .obtain⟨b,hb,hf⟩:=Lib.mapM_at hm i i (by simp[hi]);obtain⟨z,hc,rfl,_⟩:=DataW.trod_string he hf
    have h1:cs[i]?=aY (.string z):=by have:=aP (·[0]?) hc;simpa[List.getElem?_take,List.getElem?_drop]using this
    have h2:(xs.map (·.1))[i]?=aY (DataW.lit (.string z.data.toList):DataW H):=by simp[hb]
    rw[B']at h2;simp only[List.getElem?_map,ca,DataW.lit.injEq,Lit.string.injEq]at h2;obtain⟨z',hz',rfl⟩:=h2;simp[h1,hz']
   .rw[List.getElem?_eq_none ab,List.getElem?_eq_none (by simp;omega)]
  .cases h
def zEg{w:bF}{g:Nat}{v:bx}(h:w.cell? ⟨g,0,none⟩=aY v)(hs:∃cs t,w.heap[g]?=aY (.cells cs t)/\cs.size=1):∃cur t fr,w.heap[g]?=aY (.cells cur t fr)/\cur.toList=[v]:=by
 obtain⟨cs,t,hh,h1⟩:=hs;refine⟨cs,t,_,hh,?_⟩;have ib:0<cs.size:=ab
 have hc:w.cell? ⟨g,0,none⟩=aY cs[0]:=by simp[World.cell?,hh,ib]
 rw[hc]at h;cases h;obtain⟨l⟩:=cs
 match l,h1 with
 |[x],_=>rfl
end Go.Proofs.YtogbenbghgjbiaaGreatDoor
