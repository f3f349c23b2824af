/- texts that the proof reaches, part 4 -/
import Derived.Test.YtkmjhipiiifekaaGreatDoorKc
import Derived.Test.YtkmjhipiiifekaaGreatDoorRows
import Derived.Test.YtkmjhipiiifekaaGreatDoorTie
import Derived.Test.YtkmjhipiiifekaaGreatDoorCards
import Derived.Lay
import Derived.Stop.Joined
import Derived.SevenTiedAt
import Derived.Shelf.Vars
import Derived.Handed
set_option linter.all false
open Bool renaming true->bg
open Go renaming Program->bl,TypeId->bu,Value->bw,World->bG
open Go.Proofs.Tryz renaming prog->bj
open Option renaming some->aY,none->bh,map_eq_some_iff->bQ
set_option maxRecDepth 100000
namespace Go.Proofs.YtkmjhipiiifekaaGreatDoor
open Go Go.ChangeShapes Go.WideShapes Go.ChangeAt Go.RowKit Go.Deep Go.Joins Go.EV
def own:ownKnob Tryz.prog.godebug=bh:=by kernel_rfl
def laidOut:laidOutB bj=bg:=by kernel_rfl
def ztl:∀t,t<Tryz.prog.types.size->Cy bj t=bg/\DQ bj t=bg:=zti (by kernel_rfl)
def zf{P:bl}{t:bu}{fs:Array Field}{cs:List V}(ht:P.underlying t=aY (.struct fs))(h:zn P t cs)(i:Nat)(off ty n:Nat){f:Field}(hf:fs[i]?=aY f)(ho:f.offset=off)(hy:f.type=ty)(hn:P.cellsOf ty=n):zn P ty ((cs.drop off).take n):=by subst ho;subst hy;subst hn;refine(z7 ht h).2 f ?_;rw[<- Array.getElem?_toList]at hf;exact List.mem_of_getElem? hf
section
variable{H:Type}{enc:bu×bw->H}{W:bG}{b0:Nat}{r:Reach}{v:bw}{d:DataW H}{p:List MemPlace}{t:bu}
def DR(ht:Nat.ble (t+1) Tryz.prog.types.size=bg)(h:DataW.Trod enc bj W 0 (λ_=>bg) bg t v d p):∃vs,zn bj t vs/\zu bh W.cell? vs v.cells.toList:=by obtain⟨fuel,hf⟩:=h;exact FQ ztl fuel t _ _ (lR ht) hf
def zot{e:bu}{c:V}(ht:Tryz.prog.underlying t=aY (.slice e))(hv:Value.okWide bj W r b0 t v)(h:zu bh W.cell? [c] v.cells.toList):dQ bh W.cell? c v:=by obtain⟨a0,afL,afB,rfl⟩:=okWide_slice ht hv;obtain⟨x,xs,e1,h2,h3⟩:=h;cases e1;exact h2
end
def tH : List (String × DataW Unit) := [("math/bits.deBruijn32tab", Rows.laid_math_bits_deBruijn32tab), ("math/bits.deBruijn64tab", Rows.laid_math_bits_deBruijn64tab), ("internal/strconv.uint64pow10", Rows.laid_internal_strconv_uint64pow10), ("unicode/utf8.acceptRanges", Rows.laid_unicode_utf8_acceptRanges), ("unicode.White_Space", Rows.laid_unicode_White_Space), ("strings.asciiSpace", Rows.laid_strings_asciiSpace), ("greenbelt/lex.signs", Rows.laid_greenbelt_lex_signs), ("unicode/utf8.first", Rows.laid_unicode_utf8_first)]
def ztm(os:Os)(args:Array bw):laidMetH bj tH ((World.laidAll bj os tH).forCall (λ_ _=>0) ⟨#[],args,[]⟩).memory:=by rw[MakeChecks.laidMetH_plain _ _ _ (by kernel_rfl)];exact laidMet_laidAll _ (by kernel_rfl) (by kernel_rfl)
def Ln{P:bl}{w:bG}{n:String}{g:Nat}{cs:Array bw}(hg:P.globalNamed n=aY g)(h:w.var? P n=aY cs):∃t fr,w.heap[g]?=aY (.cells cs t fr):=by
 simp only[World.var?,hg,aH]at h;split at h
 .rename_i ly t fr hh;cases h;exact⟨t,fr,hh⟩
 .cases h
def zah{H:Type}{enc:bu×bw->H}{P:bl}{w:bG}{base:Nat}{sp:Nat->Bool}{held:Bool}{fuel:Nat}{t e:bu}{n:Nat}{cs:List bw}{zs:List aj}{p:List MemPlace}
  (ht:P.underlying t=aY (.array n e)) (he:P.underlying e=aY .string) (hce:P.cellsOf e=1) (hct:P.cellsOf t=n)
  (h:DataW.trod enc P w base sp held fuel t cs=aY (.agg (zs.map λz=>.lit (.string z)),p)):cs=zs.map λz=>Value.string ⟨z.toArray⟩:=by
 cases fuel with
 |zero=>simp[DataW.trod]at h
 |succ fuel =>
  simp only[DataW.trod,ht,hce,hct,Nat.mul_one]at h;split at h
  .rename_i hl;obtain⟨xs,hm,hx⟩:=bQ.1 h
   have pJ:xs.map (·.1)=zs.map λz=>(DataW.lit (.string z):DataW H):=by have:=aP Prod.fst hx;simpa using this
   have OY:xs.length=n:=by simpa using Lib.mapM_length hm
   have IY:zs.length=n:=by have:=aP List.length pJ;simp at this;omega
   apply List.ext_getElem?;intro i;by_cases hi:i<n
   .obtain⟨b,hb,hf⟩:=Lib.mapM_at hm i i (by simp[hi]);obtain⟨z,hc,rfl,_⟩:=DataW.trod_string he hf
    have h1:cs[i]?=aY (.string z):=by have:=aP (·[0]?) hc;simpa[List.getElem?_take,List.getElem?_drop]using this
    have h2:(xs.map (·.1))[i]?=aY (DataW.lit (.string z.data.toList):DataW H):=by simp[hb]
    rw[pJ]at h2;simp only[List.getElem?_map,bQ,DataW.lit.injEq,Lit.string.injEq]at h2;obtain⟨z',Dd,rfl⟩:=h2;simp[h1,Dd]
   .rw[List.getElem?_eq_none ab,List.getElem?_eq_none (by simp;omega)]
  .cases h
def zxw{w:bG}{g:Nat}{v:bw}(h:w.cell? ⟨g,0,bh⟩=aY v)(hs:∃cs t,w.heap[g]?=aY (.cells cs t)/\cs.size=1):∃cur t fr,w.heap[g]?=aY (.cells cur t fr)/\cur.toList=[v]:=by
 obtain⟨cs,t,hh,h1⟩:=hs;refine⟨cs,t,_,hh,?_⟩;have iB:0<cs.size:=ab
 have hc:w.cell? ⟨g,0,bh⟩=aY cs[0]:=by simp[World.cell?,hh,iB]
 rw[hc]at h;cases h;obtain⟨l⟩:=cs
 match l,h1 with
 |[x],_=>rfl
end Go.Proofs.YtkmjhipiiifekaaGreatDoor
