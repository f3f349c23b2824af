/- texts that the proof reaches, part 4 -/
import Derived.Test.YtmjfiffpolkdeaaGreatDoorKc
import Derived.Test.YtmjfiffpolkdeaaGreatDoorRows
import Derived.Test.YtmjfiffpolkdeaaGreatDoorTie
import Derived.Test.YtmjfiffpolkdeaaGreatDoorCards
import Derived.Lay
import Derived.Stop.Joined
import Derived.SevenTiedAt
import Derived.Shelf.Vars
import Derived.Handed
set_option linter.all false
open Bool renaming true->bg
open Go renaming Program->bm,Value->bu,TypeId->bA,World->bE
open Go.Proofs.Tryz renaming prog->bo
open Option renaming some->bc,none->bh,map_eq_some_iff->cx
set_option maxRecDepth 100000
namespace Go.Proofs.YtmjfiffpolkdeaaGreatDoor
open Go Go.ChangeShapes Go.WideShapes Go.ChangeAt Go.RowKit Go.Deep Go.Joins Go.EV
def own:ownKnob Tryz.prog.godebug=bh:=by kernel_rfl
def laidOut:laidOutB bo=bg:=by kernel_rfl
def zJg:∀t,t<Tryz.prog.types.size->Gz bo t=bg/\L1 bo t=bg:=zJd (by kernel_rfl)
def zB{P:bm}{t:bA}{fs:Array Field}{cs:List V}(ht:P.underlying t=bc (.struct fs))(h:ya P t cs)(i:Nat)(off ty n:Nat){f:Field}(hf:fs[i]?=bc f)(ho:f.offset=off)(hy:f.type=ty)(hn:P.cellsOf ty=n):ya P ty ((cs.drop off).take n):=by subst ho;subst hy;subst hn;refine(ow ht h).2 f ?_;rw[<- Array.getElem?_toList]at hf;exact List.mem_of_getElem? hf
section
variable{H:Type}{enc:bA×bu->H}{W:bE}{b0:Nat}{r:Reach}{v:bu}{d:DataW H}{p:List MemPlace}{t:bA}
def zMm(ht:Nat.ble (t+1) Tryz.prog.types.size=bg)(h:DataW.Trod enc bo W 0 (λ_=>bg) bg t v d p):∃vs,ya bo t vs/\zG bh W.cell? vs v.cells.toList:=by obtain⟨fuel,hf⟩:=h;exact O7 zJg fuel t _ _ (lb ht) hf
def zCs{e:bA}{c:V}(ht:Tryz.prog.underlying t=bc (.slice e))(hv:Value.okWide bo W r b0 t v)(h:zG bh W.cell? [c] v.cells.toList):aV bh W.cell? c v:=by obtain⟨a0,Lh,alr,rfl⟩:=okWide_slice ht hv;obtain⟨x,xs,e1,h2,h3⟩:=h;cases e1;exact h2
end
def Dt : List (String × DataW Unit) := [("math/bits.deBruijn32tab", Rows.laid_math_bits_deBruijn32tab), ("math/bits.deBruijn64tab", Rows.laid_math_bits_deBruijn64tab), ("internal/strconv.uint64pow10", Rows.laid_internal_strconv_uint64pow10), ("unicode/utf8.acceptRanges", Rows.laid_unicode_utf8_acceptRanges), ("unicode.White_Space", Rows.laid_unicode_White_Space), ("strings.asciiSpace", Rows.laid_strings_asciiSpace), ("greenbelt/lex.signs", Rows.laid_greenbelt_lex_signs), ("unicode/utf8.first", Rows.laid_unicode_utf8_first)]
def zJh(os:Os)(args:Array bu):laidMetH bo Dt ((World.laidAll bo os Dt).forCall (λ_ _=>0) ⟨#[],args,[]⟩).memory:=by rw[MakeChecks.laidMetH_plain _ _ _ (by kernel_rfl)];exact laidMet_laidAll _ (by kernel_rfl) (by kernel_rfl)
def WX{P:bm}{w:bE}{n:String}{g:Nat}{cs:Array bu}(hg:P.globalNamed n=bc g)(h:w.var? P n=bc cs):∃t fr,w.heap[g]?=bc (.cells cs t fr):=by
 simp only[World.var?,hg,aC]at h;split at h
 .rename_i iK t fr hh;cases h;exact⟨t,fr,hh⟩
 .cases h
def zjg{H:Type}{enc:bA×bu->H}{P:bm}{w:bE}{base:Nat}{sp:Nat->Bool}{held:Bool}{fuel:Nat}{t e:bA}{n:Nat}{cs:List bu}{zs:List ak}{p:List MemPlace}
  (ht:P.underlying t=bc (.array n e)) (he:P.underlying e=bc .string) (hce:P.cellsOf e=1) (hct:P.cellsOf t=n)
  (h:DataW.trod enc P w base sp held fuel t cs=bc (.agg (zs.map λz=>.lit (.string z)),p)):cs=zs.map λz=>Value.string ⟨z.toArray⟩:=by
 cases fuel with
 |zero=>simp[DataW.trod]at h
 |succ fuel =>
  simp only[DataW.trod,ht,hce,hct,Nat.mul_one]at h;split at h
  .rename_i hl;obtain⟨xs,hm,hx⟩:=cx.1 h
   have B7:xs.map (·.1)=zs.map λz=>(DataW.lit (.string z):DataW H):=by have:=aQ Prod.fst hx;simpa using this
   have FK:xs.length=n:=by simpa using Lib.mapM_length hm
   have FL:zs.length=n:=by have:=aQ List.length B7;simp at this;omega
   apply List.ext_getElem?;intro i;by_cases hi:i<n
   .obtain⟨b,hb,hf⟩:=Lib.mapM_at hm i i (by simp[hi]);obtain⟨z,hc,rfl,_⟩:=DataW.trod_string he hf
    have h1:cs[i]?=bc (.string z):=by have:=aQ (·[0]?) hc;simpa[List.getElem?_take,List.getElem?_drop]using this
    have h2:(xs.map (·.1))[i]?=bc (DataW.lit (.string z.data.toList):DataW H):=by simp[hb]
    rw[B7]at h2;simp only[List.getElem?_map,cx,DataW.lit.injEq,Lit.string.injEq]at h2;obtain⟨aci,CV,rfl⟩:=h2;simp[h1,CV]
   .rw[List.getElem?_eq_none ab,List.getElem?_eq_none (by simp;omega)]
  .cases h
def zQk{w:bE}{g:Nat}{v:bu}(h:w.cell? ⟨g,0,bh⟩=bc v)(hs:∃cs t,w.heap[g]?=bc (.cells cs t)/\cs.size=1):∃cur t fr,w.heap[g]?=bc (.cells cur t fr)/\cur.toList=[v]:=by
 obtain⟨cs,t,hh,h1⟩:=hs;refine⟨cs,t,_,hh,?_⟩;have fZ:0<cs.size:=ab
 have hc:w.cell? ⟨g,0,bh⟩=bc cs[0]:=by simp[World.cell?,hh,fZ]
 rw[hc]at h;cases h;obtain⟨l⟩:=cs
 match l,h1 with
 |[x],_=>rfl
end Go.Proofs.YtmjfiffpolkdeaaGreatDoor
