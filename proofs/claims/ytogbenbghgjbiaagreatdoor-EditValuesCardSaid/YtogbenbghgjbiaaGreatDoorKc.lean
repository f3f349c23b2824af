/- texts that the proof reaches, part 3 -/
import Derived.Test.YtogbenbghgjbiaaGreatDoorKb
import Derived.ChangeKeysEq
import Derived.Shelf.Strings.Builder1
import Derived.Shelf.Strings.Builder2
import Derived.Shelf.Strings.OnBuilder
import Derived.Shelf.Small.Bits
import Derived.Shelf.Small.Wraps
import Derived.Shelf.Strings.BuilderF
import Derived.Shelf.Strings.BuilderK
import Derived.Shelf.Utf8.RuneCount
import Derived.Shelf.Strings.Builder2Cap
import Derived.Shelf.Strconv.Itoa0
import Derived.Shelf.Strconv.Itoa1
import Derived.Shelf.LaysM
import Derived.Shelf.Strconv.Itoa2
import Derived.Shelf.Strconv.Itoa3
import Derived.Shelf.Strings.Search1
import Derived.Shelf.Strings.Search2
import Derived.Shelf.Strings.Search3
import Derived.Shelf.Strings.Count
import Derived.Shelf.Strings.Shaped
import Derived.Shelf.Sort.Plain
import Derived.Shelf.Strings.Prefix
import Derived.Shelf.Strings.Split
import Derived.Shelf.Strings.Fields
import Derived.Shelf.Strings.Replace
import Derived.Shelf.Strings.SplitShaped
import Derived.Shelf.Unicode.Latin
import Derived.Shelf.Unicode.Decode
import Derived.Shelf.Strings.RuneCount
import Derived.Shelf.Bits.Mul64
import Derived.Shelf.Unicode.DecodeSlow
import Derived.Shelf.Unicode.DecodeAny
import Derived.Shelf.Unicode.Is16White
import Derived.Shelf.Unicode.IsSpaceAny
import Derived.Shelf.Unicode.Is16WhiteD
import Derived.Shelf.Unicode.Is16Any
import Derived.Shelf.Unicode.Is32Any
import Derived.Shelf.Unicode.ExclAny
import Derived.Shelf.Slices.Turned
import Derived.Shelf.Slices.Equal
import Derived.Ground.Names2Prog
import Derived.Shelf.Slices.Clone
import Derived.Shelf.Slices.SearchI
import Derived.Shelf.Slices.In.SortNone
import Derived.Shelf.Slices.Empties2
import Derived.Ground.SlgnProg
import Derived.Shelf.SlicesE.Clone
import Derived.ProofKit
import Derived.Deep.Fields
import Derived.ChangeSame
import Derived.LaidMore
import Derived.OpenShut
import Derived.Lib.SmallJoins
set_option linter.all false
open Bool renaming false->bf,true->bh,not_eq_true'->bX,false_eq_true->cI,or_eq_true->dk,and_self->im
open Go renaming Program->bo,Value->bx,World->bF,Operand->bI,TypeId->bK,execOp->bP
open Go.Proofs.Tryz renaming prog->bk,underlying9->dc,underlying3->dR,underlying4->dU,underlying106->ei,underlying5->eF,underlying0->eX,underlying331->fj,underlying322->fi,underlying370->iv,underlying20->iG
open List renaming length->ba,all_eq_true->bl,getElem?_eq_some_iff->bq,mem_cons->bu,getElem?_eq_getElem->bA,mem_append->bJ,mem_map->bL,length_map->bM,mem_append_left->bQ,length_take->bY,mem_append_right->cq,contains_eq_mem->cv,nil_append->cw,getElem?_map->cz,nodup_cons->cA,length_drop->cF,mem_map_of_mem->cG,nodup_append->cK,append_nil->cL,isEmpty->cO,map->cQ,map_map->cU,map_append->cX,nodup_nil->cZ,cons_append->dj,take_of_length_le->du,take_left->dz,all_cons->dA,map_nil->dC,getElem_of_mem->dL,mem_filter->dO,drop_zero->dW,drop_eq_nil_of_le->ea,drop_drop->ej,drop_eq_getElem_cons->eY,drop_append->fJ,getElem?_cons_succ->gQ,take_add->ln
open Nat renaming beq->bm,zero_add->cl,ble->cm,beq_refl->cC,zero_le->cH,succ_mul->dh,ble_eq_true_of_le->dP,zero_mul->ee,sub_self->iJ,sub_zero->lq
open Option renaming some->aY,none->bg,map_eq_some_iff->ca,map_some->de,isSome_iff_exists->dm,bind_eq_some_iff->dp
namespace Go.EQ
open Go Go.RowKit Go.lG Go.EV
section
variable{S:ni}
def Sat(ds:List (Dy S.T))(ps:List (Nat×Dy S.T)):Prop:=∀p∈ps,Wd ds p.1 p.2.1=p.2.2
def nP(σ:Nat->Nat)(ns:List (Nat×Nat)):Prop:=∀p∈ns,σ p.1=p.2
def Sat.left{ds:List (Dy S.T)}{a b:List (Nat×Dy S.T)}(h:Sat ds (a++b)):Sat ds a:=λp hp=>h p (bQ _ hp)
def Sat.right{ds:List (Dy S.T)}{a b:List (Nat×Dy S.T)}(h:Sat ds (a++b)):Sat ds b:=λp hp=>h p (cq _ hp)
def nP.left{σ:Nat->Nat}{a b:List (Nat×Nat)}(h:nP σ (a++b)):nP σ a:=λp hp=>h p (bQ _ hp)
def nP.right{σ:Nat->Nat}{a b:List (Nat×Nat)}(h:nP σ (a++b)):nP σ b:=λp hp=>h p (cq _ hp)
structure Ad(hp:List (Nat×TO))(ds:List (Dy S.T))(σ:Nat->Nat)(H:AH S.T):Prop where
 r:∀k c j,BM hp k=aY (c,j)->∀e c' fz l w,H.get (σ k)=aY (.row e c' fz l w)->ba (α:=c.ty S.T) (Wd ds j (.l c))=l.length
def HO{ds:List (Dy S.T)}:∀{hp:List (Nat×TO)}{k:Nat}{c:TC}{j:Nat},BM hp k=aY (c,j)->Eu ds hp k=ba (α:=c.ty S.T) (Wd ds j (.l c))
 |(k',.row e c' j' fz)::r,k,c,j,h=>by
  simp only[BM]at h;simp only[Eu]
  cases hb:bm k k' with
  |true=>rw[hb]at h;cases h;rfl
  |false=>rw[hb]at h;exact HO h
 |(k',.box ..)::r,k,c,j,h=>HO (hp:=r) h
 |(k',.map ..)::r,k,c,j,h=>HO (hp:=r) h
 |(k',.rw _)::r,k,c,j,h=>HO (hp:=r) h
 |(k',.gn ..)::r,k,c,j,h=>HO (hp:=r) h
def zH2{c:TC}{a:A S.T}{x:c.ty S.T}(h:SN c a=aY x):a.v=oL S c x:=by
 unfold SN at h;split at h
 .split at h
  .rename_i e;subst e;cases h;rfl
  .cases h
 .cases c<;>first|(cases h;done)|(cases h;rfl)
 .cases h
variable{hp:List (Nat×TO)}{ds:List (Dy S.T)}{σ:Nat->Nat}{H:AH S.T}
def zy2{sz k mo k' n:Nat}{rd:Rd S.T}(h:Tp.read hp bh H (.row sz k) (.rh mo k' n)=aY rd)(hn:nP σ rd.ns)(he:w7 rd.eq)(hr:Ad hp ds σ H):(A.rh (T:=S.T) mo k' n)=((Tp.row sz k).put hp ds).fM σ:=by
 simp only[Tp.read]at h;split at h
 .rename_i l w q hg hq
  cases hb:bm sz mo with
  |false=>rw[hb]at h;cases h
  |true =>
   rw[hb]at h;cases h;have e1:=eb hb;subst e1;have e2:σ k=k':=hn _ (b_.2 rfl);have e3:n=l.length:=(he _ (b_.2 rfl)).trans w.h.symm;obtain⟨c,j⟩:=q;simp only[Tp.put,A.fM,HO hq,e2];rw[hr.r k c j hq _ _ _ _ _ (by rw[e2];exact hg),e3]
 .cases h
def zua{sz k mo k' n:Nat}{rd:Rd S.T}(h:Tp.read hp bh H (.tU sz k) (.nh mo k' n)=aY rd)(hn:nP σ rd.ns)(he:w7 rd.eq)(hr:Ad hp ds σ H):(A.nh (T:=S.T) mo k' n)=((Tp.tU sz k).put hp ds).fM σ:=by
 simp only[Tp.read]at h;split at h
 .rename_i l w q hg hq
  cases hb:bm sz mo with
  |false=>rw[hb]at h;cases h
  |true =>
   rw[hb]at h;cases h;have e1:=eb hb;subst e1;have e2:σ k=k':=hn _ (b_.2 rfl);have e3:n=l.length:=(he _ (b_.2 rfl)).trans w.h.symm;obtain⟨c,j⟩:=q;simp only[Tp.put,A.fM,HO hq,e2];rw[hr.r k c j hq _ _ _ _ _ (by rw[e2];exact hg),e3]
 .cases h
def zDm{sz k j off k' L i tC mo:Nat}{rd:Rd S.T}(h:Tp.read hp bh H (.rp sz k j off) (.rp k' L i tC mo)=aY rd)(hs:Sat ds rd.ps)(hn:nP σ rd.ns)(he:w7 rd.eq)(hr:Ad hp ds σ H):(A.rp (T:=S.T) k' L i tC mo)=((Tp.rp sz k j off).put hp ds).fM σ:=by
 simp only[Tp.read]at h;split at h
 .rename_i l w q hg hq
  cases hb:bm sz mo&&bm off tC with
  |false=>rw[hb]at h;cases h
  |true =>
   rw[hb]at h;cases h;simp only[bn]at hb;have e1:=eb hb.1;have e4:=eb hb.2;subst e1;subst e4;have e2:σ k=k':=hn _ (b_.2 rfl);have e3:L=l.length:=(he _ (b_.2 rfl)).trans w.h.symm;have e5:Wd ds j (.i .i64)=Int.ofNat i:=hs _ (b_.2 rfl);obtain⟨c,j'⟩:=q;simp only[Tp.put,A.fM,HO hq,e2,e5];rw[hr.r k c j' hq _ _ _ _ _ (by rw[e2];exact hg),e3];rfl
 .cases h
mutual
def wS(hS:S.OK):∀(t:Tp)(a:A S.T)(rd:Rd S.T),Tp.read hp bh H t a=aY rd->Sat ds rd.ps->nP σ rd.ns->w7 rd.eq->Ad hp ds σ H->a.v=((t.put hp ds).fM σ).v/\rd.fz=[]
 |.d c j,a,rd,h,hs,hn,he,hr=>by
  simp only[Tp.read,ct]at h;split at h
  .rename_i x e;cases h;have h1:Wd ds j c=x:=hs _ (b_.2 rfl);refine⟨?_,rfl⟩;simp only[Tp.put,A.fM,h1];exact zH2 e
  .cases h
 |.row sz k,a,rd,h,hs,hn,he,hr=>by
  cases a<;>first|(simp only[Tp.read]at h;cases h;done)|skip
  rename_i mo k' n;refine⟨aP A.v (zy2 h hn he hr),?_⟩;simp only[Tp.read]at h;split at h
  .cases hb:bm sz mo with
   |false=>rw[hb]at h;cases h
   |true=>rw[hb]at h;cases h;rfl
  .cases h
 |.tU sz k,a,rd,h,hs,hn,he,hr=>by
  cases a<;>first|(simp only[Tp.read]at h;cases h;done)|skip
  rename_i mo k' n;refine⟨aP A.v (zua h hn he hr),?_⟩;simp only[Tp.read]at h;split at h
  .cases hb:bm sz mo with
   |false=>rw[hb]at h;cases h
   |true=>rw[hb]at h;cases h;rfl
  .cases h
 |.rp sz k j off,a,rd,h,hs,hn,he,hr=>by
  cases a<;>first|(simp only[Tp.read]at h;cases h;done)|skip
  rename_i k' L i tC mo;refine⟨aP A.v (zDm h hs hn he hr),?_⟩;simp only[Tp.read]at h;split at h
  .cases hb:bm sz mo&&bm off tC with
   |false=>rw[hb]at h;cases h
   |true=>rw[hb]at h;cases h;rfl
  .cases h
 |.om k,a,rd,h,hs,hn,he,hr=>by
  cases a<;>first|(simp only[Tp.read]at h;cases h;done)|skip
  rename_i k';simp only[Tp.read]at h;cases h;refine⟨?_,rfl⟩;have e2:σ k=k':=hn _ (b_.2 rfl);simp only[Tp.put,A.fM,e2]
 |.ci k n,a,rd,h,hs,hn,he,hr=>by
  cases a<;>first|(simp only[Tp.read]at h;cases h;done)|skip
  rename_i c x
  cases c<;>first|(simp only[Tp.read]at h;cases h;done)|skip
  rename_i k';simp only[Tp.read]at h
  cases hb:decide (k'=k)&&Td x n with
  |false=>rw[hb]at h;cases h
  |true =>
   rw[hb]at h;cases h;simp only[bn,aU]at hb;obtain⟨rfl,hx⟩:=hb;have hx:@Eq Int x n:=zDb hx;subst hx;exact⟨by simp only[Tp.put,A.fM],rfl⟩
 |.mx,a,rd,h,hs,hn,he,hr=>by
  cases a<;>first|(simp only[Tp.read]at h;cases h;done)|skip
  rename_i v
  cases v<;>first|(simp only[Tp.read]at h;cases h;done)|skip
  simp only[Tp.read]at h;cases h;exact⟨by simp only[Tp.put,A.fM,A.v,V.fM],rfl⟩
 |.gg,a,rd,h,hs,hn,he,hr=>by
  cases a<;>first|(simp only[Tp.read]at h;cases h;done)|skip
  rename_i v
  cases v<;>first|(simp only[Tp.read]at h;cases h;done)|skip
  simp only[Tp.read]at h;cases h;exact⟨by simp only[Tp.put,A.fM,A.v,V.fM],rfl⟩
 |.nd,a,rd,h,hs,hn,he,hr=>by
  cases a<;>first|(simp only[Tp.read]at h;cases h;done)|skip
  rename_i v
  cases v<;>first|(simp only[Tp.read]at h;cases h;done)|skip
  simp only[Tp.read]at h;cases h;exact⟨by simp only[Tp.put,A.fM,A.v,V.fM],rfl⟩
 |.mD,a,rd,h,hs,hn,he,hr=>by
  cases a<;>first|(simp only[Tp.read]at h;cases h;done)|skip
  rename_i v
  cases v<;>first|(simp only[Tp.read]at h;cases h;done)|skip
  simp only[Tp.read]at h;cases h;exact⟨by simp only[Tp.put,A.fM,A.v,V.fM],rfl⟩
 |.nM,a,rd,h,hs,hn,he,hr=>by
  cases a<;>first|(simp only[Tp.read]at h;cases h;done)|skip
  rename_i v
  cases v<;>first|(simp only[Tp.read]at h;cases h;done)|skip
  simp only[Tp.read]at h;cases h;exact⟨by simp only[Tp.put,A.fM,A.v,V.fM],rfl⟩
 |.no,a,rd,h,hs,hn,he,hr=>by
  cases a<;>first|(simp only[Tp.read]at h;cases h;done)|skip
  rename_i v
  cases v<;>first|(simp only[Tp.read]at h;cases h;done)|skip
  simp only[Tp.read]at h;cases h;exact⟨by simp only[Tp.put,A.fM,A.v,V.fM],rfl⟩
 |.L9,a,rd,h,hs,hn,he,hr=>by cases a<;>(simp only[Tp.read]at h;cases h)
 |.ptr k off,a,rd,h,hs,hn,he,hr=>by
  cases a<;>first|(simp only[Tp.read]at h;cases h;done)|skip
  rename_i v
  cases v<;>first|(simp only[Tp.read]at h;cases h;done)|skip
  rename_i k' L tC
  cases L with
  |succ L=>simp only[Tp.read]at h;cases h
  |zero =>
   simp only[Tp.read]at h
   cases hb:bm off tC with
   |false=>rw[hb]at h;cases h
   |true =>
    rw[hb]at h;cases h;have e1:=eb hb;subst e1;have e2:σ k=k':=hn _ (b_.2 rfl);exact⟨by simp only[Tp.put,A.fM,A.v,V.fM,e2],rfl⟩
 |.mp k,a,rd,h,hs,hn,he,hr=>by
  cases a<;>first|(simp only[Tp.read]at h;cases h;done)|skip
  rename_i v
  cases v<;>first|(simp only[Tp.read]at h;cases h;done)|skip
  rename_i k';simp only[Tp.read]at h;cases h;have e2:σ k=k':=hn _ (b_.2 rfl);exact⟨by simp only[Tp.put,A.fM,A.v,V.fM,e2],rfl⟩
 |.ag l,a,rd,h,hs,hn,he,hr=>by
  cases a<;>first|(simp only[Tp.read]at h;cases h;done)|skip
  rename_i l';simp only[Tp.read]at h;obtain⟨h1,h2⟩:=JP hS l l' rd h hs hn he hr;exact⟨by simp only[Tp.put,A.fM,A.v,h1],h2⟩
 |.iN l,a,rd,h,hs,hn,he,hr=>by
  cases a<;>first|(simp only[Tp.read]at h;cases h;done)|skip
  rename_i l';simp only[Tp.read]at h;obtain⟨h1,h2⟩:=JP hS l l' rd h hs hn he hr;exact⟨by simp only[Tp.put,A.fM,A.v,h1],h2⟩
 |.fn f x y,a,rd,h,hs,hn,he,hr=>by
  cases a<;>first|(simp only[Tp.read]at h;cases h;done)|skip
  rename_i f' x' y';simp only[Tp.read]at h
  cases hb:bm f f' with
  |false=>rw[hb]at h;cases h
  |true =>
   rw[hb]at h;have e1:=eb hb;subst e1;dsimp only[ct]at h;split at h
   .rename_i r1 g1;split at h
    .rename_i r2 g2;cases h;obtain⟨h1,h2⟩:=JP hS x x' r1 g1 hs.left hn.left he.left hr;obtain⟨h3,h4⟩:=JP hS y y' r2 g2 hs.right hn.right he.right hr;exact⟨by simp only[Tp.put,A.fM,A.v,h1,h3],by simp only[Rd.app,h2,h4,cL]⟩
    .cases h
   .cases h
 |.mP adC x,a,rd,h,hs,hn,he,hr=>by
  cases a<;>first|(simp only[Tp.read]at h;cases h;done)|skip
  rename_i t' x';simp only[Tp.read]at h
  cases hb:bm adC t' with
  |false=>rw[hb]at h;cases h
  |true =>
   rw[hb]at h;have e1:=eb hb;subst e1;obtain⟨h1,h2⟩:=wS hS x x' rd h hs hn he hr;exact⟨by simp only[Tp.put,A.fM,A.v,h1],h2⟩
def JP(hS:S.OK):∀(ts:List Tp)(asZ:List (A S.T))(rd:Rd S.T),Tp.reads hp bh H ts asZ=aY rd->Sat ds rd.ps->nP σ rd.ns->w7 rd.eq->Ad hp ds σ H->A.vs asZ=A.vs (A.rZ σ (Tp.mJ hp ds ts))/\rd.fz=[]
 |[],[],rd,h,hs,hn,he,hr=>by
  simp only[Tp.reads]at h;cases h;exact⟨by simp only[Tp.mJ,A.rZ],rfl⟩
 |t::ts,a::asZ,rd,h,hs,hn,he,hr=>by
  simp only[Tp.reads]at h;split at h
  .rename_i r1 g1;split at h
   .rename_i r2 g2;cases h;obtain⟨h1,h2⟩:=wS hS t a r1 g1 hs.left hn.left he.left hr;obtain⟨h3,h4⟩:=JP hS ts asZ r2 g2 hs.right hn.right he.right hr;exact⟨by simp only[Tp.mJ,A.rZ,A.vs,h1,h3],by simp only[Rd.app,h2,h4,cL]⟩
   .cases h
  .cases h
 |[],_::_,_,h,_,_,_,_=>by simp only[Tp.reads]at h;cases h
 |_::_,[],_,h,_,_,_,_=>by simp only[Tp.reads]at h;cases h
end
def JQ{t:Tp}(a:A S.T)(ht:t=.mx∨t=.gg∨t=.nd∨t=.mD∨t=.nM∨t=.no):Tp.read hp bh H t a=Tp.read hp bf H t a:=by
 rcases ht with rfl|rfl|rfl|rfl|rfl|rfl<;>(cases a<;>first|(simp only[Tp.read];done)|(rename_i v;cases v<;>simp only[Tp.read]))
mutual
def zub(hS:S.OK){R:aw}:∀(t:Tp)(a:A S.T)(rd:Rd S.T),Tp.read hp bf H t a=aY rd->Sat ds rd.ps->nP σ rd.ns->w7 rd.eq->Ad hp ds σ H->RowsIn H R rd.fz->au R a.v ((t.put hp ds).fM σ).v
 |.d c j,a,rd,h,hs,hn,he,hr,hR=>by
  simp only[Tp.read,cf]at h;split at h
  .rename_i rx e;cases h;have h1:Wd ds j c=rx.x:=hs _ (b_.2 rfl);simp only[Tp.put,A.fM,h1];exact YY hS e he hR
  .cases h
 |.ag l,a,rd,h,hs,hn,he,hr,hR=>by
  cases a<;>first|(simp only[Tp.read]at h;cases h;done)|skip
  rename_i l';simp only[Tp.read]at h;have:=Ae hS l l' rd h hs hn he hr hR;simp only[Tp.put,A.fM,A.v];exact .agg this
 |.iN l,a,rd,h,hs,hn,he,hr,hR=>by
  rw[(wS hS (.iN l) a rd (by rw[<- h];cases a<;>simp only[Tp.read]) hs hn he hr).1];exact .same _
 |.mx,a,rd,h,hs,hn,he,hr,hR=>by rw[(wS hS .mx a rd (by rw[<- h];exact JQ a ae) hs hn he hr).1];exact .same _
 |.gg,a,rd,h,hs,hn,he,hr,hR=>by rw[(wS hS .gg a rd (by rw[<- h];exact JQ a ae) hs hn he hr).1];exact .same _
 |.nd,a,rd,h,hs,hn,he,hr,hR=>by rw[(wS hS .nd a rd (by rw[<- h];exact JQ a ae) hs hn he hr).1];exact .same _
 |.mD,a,rd,h,hs,hn,he,hr,hR=>by rw[(wS hS .mD a rd (by rw[<- h];exact JQ a ae) hs hn he hr).1];exact .same _
 |.nM,a,rd,h,hs,hn,he,hr,hR=>by rw[(wS hS .nM a rd (by rw[<- h];exact JQ a ae) hs hn he hr).1];exact .same _
 |.no,a,rd,h,hs,hn,he,hr,hR=>by rw[(wS hS .no a rd (by rw[<- h];exact JQ a ae) hs hn he hr).1];exact .same _
 |.ptr k off,a,rd,h,hs,hn,he,hr,hR=>by rw[(wS hS (.ptr k off) a rd (by rw[<- h];cases a<;>first|(simp only[Tp.read];done)|(rename_i v;cases v<;>first|(simp only[Tp.read];done)|(rename_i q L tC;cases L<;>simp only[Tp.read]))) hs hn he hr).1];exact .same _
 |.mp k,a,rd,h,hs,hn,he,hr,hR=>by rw[(wS hS (.mp k) a rd (by rw[<- h];cases a<;>first|(simp only[Tp.read];done)|(rename_i v;cases v<;>simp only[Tp.read])) hs hn he hr).1];exact .same _
 |.row sz k,a,rd,h,hs,hn,he,hr,hR=>by rw[(wS hS (.row sz k) a rd (by rw[<- h];cases a<;>simp only[Tp.read]) hs hn he hr).1];exact .same _
 |.rp sz k j off,a,rd,h,hs,hn,he,hr,hR=>by rw[(wS hS (.rp sz k j off) a rd (by rw[<- h];cases a<;>simp only[Tp.read]) hs hn he hr).1];exact .same _
 |.tU sz k,a,rd,h,hs,hn,he,hr,hR=>by rw[(wS hS (.tU sz k) a rd (by rw[<- h];cases a<;>simp only[Tp.read]) hs hn he hr).1];exact .same _
 |.om k,a,rd,h,hs,hn,he,hr,hR=>by rw[(wS hS (.om k) a rd (by rw[<- h];cases a<;>simp only[Tp.read]) hs hn he hr).1];exact .same _
 |.ci k n,a,rd,h,hs,hn,he,hr,hR=>by rw[(wS hS (.ci k n) a rd (by rw[<- h];cases a<;>first|(simp only[Tp.read];done)|(rename_i c x;cases c<;>simp only[Tp.read])) hs hn he hr).1];exact .same _
 |.fn f x y,a,rd,h,hs,hn,he,hr,hR=>by rw[(wS hS (.fn f x y) a rd (by rw[<- h];cases a<;>simp only[Tp.read]) hs hn he hr).1];exact .same _
 |.mP f x,a,rd,h,hs,hn,he,hr,hR=>by rw[(wS hS (.mP f x) a rd (by rw[<- h];cases a<;>simp only[Tp.read]) hs hn he hr).1];exact .same _
def Ae(hS:S.OK){R:aw}:∀(ts:List Tp)(asZ:List (A S.T))(rd:Rd S.T),Tp.reads hp bf H ts asZ=aY rd->Sat ds rd.ps->nP σ rd.ns->w7 rd.eq->Ad hp ds σ H->RowsIn H R rd.fz->jG R (A.vs asZ) (A.vs (A.rZ σ (Tp.mJ hp ds ts)))
 |[],[],rd,h,hs,hn,he,hr,hR=>by
  simp only[Tp.mJ,A.rZ,A.vs];exact .nil
 |t::ts,a::asZ,rd,h,hs,hn,he,hr,hR=>by
  simp only[Tp.reads]at h;split at h
  .rename_i r1 g1;split at h
   .rename_i r2 g2;cases h;simp only[Tp.mJ,A.rZ,A.vs];exact .cons (zub hS t a r1 g1 hs.left hn.left he.left hr hR.left) (Ae hS ts asZ r2 g2 hs.right hn.right he.right hr hR.right)
   .cases h
  .cases h
 |[],_::_,_,h,_,_,_,_,_=>by simp only[Tp.reads]at h;cases h
 |_::_,[],_,h,_,_,_,_,_=>by simp only[Tp.reads]at h;cases h
end
end
section
variable{S:ni}
def Mj(hp:List (Nat×TO))(ds:List (Dy S.T))(l:List (Nat×TO)):AH S.T:=l.map λp=>(p.1,p.2.put hp ds)
variable{hp:List (Nat×TO)}{ds:List (Dy S.T)}{σ:Nat->Nat}{H:AH S.T}
def JR:∀{hp:List (Nat×TO)}{k:Nat}{c:TC}{j:Nat},BM hp k=aY (c,j)->∃e fz,(k,TO.row e c j fz)∈hp
 |(k',.row e c' j' fz)::r,k,c,j,h=>by
  simp only[BM]at h
  cases hb:bm k k' with
  |true =>
   rw[hb]at h;cases h;have:=eb hb;subst this;exact⟨e,fz,ak⟩
  |false =>
   rw[hb]at h;obtain⟨e,fz,h1⟩:=JR h;exact⟨e,fz,iO _ h1⟩
 |(k',.box ..)::r,k,c,j,h=>by
  obtain⟨e,fz,h1⟩:=JR (hp:=r) h;exact⟨e,fz,iO _ h1⟩
 |(k',.map ..)::r,k,c,j,h=>by
  obtain⟨e,fz,h1⟩:=JR (hp:=r) h;exact⟨e,fz,iO _ h1⟩
 |(k',.rw _)::r,k,c,j,h=>by
  obtain⟨e,fz,h1⟩:=JR (hp:=r) h;exact⟨e,fz,iO _ h1⟩
 |(k',.gn ..)::r,k,c,j,h=>by obtain⟨e,fz,h1⟩:=JR (hp:=r) h;exact⟨e,fz,iO _ h1⟩
def YZ:∀{ns:List (Nat×Nat)}{k k':Nat},Nb ns k=aY k'->(k,k')∈ns
 |(a,b)::r,k,k',h=>by
  simp only[Nb]at h
  cases hb:bm k a with
  |true =>
   rw[hb]at h;cases h;have:=eb hb;subst this;exact ak
  |false=>rw[hb]at h;exact iO _ (YZ h)
def zhc{e:Nat}{c:TC}{j:Nat}{fz:Bool}{o:OA S.T}{rd:Rd S.T}(h:TO.read hp H (.row e c j fz) o=aY rd)(hs:Sat ds rd.ps):∃f l w,o=.row e c f l w/\Wd ds j (.l c)=l/\N9 fz f=bh/\rd.fz=[]:=by
 cases o<;>first|(simp only[TO.read]at h;cases h;done)|skip
 rename_i e' c' f l wl;simp only[TO.read]at h
 cases hb:bm e e'&&N9 fz f with
 |false=>rw[hb]at h;cases h
 |true =>
  rw[hb]at h;simp only[bn]at hb;have e1:=eb hb.1;subst e1;dsimp only[ct]at h;split at h
  .rename_i e2;subst e2;cases h;exact⟨f,l,wl,rfl,hs _ (b_.2 rfl),hb.2,rfl⟩
  .cases h
def zy3(hS:S.OK){toZ:TO}{o:OA S.T}{rd:Rd S.T}(h:TO.read hp H toZ o=aY rd)(hs:Sat ds rd.ps)(hn:nP σ rd.ns)(he:w7 rd.eq)(hr:Ad hp ds σ H):o.o=((toZ.put hp ds).fM σ).o/\rd.fz=[]:=by
 cases toZ with
 |box t cs =>
  cases o<;>first|(simp only[TO.read]at h;cases h;done)|skip
  rename_i t' cs';simp only[TO.read]at h
  cases hb:bm t t' with
  |false=>rw[hb]at h;cases h
  |true =>
   rw[hb]at h;have e1:=eb hb;subst e1;obtain⟨h1,h2⟩:=JP hS cs cs' rd h hs hn he hr;exact⟨by simp only[OA.o,TO.put,OA.fM,h1],h2⟩
 |row e c j fz =>
  obtain⟨f,l,w,rfl,e1,e2,e3⟩:=zhc h hs;refine⟨?_,e3⟩;simp only[TO.put,OA.fM,e1,OA.o]
  cases fz<;>cases f<;>first|(cases e2;done)|rfl
 |map kc ec j =>
  cases o<;>first|(simp only[TO.read]at h;cases h;done)|skip
  rename_i O9 DF l;simp only[TO.read]at h;split at h
  .rename_i e;obtain⟨rfl,rfl⟩:=e;cases h;have h1:Wd ds j (.m O9 DF)=l:=hs _ (b_.2 rfl);exact⟨by simp only[TO.put,OA.fM,h1],rfl⟩
  .cases h
 |gn i c j =>
  cases o<;>first|(simp only[TO.read]at h;cases h;done)|skip
  rename_i i' c' x;simp only[TO.read]at h
  cases hb:bm i i' with
  |false=>rw[hb]at h;cases h
  |true =>
   rw[hb]at h;have e1:=eb hb;subst e1;dsimp only[ct]at h;split at h
   .rename_i e;subst e;cases h;have h1:Wd ds j c'=x:=hs _ (b_.2 rfl);exact⟨by simp only[TO.put,OA.fM,h1],rfl⟩
   .cases h
 |rw i =>
  cases o<;>first|(simp only[TO.read]at h;cases h;done)|skip
  rename_i i';simp only[TO.read]at h
  cases hb:bm i i' with
  |false=>rw[hb]at h;cases h
  |true =>
   rw[hb]at h;have e1:=eb hb;subst e1;cases h;exact⟨rfl,rfl⟩
def X1:∀{l:List (Nat×TO)}{ns:List (Nat×Nat)}{rd:Rd S.T},Ci hp H ns l=aY rd->Sat ds rd.ps->nP σ ns->nP σ rd.ns->∀k e c j fz,(k,TO.row e c j fz)∈l->∃f l' w,H.get (σ k)=aY (.row e c f l' w)/\Wd ds j (.l c)=l'
 |[],ns,rd,h,hs,h1,h2,k,e,c,j,fz,hm=>by cases hm
 |(k0,o)::r,ns,rd,h,hs,h1,h2,k,e,c,j,fz,hm=>by
  simp only[Ci]at h;split at h
  .rename_i k' hk;split at h
   .rename_i o' ho;split at h
    .rename_i x hx;split at h
     .rename_i y hy;cases h
      rcases bu.1 hm with e1|hm
      .cases e1;obtain⟨f,l',w,rfl,e2,_,_⟩:=zhc hx hs.left;have e3:=h1 _ (YZ hk);exact⟨f,l',w,by rw[e3];exact ho,e2⟩
      .exact X1 hy hs.right (λp hp=>(bJ.1 hp).elim (h1 p) (h2.left p)) h2.right k e c j fz hm
     .cases h
    .cases h
   .cases h
  .cases h
def Y0{ns:List (Nat×Nat)}{rd:Rd S.T}(h:Ci hp H ns hp=aY rd)(hs:Sat ds rd.ps)(h1:nP σ ns)(h2:nP σ rd.ns):Ad hp ds σ H:=⟨λk c j hj e c' fz l wl hg=>by
 obtain⟨e0,fz0,hm⟩:=JR hj;obtain⟨f,l',w,g1,g2⟩:=X1 h hs h1 h2 k e0 c j fz0 hm;rw[hg]at g1;cases g1
 rw[g2]⟩
def Y1(hS:S.OK):∀{l:List (Nat×TO)}{ns:List (Nat×Nat)}{rd:Rd S.T},Ci hp H ns l=aY rd->Sat ds rd.ps->nP σ ns->nP σ rd.ns->w7 rd.eq->Ad hp ds σ H->∀F,AR (l.map λp=>σ p.1) H=aY F->hV F=JH σ (hV (Mj hp ds l))/\rd.fz=[]
 |[],ns,rd,h,hs,h1,h2,he,hr,F,hF=>by
  simp only[Ci]at h;cases h;cases zk hF;exact⟨rfl,rfl⟩
 |(k0,o)::r,ns,rd,h,hs,h1,h2,he,hr,F,hF=>by
  simp only[Ci]at h;split at h
  .rename_i k' hk;split at h
   .rename_i o' ho;split at h
    .rename_i x hx;split at h
     .rename_i y hy;cases h;have e3:σ k0=k':=h1 _ (YZ hk);simp only[ij,AR,e3,ho]at hF;split at hF
      .rename_i F' BY;cases hF;obtain⟨g1,g2⟩:=zy3 hS hx hs.left h2.left he.left hr;obtain⟨g3,g4⟩:=Y1 hS hy hs.right (λp hp=>(bJ.1 hp).elim (h1 p) (h2.left p)) h2.right he.right hr F' BY;refine⟨?_,by simp only[Rd.app,g2,g4,cL]⟩;have g5:((o.put hp ds).fM σ).o=(o.put hp ds).o.fM σ:=WS hS _;simp only[hV,ij,JH,Mj]at g3 ⊢;rw[g3,g1,g5,e3]
      .cases hF
     .cases h
    .cases h
   .cases h
  .cases h
def dedup:List Nat->List Nat
 |[]=>[]
 |k::r=>bif C9 k r then dedup r else k::dedup r
def qX(d:Nat)(hin lZ:List (Nat×TO)):List (Nat×Nat):=(((lZ.map (·.1)).filter λk=>!((hin.map (·.1)).contains k)).zipIdx).map λp=>(p.1,3000000+d*100+p.2)
def OA.k_:OA S.T->OA S.T
 |.row e c _ l w=>.row e c .all l w
 |o=>o
def aaU:OA S.T->Bool
 |.row ..=>bh
 |_=>bf
def rq(F:AH S.T):AH S.T:=F.map λp=>(p.1,p.2.k_)
def F8:List (Nat×TO)->List (Nat×Nat)
 |[]=>[]
 |(k,.rw (_+1))::r=>(k,k)::F8 r
 |_::r=>F8 r
def Ct.DE(c:Ct S)(d:Nat)(rd:Rd S.T)(fz:List Nat)(R:AH S.T):Bool:=
 nodupB (rd.ps.map (·.1))&&(rd.ps.all (λp=>cm (p.1+1) c.ci.length)&&((rd.ns++F8 c.hin).all (λp=>bm (lV (rd.ns++qX d c.hin c.lZ) p.1) p.2) &&
  (nodupB ((c.lZ.map (·.1)).map (lV (rd.ns++qX d c.hin c.lZ)))&&((c.hin.map (·.1)).all (c.lZ.map (·.1)).contains&&(AS c.ins c.hin&&(R.all (λp=>aaU p.2) &&
  ((c.lZ.map (λp=>lV (rd.ns++qX d c.hin c.lZ) p.1)).all λk=>!(R.has k))))))))
def II:Tp->Bool
 |.d (.i _) _=>bh
 |.d .b _=>bh
 |.d .s _=>bh
 |_=>bf
def Px:Tp->Bool
 |.iN l=>l.all II
 |t=>II t
def Ct.O4(c:Ct S):Bool:=c.hin.isEmpty&&(c.lZ.isEmpty&&Px c.out)
def Ct.call(c:Ct S)(H:AH S.T)(d:Nat)(vs:List (A S.T)):Option (OR S):=match Tp.reads c.hin bf H c.ins vs with
 |some r1=>match Ci c.hin H (r1.ns++F8 c.hin) c.hin with
  |some r2=>match Dg (r1.app r2).ps 0 c.ci,AR (dedup r1.fz) H with
   |some x,aY R =>
    bif c.DE d (r1.app r2) (dedup r1.fz) R
    then bif c.O4 then aY (.eqs (r1.app r2).eq (.mR (c.fn x) [] (dedup r1.fz) λr=>aY (c.out.put c.lZ (wZ c.ci x++wZ c.co r),[])))
    else aY (.eqs (r1.app r2).eq (.mR (c.fn x) ((c.hin.map λp=>lV ((r1.app r2).ns++qX d c.hin c.lZ) p.1)++dedup r1.fz) [] λr =>aY ((c.out.put c.lZ (wZ c.ci x++wZ c.co r)).fM (lV ((r1.app r2).ns++qX d c.hin c.lZ)),HC (lV ((r1.app r2).ns++qX d c.hin c.lZ)) (We c.lZ (wZ c.ci x++wZ c.co r))++rq R)))
    else bg
   |_,_=>bg
  |none=>bg
 |none=>bg
def uM{k:Nat}:∀{l:List Nat},k∈l->k∈dedup l
 |a::r,h=>by
  simp only[dedup]
  cases hb:C9 a r with
  |true =>
   rw[ct]
   have ha:a∈r:=by
    clear h
    induction r with
    |nil=>cases hb
    |cons b r ih =>
     simp only[C9]at hb
     cases hc:bm a b with
     |true=>rw[eb hc];exact ak
     |false=>rw[hc]at hb;exact iO _ (ih hb)
   rcases bu.1 h with rfl|h
   .exact uM ha
   .exact uM h
  |false =>
   rw[cf]
   rcases bu.1 h with rfl|h
   .exact ak
   .exact iO _ (uM h)
def zny(p:Nat×EV.Obj)(F:aw):k_ (p::F)=k_ [p]++k_ F:=by obtain⟨k,o⟩:=p;cases o<;>rfl
def qY(hS:S.OK):∀{F:AH S.T},hV (rq F)=k_ (hV F)
 |[]=>rfl
 |(k,o)::r=>by
  have ih:=qY hS (F:=r)
  cases o with
  |rw i =>
   show(k,S.ro i)::hV (rq r)=k_ ((k,S.ro i)::hV r)
   rw[zny,hS.aaT,ih];rfl
  |gn i c x =>
   show(k,S.go i c x)::hV (rq r)=k_ ((k,S.go i c x)::hV r)
   rw[zny,hS.aao,ih];rfl
  |box t cs=>simp only[rq,hV,ij,OA.k_,OA.o,k_]at ih ⊢;rw[ih]
  |map kc ec l=>simp only[rq,hV,ij,OA.k_,OA.o,k_]at ih ⊢;rw[ih]
  |row e c f l w=>simp only[rq,hV,ij,OA.k_,OA.o,k_,Fz.n,bM]at ih ⊢;rw[ih]
def oO:∀{F:aw},k_ (k_ F)=k_ F
 |[]=>rfl
 |(k,.row t sz _ els)::r=>by simp only[k_,oO (F:=r)]
 |(k,.box t cs)::r=>by simp only[k_,oO (F:=r)]
 |(k,.map l)::r=>by simp only[k_,oO (F:=r)]
 |(k,.n_ g t cs)::r=>by simp only[k_,oO (F:=r)]
 |(k,.nest g t VD Vx Ee)::r=>by simp only[k_,oO (F:=r)]
 |(k,.gen g)::r=>by simp only[k_,oO (F:=r)]
def QF:∀{ps:List (Nat×Dy S.T)}{j:Nat}{c:TC}{x:c.ty S.T},pick j c ps=aY x->(ps.map (·.1)).Nodup->∀d,(j,d)∈ps->d=⟨c,x⟩
 |(j',⟨c',y⟩)::r,j,c,x,h,hn,d,hd=>by
  simp only[ij,cA]at hn;simp only[pick]at h
  cases hb:bm j j' with
  |true =>
   rw[hb]at h;have e1:=eb hb;subst e1;dsimp only[ct]at h;split at h
   .rename_i e;subst e;cases h
    rcases bu.1 hd with e2|hd
    .cases e2;rfl
    .exact aQ (cG hd) hn.1
   .cases h
  |false =>
   rw[hb]at h
   rcases bu.1 hd with e2|hd
   .cases e2;rw[cC]at hb;cases hb
   .exact QF h hn.2 d hd
def Y2{ps:List (Nat×Dy S.T)}(hn:(ps.map (·.1)).Nodup):∀(cs:List TC)(j0:Nat)(x:HL S.T cs),Dg ps j0 cs=aY x->∀j d,(j,d)∈ps->j0<=j->j<j0+cs.length->(wZ cs x)[j-j0]?=aY d
 |[],j0,x,h,j,d,hd,h1,h2=>by simp at h2;omega
 |[c],j0,x,h,j,d,hd,h1,h2=>by
  have e1:j=j0:=by simp at h2;omega
  subst e1;simp only[Dg]at h;rw[QF h hn d hd];simp[wZ]
 |c::c'::r,j0,x,h,j,d,hd,h1,h2=>by
  simp only[Dg]at h;split at h
  .rename_i y hy;split at h
   .rename_i z hz;cases h;by_cases e1:j=j0
    .subst e1;rw[QF hy hn d hd];simp[wZ]
    .have:=Y2 hn (c'::r) (j0+1) z hz j d hd ab (by simp only[lc]at h2 ⊢;omega)
     show((⟨c,y⟩:Dy S.T)::wZ (c'::r) z)[j-j0]?=aY d
     rw[show j-j0=(j-(j0+1))+1 by omega,gQ];exact this
   .cases h
  .cases h
def zuc{ds:List (Dy S.T)}{j:Nat}{d:Dy S.T}(h:ds[j]?=aY d):Wd ds j d.1=d.2:=by unfold Wd;rw[h];simp
def WU{ps:List (Nat×Dy S.T)}(hn:(ps.map (·.1)).Nodup){cs:List TC}{x:HL S.T cs}(h:Dg ps 0 cs=aY x)(hl:∀p∈ps,p.1<cs.length):Sat (wZ cs x) ps:=λp hp=>by obtain⟨j,d⟩:=p;have:=Y2 hn cs 0 x h j d hp (cH _) (by have:=hl _ hp;simpa using this);exact zuc this
def Y3:∀{a b:List Nat}{F:AH S.T},AR (a++b) H=aY F->∃F1 F2,F=F1++F2/\AR a H=aY F1/\AR b H=aY F2
 |[],b,F,h=>⟨[],F,rfl,rfl,h⟩
 |k::a,b,F,h=>by
  simp only[dj,AR]at h;split at h
  .rename_i o ho;split at h
   .rename_i F' BY;cases h;obtain⟨F1,F2,rfl,h1,h2⟩:=Y3 BY;exact⟨(k,o)::F1,F2,rfl,by simp only[AR,ho,h1],h2⟩
   .cases h
  .cases h
def Yd:∀{ks:List Nat}{R:AH S.T},AR ks H=aY R->∀k∈ks,∀o,H.get k=aY o->(hV (rq R)).get k=aY o.k_.o
 |k0::r,R,h,k,hk,o,ho=>by
  simp only[AR]at h;split at h
  .rename_i o0 OP;split at h
   .rename_i F' BY;cases h;simp only[rq,hV,ij,aw.get]
    cases hb:bm k k0 with
    |true =>
     have:=eb hb;subst this;rw[OP]at ho;cases ho;rfl
    |false =>
     rcases bu.1 hk with rfl|hk
     .rw[cC]at hb;cases hb
     .exact Yd BY k hk o ho
   .cases h
  .cases h
def zhe:∀{ks:List Nat}{R:AH S.T},AR ks H=aY R->∀k∈ks,∀o,H.get k=aY o->(hV R).get k=aY o.o
 |k0::r,R,h,k,hk,o,ho=>by
  simp only[AR]at h;split at h
  .rename_i o0 OP;split at h
   .rename_i F' BY;cases h;simp only[hV,ij,aw.get]
    cases hb:bm k k0 with
    |true =>
     have:=eb hb;subst this;rw[OP]at ho;cases ho;rfl
    |false =>
     rcases bu.1 hk with rfl|hk
     .rw[cC]at hb;cases hb
     .exact zhe BY k hk o ho
   .cases h
  .cases h
def RA{σ:Nat->Nat}{a b:List (Nat×Nat)}(h:nP σ a)(k:nP σ b):nP σ (a++b):=λp hp=>(bJ.1 hp).elim (h p) (k p)
def zhf{hp:List (Nat×TO)}{ds:List (Dy S.T)}{t:Tp}(h:II t=bh):(t.put hp ds).v.bare=bh/\(t.put hp ds).v.refs=[]:=by
 unfold II at h;split at h
 .exact⟨by simp only[Tp.put,A.v,oL,V.bare],by simp only[Tp.put,A.v,oL,V.refs]⟩
 .exact⟨by simp only[Tp.put,A.v,oL,V.bare],by simp only[Tp.put,A.v,oL,V.refs]⟩
 .exact⟨by simp only[Tp.put,A.v,oL,V.bare],by simp only[Tp.put,A.v,oL,V.refs]⟩
 .cases h
def znz{hp:List (Nat×TO)}{ds:List (Dy S.T)}:∀{l:List Tp},l.all II=bh->Qb (A.vs (Tp.mJ hp ds l))=bh/\wh (A.vs (Tp.mJ hp ds l))=[]
 |[],_=>⟨by simp only[Tp.mJ,A.vs,Qb],by simp only[Tp.mJ,A.vs,wh]⟩
 |t::r,h=>by simp only[dA,bn]at h;obtain⟨h1,h2⟩:=zhf (hp:=hp) (ds:=ds) h.1;obtain⟨h3,h4⟩:=znz (hp:=hp) (ds:=ds) h.2;exact⟨by simp only[Tp.mJ,A.vs,Qb,h1,h3,im],by simp only[Tp.mJ,A.vs,wh,h2,h4,cL]⟩
def zy4{hp:List (Nat×TO)}{ds:List (Dy S.T)}{t:Tp}(h:Px t=bh):(t.put hp ds).v.bare=bh/\(t.put hp ds).v.refs=[]:=by
 unfold Px at h;split at h
 .obtain⟨h1,h2⟩:=znz (hp:=hp) (ds:=ds) h;exact⟨by simp only[Tp.put,A.v,V.bare,h1],by simp only[Tp.put,A.v,V.refs,h2]⟩
 .exact zhf h
def Py(hS:S.OK){σ:Nat->Nat}:∀{F:AH S.T},hV (HC σ F)=JH σ (hV F)
 |[]=>rfl
 |(k,o)::r=>by have ih:=Py hS (σ:=σ) (F:=r);have h1:=WS hS (σ:=σ) o;simp only[HC,hV,JH,ij]at ih ⊢;rw[ih,h1]
def zn0{k:Nat}:∀{F:AH S.T},(rq F).has k=F.has k
 |[]=>rfl
 |p::r=>by have ih:=zn0 (k:=k) (F:=r);simp only[rq,ij,AH.has]at ih ⊢;rw[ih]
def zDp(hS:S.OK){P:bo}{f d:Nat}{c:Ct S}(hc:c.OK P f){o:Oper}{E:AE S.T}{vs:List (A S.T)}(hv:Dh P o (eV E) f (A.vs vs)){r:OR S}(h:c.call H d vs=aY r):r.OK P o E H:=by
 unfold Ct.call at h;split at h
 .rename_i r1 g1;split at h
  .rename_i r2 g2;split at h
   .rename_i x R g3 g4
    cases hb:c.DE d (r1.app r2) (dedup r1.fz) R with
    |false=>rw[hb]at h;cases h
    |true =>
     rw[hb,ct]at h;simp only[Ct.DE,bn]at hb;obtain⟨b1,b2,b3,b4,b5,b6,b7,b8⟩:=hb
     cases hB:c.O4 with
     |true =>
      rw[hB,ct]at h;cases h;intro heq q hq a F' Jf F R0 hF GN;cases zk hF;cases Jf;have e2:R0=R:=Option.some.inj (GN.symm.trans g4);subst e2;simp only[Ct.O4,bn,List.isEmpty_iff]at hB;obtain⟨i1,i2,i3⟩:=hB
      have hs:Sat (wZ c.ci x) (r1.app r2).ps:=WU (yB b1) g3 λp hp=>by have:=(bl.1 b2) p hp;exact mi this
      have hn:nP (lV ((r1.app r2).ns++qX d c.hin c.lZ)) ((r1.app r2).ns++F8 c.hin):=λp hp=>eb ((bl.1 b3) p hp)
      have he:w7 (r1.app r2).eq:=heq;have hr:Ad c.hin (wZ c.ci x) (lV ((r1.app r2).ns++qX d c.hin c.lZ)) H:=Y0 g2 hs.right (RA hn.left.left hn.right) hn.left.right
      have CL:=Ae hS (R:=hV R0) c.ins vs r1 g1 hs.left hn.left.left he.left hr λk hk e c' f' l wl hg=>⟨_,zhe g4 k (uM hk) _ hg⟩
      have mY:=Vh (S:=S) hS (ds:=wZ c.ci x) b6
      have hrefs:wh (A.vs (Tp.mJ c.hin (wZ c.ci x) c.ins))=[]:=by
       simp only[AS,bn,i1,dC]at b6;rw[jI hS]
       refine List.eq_nil_iff_forall_not_mem.2 λk hk=>?_
       have:=(bl.1 b6.1) k hk;simp at this
      rw[HN hS,Ac _ hrefs]at CL;have DV:=hc x q hq;obtain⟨e1,e2⟩:=zy4 (S:=S) (hp:=c.lZ) (ds:=wZ c.ci x++wZ c.co q) i3
      have h0:∀ds,hV (We (S:=S) c.hin ds)=[]:=λds=>by rw[i1];rfl
      have h1:∀ds,hV (We (S:=S) c.lZ ds)=[]:=λds=>by rw[i2];rfl
      rw[h0,h1]at DV;have:=X8 (o:=o) (ρ:=eV E) hv DV CL e1 e2 hrefs;simpa[hV]using this
     |false =>
     rw[hB,cf]at h;cases h;intro heq q hq a F' Jf F R0 hF GN;cases zk GN;cases Jf;generalize hL:(r1.app r2).ns++qX d c.hin c.lZ=L at *;obtain⟨F1,F2,rfl,BZ,GL⟩:=Y3 hF;have e2:F2=R:=Option.some.inj (GL.symm.trans g4);subst e2
     have hs:Sat (wZ c.ci x) (r1.app r2).ps:=WU (yB b1) g3 λp hp=>by have:=(bl.1 b2) p hp;exact mi this
     have hn:nP (lV L) ((r1.app r2).ns++F8 c.hin):=λp hp=>eb ((bl.1 b3) p hp)
     have he:w7 (r1.app r2).eq:=heq;have hr:Ad c.hin (wZ c.ci x) (lV L) H:=Y0 g2 hs.right (RA hn.left.left hn.right) hn.left.right;obtain⟨k1,k2⟩:=Y1 hS g2 hs.right (RA hn.left.left hn.right) hn.left.right he.right hr F1 BZ
     have hR:k_ (hV (rq F2))=hV (rq F2):=by rw[qY hS,oO]
     have CL:=Ae hS (R:=hV (rq F2)) c.ins vs r1 g1 hs.left hn.left.left he.left hr λk hk e c' f' l wl hg=>⟨_,Yd g4 k (uM hk) _ hg⟩
     rw[HN hS]at CL
     have Tw:=zgw (o:=o) L hv (hc x q hq) CL hR (by rw[kT];exact b4) (Vh hS b6) (by rw[kT,kT];exact b5) (by
      rw[vv,kT,cU]
      refine bl.2 λk hk=>?_
      have:=(bl.1 b8) k hk;rw[Hh]
      rw[zn0];exact this)
     have tA:=ztm (Fa:=hV F1) (R:=hV F2) (o:=o) (P:=P) (ρ:=eV E) rfl (by rw[k1,<- qY hS];exact Tw);simp only[zHw]
     show EV.Loc P o (eV E) (hV F1++hV F2++[]) _ (_++[])
     rw[cL,cL,Py hS,IZ hS];exact tA
   .cases h
  .cases h
 .cases h
end
end Go.EQ
namespace Go.EV
open Go Go.RowKit Go.lG
section
variable{K0:List Nat}{ρ:Env}{H:aw}
end
section
variable{P:bo}{ρ:Env}{dst:Option Tmp}{ty:bK}{pos:String}{aft:Array Edge}{gd:Option (Nat×Bool)}
def SG(P:bo)(t:Nat):Option (Nat×Nat):=
 match P.underlying t with
 |some (.array n e)=>match P.info? e with
  |some i=>aY (n,i.size)
  |none=>bg
 |_=>bg
def zhg{t n sz kk L off:Nat}{x ix:bI}{k:IntKind}{i:Int}(ht:SG P t=aY (n,sz))(hx:aV ρ x=.ptr kk L off)(hi:aV ρ ix=.int k i)(h0:0<=i)(h1:i<n):
  Loc P ⟨dst,.indexAddr t x ix,ty,pos,aft,gd⟩ ρ [] (.ptr kk L (off+i.toNat*sz)) []:=by
 intro ρr m Z w e9 hs _;have hX:=e9 x (by simp[Op.operands]);have hI:=e9 ix (by simp[Op.operands]);rw[hx]at hX;rw[hi]at hI;have hI:ev ρr ix=.int k i:=hI;obtain⟨f,loc,e1,e2,hX⟩:=hX;cases e1;unfold SG at ht;split at ht
 .rename_i n' e' hu;split at ht
  .rename_i ii rj;simp only[Option.some.injEq,Prod.mk.injEq]at ht;obtain⟨rfl,rfl⟩:=ht;refine⟨rfl,.inl ⟨.pointer (aY ⟨loc.1,off+i.toNat*ii.size,bg⟩),w,?_,m,Z,Step.refl hs,m,loc,rfl,e2,rfl⟩⟩;have h7:¬((n':Int)<=i):=ab;simp[bP,Instr.indexAt,run_underlying hu,asIntOf,hX,hI,Instr.sureAddr,sizeOf,typeInfo,rj,h0,h7,Addr.add_lit]
  .cases ht
 .cases ht
end
end Go.EV
namespace Go.EQ
open Go Go.RowKit Go.lG Go.EV
section
variable{S:ni}
variable{P:bo}{E:AE S.T}{H:AH S.T}{dst:Option Tmp}{ty:bK}{pos:String}{aft:Array Edge}{gd:Option (Nat×Bool)}
def Y4(P:bo)(t:Nat)(a i:A S.T):Option (OR S):=match SG P t with
 |some (n,sz)=>match intOf i,a with
  |some (_,j),.raw (.ptr k L off)=>aY (bif decide (0<=j)&&decide (j<(n:Nat))then .one [] [] (.raw (.ptr k L (off+Int.toNat j*sz))) []else .no)
  |_,_=>aY .no
 |none=>bg
def zhh{t:Nat}{x ix:bI}{r:OR S}(h:Y4 P t (iL E x) (iL E ix)=aY r):r.OK P ⟨dst,.indexAddr t x ix,ty,pos,aft,gd⟩ E H:=by
 unfold Y4 at h;split at h
 .rename_i n sz ht;split at h
  .rename_i q j k L off h1 h2;cases h
   cases hb:decide (0<=j)&&decide (j<(n:Nat))with
   |false=>trivial
   |true =>simp only[bn,aU]at hb;intro F R hF hR;cases zk hF;cases zk hR;exact zhg ht (by rw[yu,h2];simp only[A.v]) (by rw[yu];exact oM h1) hb.1 hb.2
  .cases h;trivial
 .cases h
end
end Go.EQ
namespace Go.EV
open Go Go.RowKit Go.lG
section
variable{P:bo}{ρ:Env}{dst:Option Tmp}{ty:bK}{pos:String}{aft:Array Edge}{gd:Option (Nat×Bool)}{x:bI}{v:V}
end
section
variable{P:bo}{ρ:Env}{dst:Option Tmp}{ty:bK}{pos:String}{aft:Array Edge}{gd:Option (Nat×Bool)}
def zhi{t g k n:Nat}{ob:Go.Obj}{cs:List V}(h:oj P t=aY (aY n))(hn:cs.length=n):Loc P ⟨dst,.load t (.global g),ty,pos,aft,gd⟩ ρ [(k,.n_ g ob cs)] (.agg cs) [(k,.n_ g ob cs)]:=by intro ρr m Z w e9 hs _;obtain⟨g1,⟨g2,cur,u,fr,e1,g3⟩,g4⟩:=hs.holds _ (b_.2 rfl);subst e1;have hl:=g3.length;refine⟨rfl,.inl ⟨.agg cur.toList.toArray,w,w9 (p:=⟨g,0,bg⟩) _ (ve h) rfl ab λj u' hj=>?_,m,Z,Step.refl hs,_,rfl,g3.up (λ_ _ e=>e) (λf e=>by cases e)⟩⟩;have:(⟨g,0,bg⟩:Addr).add j=⟨g,0+j,bg⟩:=Addr.add_lit ..;rw[this,cl,cell_of_row w g j cur u fr g2];simpa using hj
def Mk(P:bo)(t n:bK):Bool:=match P.underlying t with
 |some (.array m e)=>bm m n&&(match oj P e with|some bg=>(match P.info? e with|some i=>bm i.size 1|none=>bf)|_=>bf)
 |_=>bf
def zhj{t:bK}{x ix:bI}{k:IntKind}{i:Int}{cs:List V}{v:V}(ht:Mk P t cs.length=bh)(hx:aV ρ x=.agg cs)(hi:aV ρ ix=.int k i)(h0:0<=i)(hv:cs[i.toNat]?=aY v):
  Loc P ⟨dst,.index t x ix,ty,pos,aft,gd⟩ ρ [] v []:=by
 intro ρr m Z w e9 hs _;have hX:=e9 x (by simp[Op.operands]);have hI:=e9 ix (by simp[Op.operands]);rw[hx]at hX;rw[hi]at hI;have hI:ev ρr ix=.int k i:=hI;obtain⟨l,h1,h2⟩:=hX;obtain⟨u,h3,h4⟩:=h2.get hv;have hl:=h2.length;have ib:=(bq.1 hv).1;refine⟨rfl,.inl ⟨u,w,?_,m,Z,Step.refl hs,h4⟩⟩;unfold Mk at ht;split at ht
 .rename_i mm e hu;simp only[bn]at ht;have hm:=eb ht.1;subst hm;have ht:=ht.2;split at ht
  .rename_i nk;split at ht
   .rename_i inf afR;have rG:=eb ht;have pf:i<(cs.length:Nat):=ab;have Lo:(isAgg e).run P w=.ok bf w:=kC (xO nk);simp[bP,Instr.index,asIntOf,hI,h1,run_underlying hu,h0,pf,sizeOf,typeInfo,afR,rG,part,Lo,h3]
   .cases ht
  .cases ht
 .cases ht
end
def ow:List aj->List aj->Bool
 |[],[]=>bh
 |[a],[b]=>decide (a=b)
 |a::l,b::m=>decide (a=b)&&ow l m
 |_,_=>bf
def zlb(a b:aj):∀l m:List aj,l.length=m.length->ow (a::l) (b::m)=(decide (a=b)&&ow l m)
 |[],[],_=>by simp[ow]
 |_::_,_::_,_=>by rw[ow];intro h;cases h
 |[],_::_,h=>by cases h
 |_::_,[],h=>by cases h
def Cj(l:List aj):List bx:=l.map λs=>Value.string ⟨s.toArray⟩
def RC{m:Option M}{Z:ZM}:∀{l:List aj}{xs:List bx},zC m Z (l.map V.str) xs->xs=Cj l
 |[],xs,h=>h
 |s::l,xs,h=>by obtain⟨x,r,rfl,h1,h2⟩:=h;rw[RC h2,show x=.string ⟨s.toArray⟩ from h1];rfl
section
variable{P:bo}{w:bF}
def zhk{d:Nat}{e:bK}(he:P.underlying e=aY .string){l m:List aj}:∀(k j:Nat),j+k=l.length->j+k=m.length ->
  (Op.eqItems (d+1) e 1 (Cj l).toArray (Cj m).toArray (List.range' j k)).run P w=.ok (ow (l.drop j) (m.drop j)) w
 |0,j,h1,h2=>by
  have e1:l.drop j=[]:=ea ab;have e2:m.drop j=[]:=ea ab;rw[e1,e2];simp[Op.eqItems,ow]
 |k+1,j,h1,h2=>by
  have i1:j<l.length:=ab;have i2:j<m.length:=ab;have ih:=zhk (d:=d) he (l:=l) (m:=m) k (j+1) ab ab
  have Lo:(isAgg e).run P w=.ok bf w:=by simp[isAgg,run_underlying he]
  have px:(part e (Cj l).toArray (j*1)).run P w=.ok (.string ⟨l[j].toArray⟩) w:=by simp[part,Lo,Cj,i1]
  have py:(part e (Cj m).toArray (j*1)).run P w=.ok (.string ⟨m[j].toArray⟩) w:=by simp[part,Lo,Cj,i2]
  have pe:(Op.equalIn (d+1) e (.string ⟨l[j].toArray⟩) (.string ⟨m[j].toArray⟩)).run P w=.ok (decide (l[j]=m[j])) w:=by
   rw[run_equalIn_string w d e _ _ he];simp only[ByteArray.toList_eq]
   congr 1
   rw[Bool.eq_iff_iff];simp
  rw[List.range'_succ,eY i1,eY i2,zlb _ _ _ _ (by simp only[cF];omega)];simp only[Op.eqItems,Sem.run_bind,px,py,pe,Result.andThen_ok]
  cases decide (l[j]=m[j])with
  |false=>simp
  |true=>simpa using ih
def Fx(P:bo)(t n:bK):Bool:=(!P.eqGuardType P.depth t)&&match P.underlying t with
 |some (.array m e)=>bm m n&&((match P.underlying e with|some .string=>bh|_=>bf)&&match P.info? e with|some i=>bm i.size 1|none=>bf)
 |_=>bf
def zud{t:bK}{l m:List aj}(ht:Fx P t l.length=bh)(hl:l.length=m.length):(Op.equalIn 10000 t (.agg (Cj l).toArray) (.agg (Cj m).toArray)).run P w=.ok (ow l m) w:=by
 simp only[Fx,bn]at ht;have ht:=ht.2;split at ht
 .rename_i k e hu;simp only[bn]at ht;obtain⟨h1,h2,h3⟩:=ht;have h1:=eb h1;subst h1;split at h2
  .rename_i he;split at h3
   .rename_i i hi
    have hc:P.cellsOf e=1:=by simp[Program.cellsOf,hi,eb h3]
    rw[run_equalIn_array w 9999 _ _ hu hi,hc,List.range_eq_range'];have:=zhk (w:=w) (d:=9998) he (l:=l) (m:=m) l.length 0 ab ab;simpa using this
   .cases h3
  .cases h2
 .cases ht
end
section
variable{P:bo}{ρ:Env}{dst:Option Tmp}{ty:bK}{pos:String}{aft:Array Edge}{gd:Option (Nat×Bool)}
def zue{op:BinOp}{t t':bK}{x y:bI}{l m:List aj}(nv:op=.eql∨op=.neq)(ht:Fx P t l.length=bh)(hl:l.length=m.length)(hx:aV ρ x=.agg (l.map V.str))(hy:aV ρ y=.agg (m.map V.str)):
  Loc P ⟨dst,.binOp op t x y t',ty,pos,aft,gd⟩ ρ [] (.bool (match op with|.eql=>ow l m|_=>!(ow l m))) []:=by
 intro ρr mm Z w e9 hs _;have hX:=e9 x (by simp[Op.operands]);have hY:=e9 y (by simp[Op.operands]);rw[hx]at hX;rw[hy]at hY;obtain⟨c1,e1,r1⟩:=hX;obtain⟨c2,e2,r2⟩:=hY;have r1:=RC r1;have r2:=RC r2;subst r1;subst r2
 have h3:P.eqGuardType P.depth t=bf:=by simp only[Fx,bn,bX]at ht;exact ht.1
 have h:=zud (w:=w) ht hl
 rcases nv with rfl|rfl
 .exact⟨rfl,.inl ⟨.bool (ow l m),w,by simp[bP,e1,e2,run_eqGuard_agg w _ t x y _ _ h3,run_eql_struct,h],mm,Z,Step.refl hs,rfl⟩⟩
 .exact⟨rfl,.inl ⟨.bool (!(ow l m)),w,by simp[bP,e1,e2,run_eqGuard_agg w _ t x y _ _ h3,run_neq_struct,h],mm,Z,Step.refl hs,rfl⟩⟩
end
section
variable{K0:List Nat}{c:Ctx K0}{P:bo}{r:Option Nat}{N:Nat}{Q:xF}{ρ:Env}{H:aw}{ds:List Deferred}{all rest:List Oper}{ty:bK}{pos:String}{aft:Array Edge}{gd:Option (Nat×Bool)}{t t':bK}{x y:bI}
def zH3{d sz:Nat}{els:List (List V)}(hd:cm (d+1) N=bh)(ht:jE P t=bh)(hx:aV ρ x=.vs sz els)(hy:aV ρ y=.gg)(hw:ye all ρ ⟨aY d,.binOp .eql t x y t',ty,pos,aft,gd⟩=aY bh)
  (h1:els.isEmpty=bh->HH c P r N all Q rest ((d,.bool bh)::ρ) H ds) (h2:HH c P r N all Q rest ((d,.bool bf)::ρ) H ds):HH c P r N all Q (⟨aY d,.binOp .eql t x y t',ty,pos,aft,gd⟩::rest) ρ H ds:=by
 rintro ρr w mj ⟨m,Z,S,hR⟩ hM;have hX:=hR.ev x;rw[hx]at hX;obtain⟨A,cp,hX,_,_,hA⟩:=hX;have hY:=hR.ev y;rw[hy]at hY;simp only[aT]at hY
 have D9:∃e,P.underlying t=aY (.slice e):=by
  simp only[jE]at ht;split at ht
  .exact⟨_,by assumption⟩
  .cases ht
 obtain⟨e,D9⟩:=D9
 have mO:(bP (ev ρr) ⟨aY d,.binOp .eql t x y t',ty,pos,aft,gd⟩).run P w=.ok (.value (.bool A.isNone)) w:=by
  have hq:∀k,(Op.equalIn (k+1) t (.slice A els.length cp) (.slice bg 0 0)).run P w=.ok A.isNone w:=λk=>by cases A<;>simp[Op.equalIn,run_underlying D9]
  refine(Mx (dst:=aY d) (t':=t') (ty:=ty) (pos:=pos) (aft:=aft) (gd:=gd) (b:=A.isNone) hX hY rfl rfl (hq 9999)).1
 refine wk d _ rfl hd (xf hR hw) rfl mO ?_
 cases A with
 |none =>
  have he:els.isEmpty=bh:=by
   rcases hA with rfl|⟨a,h,_⟩
   .rfl
   .cases h
  exact h1 he _ _ _ ⟨m,Z,S,hR.put d rfl⟩ hM
 |some a=>exact h2 _ _ _ ⟨m,Z,S,hR.put d rfl⟩ hM
end
end Go.EV
namespace Go.EQ
open Go Go.RowKit Go.lG Go.EV
section
variable{S:ni}
def aaN:A S.T->Bool
 |.rh ..=>bh
 |_=>bf
def R9(H:AH S.T)(a:A S.T):Option (A S.T×List Nat×List (Nat×Nat)):=match a with
 |.rh sz k n=>match H.get k with
  |some (.row _ c _ _ _)=>match BA H (.l c) (.rh sz k n)with
   |some rx=>aY (.lQ (.l c) rx.x,rx.fz,rx.eq)
   |none=>bg
  |_=>bg
 |a=>aY (a,[],[])
def MF(H:AH S.T):List (A S.T)->Option (List (A S.T)×List Nat×List (Nat×Nat))
 |[]=>aY ([],[],[])
 |a::r=>match R9 H a with
  |some (a',f,e)=>match MF H r with
   |some (r',f',e')=>aY (a'::r',f++f',e++e')
   |none=>bg
  |none=>bg
def KB(P:bo)(E:AE S.T)(H:AH S.T)(cd:Nat->Option TC)(d t n:Nat)(parts:List (Nat×bI)):OR S:=match parts with
 |[(i,.tmp s)]=>match E.get s with
  |.ag cs=>bif cs.any aaN then(match MF H cs with
    |some (cs',fz,eq)=>match j9 P ((s,.ag cs')::E) cd d t n [(i,.tmp s)]with
     |.one [] [] a F'=>match AR (dedup fz) H with
      |some R=>bif nodupB (dedup fz)&&F'.all (λp=>!(dedup fz).contains p.1)then .eqs eq (.one (dedup fz) [] a (F'++rq R))else .no
      |none=>.no
     |_=>.no
    |none=>.no)
   else j9 P E cd d t n [(i,.tmp s)]
  |_=>j9 P E cd d t n [(i,.tmp s)]
 |ps=>j9 P E cd d t n ps
def zld{H:AH S.T}{a a':A S.T}{fz:List Nat}{eq:List (Nat×Nat)}(h:R9 H a=aY (a',fz,eq))(heq:w7 eq){R:aw}(hR:RowsIn H R fz):au R a.v a'.v:=by
 unfold R9 at h;split at h
 .split at h
  .split at h
   .rename_i rx D8;cases h;have:=Ab D8 heq hR;simpa only[A.v]using this
   .cases h
  .cases h
 .cases h;exact .same _
def Wg{H:AH S.T}{R:aw}:∀{cs cs':List (A S.T)}{fz:List Nat}{eq:List (Nat×Nat)},MF H cs=aY (cs',fz,eq)->w7 eq->RowsIn H R fz->jG R (A.vs cs) (A.vs cs')
 |[],cs',fz,eq,h,heq,hR=>by
  cases h;simp only[A.vs];exact .nil
 |a::r,cs',fz,eq,h,heq,hR=>by
  simp only[MF]at h;split at h
  .rename_i a' f e h1;split at h
   .rename_i r' f' e' h2;cases h;simp only[A.vs];exact .cons (zld h1 heq.left hR.left) (Wg h2 heq.right hR.right)
   .cases h
  .cases h
def zug{P:bo}{ρ nO:Env}{o:Oper}{v:V}{F0 R:aw}(h:EV.Loc P o nO [] v F0)(hv:∀x∈o.op.operands,au R (aV ρ x) (aV nO x))(hR:k_ R=R)(hd:∀p∈F0,∀q∈R,p.1≠q.1):EV.Loc P o ρ R v (F0++R):=by
 intro ρr m Z w e9 hs mU
 have GP:∀k t sz fz els,R.get k=aY (.row t sz fz els)->Holds m Z w k (.row t sz els.length els):=λk t sz fz els hg=>by
  have l5:=aw.get_mem hg;have h1:=hs.holds _ l5
  have:fz=els.length:=by
   rw[<- hR]at l5
   rcases j7 l5 with⟨k',t',mo,rC,Cv,h2,h3⟩|⟨h2,h3⟩
   .simp only[Prod.mk.injEq,Obj.row.injEq]at h3;obtain⟨_,_,_,e1,e2⟩:=h3;rw[e1,e2]
   .exact aQ rfl (h3 t sz fz els)
  subst this;exact h1
 refine(h ρr m Z w (λx hx=>au.rep GP (hv x hx) (e9 x hx)) ⟨hs.frozen,λp hp=>(by cases hp),cZ,λp hp=>(by cases hp)⟩ (λk hk _=>?_)).mono ?_
 .obtain⟨p,hp,rfl⟩:=bL.1 hk
  refine mU p.1 (by rw[zA];exact bQ _ (ax hp)) λsf=>?_
  obtain⟨q,hq,e⟩:=bL.1 sf;exact hd p hp q hq e.symm
 .rintro x w' ⟨m',Z',st,hr⟩;exact⟨m',Z',Step.Bk (F:=[]) (G:=R) hs st hd,hr⟩
def zhl{H:AH S.T}:∀{ks:List Nat}{R:AH S.T},AR ks H=aY R->keys (hV R)=ks
 |[],R,h=>by cases h;rfl
 |k::ks,R,h=>by
  simp only[AR]at h;split at h
  .split at h
   .rename_i o _ l hl;cases h;have:=zhl hl;simp only[hV,keys,ij,cU]at this ⊢;rw[this]
   .cases h
  .cases h
def zaw(hS:S.OK){P:bo}{E:AE S.T}{H:AH S.T}{dst:Option Tmp}{ty:bK}{pos:String}{aft:Array Edge}{gd:Option (Nat×Bool)}{cd:Nat->Option TC}{d t n:Nat}{parts:List (Nat×bI)}:(KB P E H cd d t n parts).OK P ⟨dst,.buildSlice t n parts.toArray,ty,pos,aft,gd⟩ E H:=by
 unfold KB;split
 .rename_i i s;split
  .rename_i cs hE
   cases hb:cs.any aaN with
   |false=>exact kE hS
   |true =>
    simp only[ct];split
    .rename_i cs' fz eq h1;have hA:=kE (P:=P) (E:=(s,.ag cs')::E) (H:=H) (dst:=dst) (ty:=ty) (pos:=pos) (aft:=aft) (gd:=gd) hS (cd:=cd) (d:=d) (t:=t) (n:=n) (parts:=[(i,.tmp s)]);split
     .rename_i a F' h2;rw[h2]at hA;split
      .rename_i R h3
       cases hc:nodupB (dedup fz)&&F'.all (λp=>!(dedup fz).contains p.1)with
       |false=>trivial
       |true =>
        simp only[bn]at hc;intro heq F R0 hF GN;cases zk GN;have e2:F=R:=Option.some.inj (hF.symm.trans h3);subst e2;have hl:=hA [] [] rfl rfl;rw[show hV F'++hV ([]:AH S.T)=hV F' from cL _]at hl
        have TH:∀x∈(Oper.mk dst (.buildSlice t n [(i,Operand.tmp s)].toArray) ty pos aft gd).op.operands,au (k_ (hV F)) (aV (eV E) x) (aV (eV ((s,.ag cs')::E:AE S.T)) x):=λx hx=>by
         cases x with
         |tmp q =>
          show au _ ((eV E).get q) ((eV ((s,.ag cs')::E:AE S.T)).get q)
          rw[Qd,Qd];simp only[AE.get]
          cases hq:bm q s with
          |false=>exact .same _
          |true =>
           have:=eb hq;subst this;rw[hE];simp only[ct,A.v]
           exact .agg (Wg h1 heq λk hk e c' f' l wl hg=>by
            rw[<- qY hS]
            exact⟨_,Yd h3 k (uM hk) _ hg⟩)
         |_=>exact .same _
        have hd:∀p∈hV F',∀q∈k_ (hV F),p.1≠q.1:=λp hp q hq e=>by obtain⟨p',ka,rfl⟩:=bL.1 hp;have h5:=(bl.1 hc.2) p' ka;have h6:=ax hq;rw[wU,zhl h3]at h6;simp only[bX,cv,aW]at h5;exact h5 (by rw[e];exact h6)
        have:=ztm (Fa:=[]) (R:=hV F) (F2:=k_ (hV F)) rfl (zug (R:=k_ (hV F)) hl TH oO hd)
        show EV.Loc P _ (eV E) (hV F++hV ([]:AH S.T)) a.v (hV (F'++rq F)++hV ([]:AH S.T))
        rw[show hV F++hV ([]:AH S.T)=hV F from cL _,show hV (F'++rq F)++hV ([]:AH S.T)=hV F'++hV (rq F) from(cL _).trans cX,qY hS];exact this
      .trivial
     .trivial
    .trivial
  .exact kE hS
 .exact kE hS
abbrev nA(S:ni):=List (Nat×Ct S)
def nA.OK(P:bo):nA S->Prop
 |[]=>True
 |p::r=>(zb P p.1/\p.2.OK P p.1)/\nA.OK P r
def Ez(H:AH S.T)(d f:Nat)(vs:List (A S.T)):nA S->OR S
 |[]=>.no
 |(g,c)::r=>bif bm f g then match c.call H d vs with
   |some q=>bif c.alt then q.TJ (Ez H d f vs r)else q
   |none=>Ez H d f vs r
  else Ez H d f vs r
def Ml(a b:A S.T)(op:BinOp):OR S:=match intOf a,intOf b with
 |some (k,m),aY (k',n)=>bif decide (k=k')then .mR (bD (n≠0)) [] [] λ_=>aY (.lQ (.i k) (match op with|.quo=>k.wrap (m.tdiv n)|_=>m.tmod n),[])else .no
 |_,_=>.no
def MG(P:bo)(t n:Nat):Bool:=match oj P t with
 |some (aY m)=>bm n m
 |_=>bf
def F9(P:bo)(H:AH S.T)(t g:Nat):List Nat->OR S
 |[]=>.no
 |k::r=>match H.get k with
  |some (.rw i)=>match hg:S.gl i with
   |some (g',_,l)=>bif bm g g'&&MG P t l.length then .one [] [k] (.ag (l.map λs=>.lQ .s s)) []else F9 P H t g r
   |none=>F9 P H t g r
  |_=>F9 P H t g r
def F_:List (A S.T)->Option (List aj)
 |[]=>aY []
 |.lQ .s x::r=>match F_ r with
  |some l=>aY (x::l)
  |none=>bg
 |_=>bg
def R_(P:bo)(t:Nat)(a i:A S.T):OR S:=match a with
 |.ag cs=>match F_ cs,intOf i with
  |some l,aY (_,n)=>bif Mk P t l.length then .mR (idx (α:=aj) l n) [] [] λx=>aY (.lQ .s x,[])else .no
  |_,_=>.no
 |a=>R5 P t a i
def JS:List V->List V->Bool
 |[],[]=>bh
 |.mx::a,.mx::b=>JS a b
 |.gg::a,.gg::b=>JS a b
 |.mD::a,.mD::b=>JS a b
 |_,_=>bf
def Vv(t:Nat)(cs:List (A S.T)):OA S.T:=match S.ga t with
 |some (i,d,cs0)=>bif JS (A.vs cs) cs0 then .gn i d.1 d.2 else .box t cs
 |none=>.box t cs
def Lb:OR S->OR S
 |.one kF [] a [(k,.box t cs)]=>.one kF [] a [(k,Vv t cs)]
 |q=>q
def MU(P:bo)(t:Nat)(b:Bool):A S.T->A S.T->OR S
 |.ag cs,.ag cs'=>match F_ cs,F_ cs' with
  |some l,aY m=>bif Fx P t l.length&&bm l.length m.length then .one [] [] (.lQ .b (bif b then EV.ow l m else !(EV.ow l m))) []else .no
  |_,_=>.no
 |_,_=>.no
def Tf(P:bo)(T:nA S)(cd:Nat->Option TC)(E:AE S.T)(H:AH S.T)(d:Nat):Op->OR S
 |.load t (.global g)=>F9 P H t g (H.map (·.1))
 |.load t x=>Pu P H t (iL E x)
 |.store t x y=>R4 P H t (iL E x) (iL E y)
 |.indexAddr t x y=>match Y4 P t (iL E x) (iL E y)with
  |some r=>r
  |none=>Vf P t (iL E x) (iL E y)
 |.index t x y=>R_ P t (iL E x) (iL E y)
 |.slice t x lo hi bg=>R6 P E t (iL E x) lo hi
 |.alloc t=>Lb (RX P d t)
 |.box t x=>Lb (SK d t (iL E x))
 |.buildSlice t n ps=>KB P E H cd d t n ps.toList
 |.makeSlice t x y=>Vg P E cd d t x y
 |.makeMap t bg=>P9 P cd d t
 |.lookup t x y co=>Rq P H t (iL E x) (iL E y) co
 |.mapUpdate t x y z=>JO P H t (iL E x) (iL E y) (iL E z)
 |.insert t x y z=>JO P H t (iL E x) (iL E y) (iL E z)
 |.call ⟨.builtin .append,⟨[x,y]⟩,⟨[t,t']⟩⟩=>Ro P E H cd d t t' x y
 |.call ⟨.value (.func f),l,_⟩=>Ez H d f (l.toList.map (iL E)) T
 |.call ⟨.value x,l,_⟩=>match iL E x with
  |.fn f a b=>Ez H d f (a++l.toList.map (iL E)++b) T
  |_=>.no
 |.binOp .eql t x y _=>MU P t bh (iL E x) (iL E y)
 |.binOp .neq t x y _=>MU P t bf (iL E x) (iL E y)
 |.binOp .add _ x y _=>Rp (iL E x) (iL E y)
 |.binOp .quo _ x y _=>Ml (iL E x) (iL E y) .quo
 |.binOp .rem _ x y _=>Ml (iL E x) (iL E y) .rem
 |_=>.no
def Tj(P:bo)(T:nA S)(cd:Nat->Option TC)(E:AE S.T)(H:AH S.T)(d:Nat)(op:Op):OR S:=match Pt P E op with
 |some a=>.one [] [] a []
 |none=>Tf P T cd E H d op
def HB(P:bo)(T:nA S)(cd:Nat->Option TC)(E:AE S.T)(H:AH S.T)(d:Nat)(op:Op):OR S:=Tj P T cd E H d op
section
variable{P:bo}{E:AE S.T}{H:AH S.T}{dst:Option Tmp}{ty:bK}{pos:String}{aft:Array Edge}{gd:Option (Nat×Bool)}
def Qh(hS:S.OK){d f:Nat}{vs:List (A S.T)}{o:Oper}(hv:zb P f->Dh P o (eV E) f (A.vs vs)):∀{T:nA S},nA.OK P T->(Ez H d f vs T).OK P o E H
 |[],_=>trivial
 |(g,c)::r,hT=>by
  simp only[Ez]
  cases hb:bm f g with
  |true =>
   have:=eb hb;subst this;rw[ct];split
   .rename_i q hq;have h1:=zDp hS hT.1.2 (hv hT.1.1) hq
    cases c.alt with
    |true=>exact znu h1 (Qh hS hv hT.2)
    |false=>exact h1
   .exact Qh hS hv hT.2
  |false=>exact Qh hS hv hT.2
def zui{op:BinOp}(nv:op=.quo∨op=.rem){t t':bK}{x y:bI}:(Ml (iL E x) (iL E y) op).OK P ⟨dst,.binOp op t x y t',ty,pos,aft,gd⟩ E H:=by
 unfold Ml;split
 .rename_i k m k' n h1 h2
  cases hk:decide (k=k')with
  |false=>trivial
  |true =>
   have:=aX hk;subst this;intro u hu a F' hr F R hF hR;cases hr;cases zk hF;cases zk hR;have hn:=yY hu;have:=zCz (P:=P) (ρ:=eV E) (dst:=dst) (ty:=ty) (pos:=pos) (aft:=aft) (gd:=gd) (t:=t) (t':=t') nv (by rw[yu];exact oM h1) (by rw[yu];exact oM h2) hn
   rcases nv with rfl|rfl<;>exact this
 .trivial
def zqk{t n:Nat}(h:MG P t n=bh):oj P t=aY (aY n):=by
 unfold MG at h;split at h
 .rename_i m e;rw[e,eb h]
 .cases h
def WV:∀l:List aj,A.vs (l.map λs=>A.lQ (T:=S.T) .s s)=l.map V.str
 |[]=>rfl
 |s::l=>by
  show(A.lQ (T:=S.T) .s s).v::A.vs (l.map λs=>A.lQ (T:=S.T) .s s)=V.str s::l.map V.str
  rw[WV l];rfl
def Ye(hS:S.OK){t g:Nat}:∀{ks:List Nat},(F9 P H t g ks).OK P ⟨dst,.load t (.global g),ty,pos,aft,gd⟩ E H
 |[]=>trivial
 |k::r=>by
  unfold F9;split
  .rename_i i hk;split
   .rename_i g' u l hg
    cases hb:bm g g'&&MG P t l.length with
    |false=>exact Ye hS
    |true =>
     simp only[bn]at hb;have:=eb hb.1;subst this;obtain⟨ob,hob⟩:=hS.n_ i g u l hg;intro F R hF hR;cases zk hF;cases qW hk hR;have hl:=zhi (P:=P) (ρ:=eV E) (dst:=dst) (ty:=ty) (pos:=pos) (aft:=aft) (gd:=gd) (g:=g) (k:=k) (ob:=ob) (cs:=l.map V.str) (zqk hb.2) (by rw[bM])
     show EV.Loc P _ _ [(k,S.ro i)] _ [(k,S.ro i)]
     rw[hob]
     have e:(A.ag (l.map λs=>A.lQ (T:=S.T) .s s)).v=.agg (l.map V.str):=by simp only[A.v];exact aP V.agg (WV l)
     rw[e];exact hl
   .exact Ye hS
  .exact Ye hS
def MH:∀{cs:List (A S.T)}{l:List aj},F_ cs=aY l->A.vs cs=l.map V.str
 |[],l,h=>by cases h;rfl
 |a::r,l,h=>by
  unfold F_ at h;split at h
  .rename_i e;cases e
  .rename_i x r' e;cases e;split at h
   .rename_i l' e';cases h;simp only[A.vs,ij,MH e'];rfl
   .cases h
  .cases h
def zuj{t:Nat}{x ix:bI}:(R_ P t (iL E x) (iL E ix)).OK P ⟨dst,.index t x ix,ty,pos,aft,gd⟩ E H:=by
 unfold R_;split
 .rename_i cs hx;split
  .rename_i l k n h1 h2
   cases hb:Mk P t l.length with
   |false=>trivial
   |true =>
    intro y hy a F' hr F R hF hR;cases hr;cases zk hF;cases zk hR;obtain⟨g1,g2,g3⟩:=yJ hy;have ib:n.toNat<l.length:=ab;refine zhj (k:=k) (i:=n) (cs:=l.map V.str) (by rw[bM];exact hb) (by rw[yu,hx];simp only[A.v,MH h1]) (by rw[yu];exact oM h2) g1 ?_;rw[cz,bA ib,g3,List.getD_eq_getElem?_getD,bA ib];rfl
  .trivial
 .exact zt0
def AT:∀{a b:List V},JS a b=bh->a=b
 |[],[],_=>rfl
 |.mx::a,.mx::b,h=>by rw[AT (a:=a) (b:=b) h]
 |.gg::a,.gg::b,h=>by rw[AT (a:=a) (b:=b) h]
 |.mD::a,.mD::b,h=>by rw[AT (a:=a) (b:=b) h]
def zy5{o:Oper}{ρ:Env}{F:aw}{v:V}{k:Nat}{o1 o2:EV.Obj}(h:EV.Loc P o ρ F v [(k,o1)])(hc:∀m Z w,Holds m Z w k o1->Holds m Z w k o2/\∀b,gM m (k,o2) b->gM m (k,o1) b):EV.Loc P o ρ F v [(k,o2)]:=by
 intro ρr m Z w e9 hs lR
 refine(h ρr m Z w e9 hs lR).mono λx w' ⟨m',Z',st,hr⟩=>⟨m',Z',⟨⟨st.iW.frozen,λp hp=>?_,st.iW.nodup,λp hp q hq b _ _=>?_⟩,st.pM,st.o4,st.os,st.tape,st.output,st.size,st.frame,st.keep,st.sT,λp hp b hb=>?_,st.su⟩,hr⟩
 .cases b_.1 hp;exact(hc _ _ _ (st.iW.holds _ (b_.2 rfl))).1
 .cases b_.1 hp;cases b_.1 hq;rfl
 .cases b_.1 hp;exact st.nZ _ (b_.2 rfl) b ((hc _ _ _ (st.iW.holds _ (b_.2 rfl))).2 b hb)
def WW(hS:S.OK){o:Oper}:∀{q:OR S},q.OK P o E H->(Lb q).OK P o E H:=by
 intro q h;unfold Lb;split
 .rename_i kF a k t cs;intro F R hF hR;have h1:=h F R hF hR;cases zk hR;unfold Vv;split
  .rename_i i d cs0 hg
   cases hb:JS (A.vs cs) cs0 with
   |false=>exact h1
   |true =>
    rw[ct];have e:=AT hb;have h2:EV.Loc P o (eV E) (hV F++[]) a.v [(k,.box t (A.vs cs))]:=h1
    show EV.Loc P o (eV E) (hV F++[]) a.v [(k,S.go i d.1 d.2)]
    rw[e]at h2
    exact zy5 h2 λm Z w=>hS.aam t i d cs0 hg m Z w k
  .exact h1
 .exact h
def Pz{o1 o2:Oper}(hl:∀F v F',EV.Loc P o1 (eV E) F v F'->EV.Loc P o2 (eV E) F v F'):∀{r:OR S},r.OK P o1 E H->r.OK P o2 E H
 |.no,_=>trivial
 |.one ..,h=>λF R hF hR=>hl _ _ _ (h F R hF hR)
 |.mR ..,h=>λx hx a F' hr F R hF hR=>hl _ _ _ (h x hx a F' hr F R hF hR)
 |.eqs l r,h=>λhe=>Pz hl (h he)
 |.alt ..,h=>⟨λx hx a F' hr F R hF hR=>hl _ _ _ (h.1 x hx a F' hr F R hF hR),Pz hl h.2⟩
def zhm{op:BinOp}{b:Bool}(nv:(op=.eql/\b=bh)∨(op=.neq/\b=bf)){t t':bK}{x y:bI}:(MU P t b (iL E x) (iL E y)).OK P ⟨dst,.binOp op t x y t',ty,pos,aft,gd⟩ E H:=by
 unfold MU;split
 .rename_i cs cs' hx hy;split
  .rename_i l m h1 h2
   cases hb:Fx P t l.length&&bm l.length m.length with
   |false=>trivial
   |true =>
    simp only[bn]at hb;intro F R hF hR;cases zk hF;cases zk hR;have h:=zue (P:=P) (ρ:=eV E) (dst:=dst) (ty:=ty) (pos:=pos) (aft:=aft) (gd:=gd) (t':=t') (op:=op) (nv.imp (·.1) (·.1)) hb.1 (eb hb.2) (by rw[yu,hx];simp only[A.v,MH h1]) (by rw[yu,hy];simp only[A.v,MH h2])
    rcases nv with⟨rfl,rfl⟩|⟨rfl,rfl⟩<;>exact h
  .trivial
 .trivial
def zDr(hS:S.OK){T:nA S}(hT:nA.OK P T){cd:Nat->Option TC}{d:Nat}{op:Op}:(Tf P T cd E H d op).OK P ⟨dst,op,ty,pos,aft,gd⟩ E H:=by
 unfold Tf;split
 .exact Ye hS
 .exact zyz hS
 .exact zt8 hS
 .split
  .rename_i r hr;exact zhh hr
  .exact zej
 .exact zuj
 .exact zt1
 .exact WW hS zt4
 .exact WW hS (zDi hS)
 .exact zaw hS
 .exact zem hS
 .exact zk9
 .exact zqg hS
 .exact Qg hS
 .rename_i t x y z
  have hl:∀F v F',EV.Loc P ⟨dst,.mapUpdate t x y z,ty,pos,aft,gd⟩ (eV E) F v F'->EV.Loc P ⟨dst,.insert t x y z,ty,pos,aft,gd⟩ (eV E) F v F':=λF v F' h=>h
  exact Pz hl (Qg hS)
 .exact zqf hS
 .rename_i f l ts;refine Qh hS (λhb=>?_) hT;rw[<- Rn];exact zP (l:=l.toList) hb rfl
 .rename_i x l ts _;split
  .rename_i f a b hx;refine Qh hS (λhb=>?_) hT;rw[Kk,Kk,<- Rn];exact zgv (l:=l.toList) hb (by rw[yu,hx];simp only[A.v]) rfl
  .trivial
 .exact zhm (.inl ⟨rfl,rfl⟩)
 .exact zhm (.inr ⟨rfl,rfl⟩)
 .exact zqd
 .exact zui (.inl rfl)
 .exact zui (.inr rfl)
 .trivial
def zDs(hS:S.OK){T:nA S}(hT:nA.OK P T){cd:Nat->Option TC}{o:Oper}{d:Nat}:(Tj P T cd E H d o.op).OK P o E H:=by
 obtain⟨dst,op,ty,pos,aft,gd⟩:=o;unfold Tj;split
 .rename_i a ha;intro F R hF hR;cases zk hF;cases zk hR;exact PV (zDg hS ha)
 .exact zDr hS hT
def zH4(hS:S.OK){T:nA S}(hT:nA.OK P T){cd:Nat->Option TC}{o:Oper}{d:Nat}:(HB P T cd E H d o.op).OK P o E H:=by exact zDs hS hT
end
end
mutual
def QL{σ:Nat->Nat}:∀v:V,(v.fM σ).refs=v.refs.map σ
 |.undef=>rfl
 |.no=>rfl
 |.int ..=>rfl
 |.bool _=>rfl
 |.str _=>rfl
 |.mx=>rfl
 |.ptr ..=>rfl
 |.vp ..=>rfl
 |.gg=>rfl
 |.sl ..=>rfl
 |.vs ..=>rfl
 |.fn f a b=>by simp only[V.fM,V.refs,Af a,Af b,cX]
 |.nd=>rfl
 |.agg cs=>by simp only[V.fM,V.refs,Af cs]
 |.iN cs=>by simp only[V.fM,V.refs,Af cs]
 |.mD=>rfl
 |.mp _=>rfl
 |.nM=>rfl
 |.mP t v=>by simp only[V.fM,V.refs,QL v]
 |.gv ..=>rfl
 |.pv _=>rfl
def Af{σ:Nat->Nat}:∀vs:List V,wh (rr σ vs)=(wh vs).map σ
 |[]=>rfl
 |v::vs=>by simp only[rr,wh,QL v,Af vs,cX]
end
def zuk{σ:Nat->Nat}(o:EV.Obj):(o.fM σ).refs=o.refs.map σ:=by
 cases o<;>simp[Obj.fM,Obj.refs,Af]
section
variable{K0:List Nat}{c:Ctx K0}{w:bF}{ρr:zS}
def zql{m:M}{Z:ZM}{H1:aw}{σ:Nat->Nat}(tD:nodupB ((keys H1).map σ)=bh)(mY:(H1.all λp=>p.2.refs.all (keys H1).contains)=bh)(hK:∀k∈K0,k∈keys H1/\σ k=k)(SC:W4 c m Z (JH σ H1) w):
  ∃mc,W4 c mc Z H1 w/\∀v x,v.refs.all (keys H1).contains=bh->aT (aY m) Z (v.fM σ) x->aT (aY mc) Z v x:=by
 have hs:=SC.step.iW;have Cw:∀{a b:Nat},a∈keys H1->b∈keys H1->σ a=σ b->a=b:=WJ (yB tD)
 let mc:M:=λk L=>if k∈keys H1 then m (σ k) L else bg
 have y_:∀k∈keys H1,mc k=m (σ k):=λk hk=>by funext L;simp[mc,hk]
 have Je:∀k,k ∉ keys H1->∀L,mc k L=bg:=λk hk L=>by simp[mc,hk]
 have q_:∀p∈H1,gM mc p=gM m (σ p.1,p.2.fM σ):=λp hp=>Mz (y_ p.1 (ax hp))
 have l5:∀p∈H1,(σ p.1,p.2.fM σ)∈JH σ H1:=λp hp=>bL.2 ⟨p,hp,rfl⟩
 have G_:w8 mc Z H1 w:=by
  refine⟨hs.frozen,λp hp=>?_,?_,λp hp q hq b h1 h2=>?_⟩
  .have hh:=hs.holds _ (l5 p hp);have hk:=y_ p.1 (ax hp);obtain⟨k,o⟩:=p
   cases o with
   |box t cs =>
    obtain⟨b,cur,h1,h2,h3,h4,h5⟩:=hh;refine⟨b,cur,by rw[hk];exact h1,h2,zC.tW σ cs _ (λj hj L loc e=>?_) h3,h4,by rw[hk];exact h5⟩;have:=(bl.1 mY) _ hp;have:=(bl.1 this) j hj;rw[y_ j (by simpa using this)];exact e
   |row t sz fz els =>
    rcases hh with⟨h1,h2,h3,⟨b,h4⟩,h5⟩|⟨b,cap,cur,fr,h1,h2⟩
    .exact .inl ⟨h1,h2,h3,⟨b,by rw[hk];exact h4⟩,by rw[hk];exact h5⟩
    .exact .inr ⟨b,cap,cur,fr,by rw[hk];exact h1,by rw[hk];exact h2⟩
   |map l =>
    obtain⟨b,es,clock,h1,h2⟩:=hh;exact⟨b,es,clock,by rw[hk];exact h1,by rw[hk];exact h2⟩
   |n_ g t cs=>exact⟨by rw[hk];exact hh.1,hh.2.1,by rw[hk];exact hh.2.2⟩
   |nest t e sz pd ls =>
    show xD (mc k) _ _ t e sz pd ls
    rw[hk];exact hh
   |gen G =>
    show G.holds (mc k) _ _
    rw[hk];exact hh
  .have:=hs.nodup;rw[vv]at this;exact vd _ this
  .rw[q_ p hp]at h1;rw[q_ q hq]at h2;exact Cw (ax hp) (ax hq) (hs.p_ _ (l5 p hp) _ (l5 q hq) b h1 h2)
 refine⟨mc,⟨⟨G_,λk L loc e=>?_,SC.step.o4,SC.step.os,SC.step.tape,SC.step.output,SC.step.size,SC.step.frame,λk hk=>(hK k (c.hk▸hk)).1,λk hk=>?_,λp hp b hb=>?_,SC.step.su⟩,Je⟩,λv x hv hr=>?_⟩
 .by_cases hk:k∈K0
  .rw[y_ k (hK k hk).1,(hK k hk).2];exact SC.step.pM k L loc e
  .rw[c.Nr k hk L]at e;cases e
 .funext L
  rw[Je k hk L,c.Nr k (λh=>hk (hK k h).1) L]
 .rw[q_ p hp]at hb;exact SC.step.nZ _ (l5 p hp) b hb
 .refine aT.tW σ v x (λk hk L loc e=>?_) hr;have:=(bl.1 hv) k hk;rw[y_ k (by simpa using this)];exact e
def afq{ρ l0:Env}{H H1 F:aw}{σ:Nat->Nat}(fz:List Nat)(nW:nodupB fz=bh)(hF:kO fz H=aY F)
  (sS:kO ((keys H1).map σ) H=aY (JH σ H1)) (SV:∀k∈(keys H1).map σ,k ∉ fz) (tD:nodupB ((keys H1).map σ)=bh)
  (mY:(H1.all λp=>p.2.refs.all (keys H1).contains)=bh) (hK:∀k∈K0,k∈keys H1/\σ k=k)
  (hv:∀t,l0.get t=.undef∨(l0.get t).refs.all (keys H1).contains=bh/\au (k_ F) (ρ.get t) ((l0.get t).fM σ)):Cut K0 ρ H l0 H1:=by
 intro c ρr w S;obtain⟨m,Z,SC,hr⟩:=S.freeze fz nW hF
 have ml:keys (k_ F)=fz:=by rw[wU];exact(yX hF).1
 have nI:=SC.step.iW.nodup
 have afs:∀k t sz f els,(k_ F).get k=aY (.row t sz f els)->Holds m Z w k (.row t sz els.length els):=λk t sz f els hg=>by
  have l5:=aw.get_mem hg;have h1:=SC.step.iW.holds _ (bQ _ l5)
  have:f=els.length:=by
   rcases j7 l5 with⟨k',VE,mo,rC,Cv,h2,h3⟩|⟨h2,h3⟩
   .simp only[Prod.mk.injEq,Obj.row.injEq]at h3;obtain⟨_,_,_,e1,e2⟩:=h3;rw[e1,e2]
   .exact aQ rfl (h3 t sz f els)
  subst this;exact h1
 have aiB:kO ((keys H1).map σ) (k_ F++js fz H)=aY (JH σ H1):=by
  rw[<- sS];clear sS tD;generalize (keys H1).map σ=l at SV
  induction l with
  |nil=>rfl
  |cons k l ih =>
   have hk:=SV k ak
   have e:(k_ F++js fz H).get k=H.get k:=by rw[get_append,aN (by rw[ml];exact hk),HJ hk]
   simp only[kO,e,ih λj hj=>SV j (iO _ hj)]
 obtain⟨m',KS,hc⟩:=SC.cut _ aiB tD (bl.2 λk hk=>by
   obtain⟨h1,h2⟩:=hK k hk;simp only[cv,aU]
   exact bL.2 ⟨k,h1,h2⟩) (bl.2 λp hp=>by
   obtain⟨q,hq,rfl⟩:=bL.1 hp
   refine bl.2 λj hj=>?_
   simp only[zuk]at hj;obtain⟨i,hi,rfl⟩:=bL.1 hj;have:=(bl.1 ((bl.1 mY) q hq)) i hi;simp only[cv,aU]at this ⊢
   exact cG this)
 obtain⟨mc,adK,Oy⟩:=zql tD mY hK KS;refine⟨mc,Z,adK,λt=>?_⟩
 rcases hv t with h|⟨h1,h2⟩
 .rw[h];trivial
 .refine Oy _ _ h1 (hc _ _ (bl.2 λj hj=>?_) (h2.rep afs (hr t)));rw[QL]at hj;obtain⟨i,hi,rfl⟩:=bL.1 hj;have:=(bl.1 h1) i hi;simp only[cv,aU]at this ⊢;exact cG this
end
section
variable{S:ni}
structure GR(S:ni)(vs:List TC) where
 caps:List (Nat×Dy S.T)
 v:HL S.T vs
 eq:List (Nat×Nat)
def Tm.DE(T:Tm)(K0:List Nat)(ns:List (Nat×Nat))(Vw:List (Nat×Dy S.T))(fz:List Nat)(R:AH S.T):Bool:=
 nodupB (Vw.map (·.1))&&(Vw.all (λp=>cm (p.1+1) (T.cs.length+T.vs.length))&&(ns.all (λp=>bm (lV ns p.1) p.2)&&(nodupB (T.hp.map λp=>lV ns p.1) &&
  (AS (T.sl.map (·.2)) T.hp&&(K0.all (λk=>(T.hp.map (·.1)).contains k&&bm (lV ns k) k)&&(R.all (λp=>aaU p.2)&&(nodupB fz&&(T.hp.map λp=>lV ns p.1).all λk=>!fz.contains k)))))))
def Tm.get(T:Tm)(K0:List Nat)(E:AE S.T)(H:AH S.T):Option (GR S T.vs):=match Tp.reads T.hp bf H (T.sl.map (·.2)) (T.sl.map λp=>E.get p.1)with
 |none=>bg
 |some r1=>match Ci T.hp H (r1.ns++K0.map λk=>(k,k)) T.hp with
  |none=>bg
  |some r2=>match Dg ((r1.app r2).ps.filter λp=>cm T.cs.length p.1) T.cs.length T.vs,AR (dedup r1.fz) H with
   |some v,aY R=>match AR (T.hp.map λp=>lV (r1.ns++(K0.map λk=>(k,k))++r2.ns) p.1) H with
    |some _=>bif T.DE K0 (r1.ns++(K0.map λk=>(k,k))++r2.ns) ((r1.app r2).ps.filter λp=>cm T.cs.length p.1) (dedup r1.fz) R then aY ⟨(r1.app r2).ps.filter λp=>!Nat.ble T.cs.length p.1,v,(r1.app r2).eq⟩else bg
    |none=>bg
   |_,_=>bg
def Tm.tm(T:Tm)(x:HL S.T T.cs)(v:HL S.T T.vs):AE S.T:=W7 T.hp T.sl (wZ T.cs x++wZ T.vs v)
def Tm.sP(T:Tm)(x:HL S.T T.cs)(v:HL S.T T.vs):AH S.T:=We T.hp (wZ T.cs x++wZ T.vs v)
def qZ:∀{ks:List Nat}{H F:AH S.T},AR ks H=aY F->kO ks (hV H)=aY (hV F)
 |[],H,F,h=>by cases h;rfl
 |k::r,H,F,h=>by
  simp only[AR]at h;split at h
  .rename_i o ho;split at h
   .rename_i F' BY;cases h;simp only[kO,IC,ho,de,qZ BY];rfl
   .cases h
  .cases h
def zul{a b:List (Dy S.T)}{j:Nat}{c:TC}(h:j<a.length):Wd (a++b) j c=Wd a j c:=by unfold Wd;rw[List.getElem?_append_left h]
def zn2{hp:List (Nat×TO)}{ds:List (Dy S.T)}{t:Nat}:∀{sl:List (Nat×Tp)},(W7 (S:=S) hp sl ds).get t=.raw .undef∨∃tp,(t,tp)∈sl/\(W7 (S:=S) hp sl ds).get t=tp.put hp ds
 |[]=>.inl rfl
 |(d,tp)::r=>by
  simp only[W7,ij,AE.get]
  cases hb:bm t d with
  |true =>
   have:=eb hb;subst this;exact .inr ⟨tp,ak,rfl⟩
  |false =>
   rcases zn2 (hp:=hp) (ds:=ds) (t:=t) (sl:=r)with h|⟨VL,h1,h2⟩
   .exact .inl h
   .exact .inr ⟨VL,iO _ h1,h2⟩
def zhn{R:aw}{f g:Nat×Tp->V}:∀{l:List (Nat×Tp)},jG R (l.map f) (l.map g)->∀p∈l,au R (f p) (g p)
 |q::l,h,p,hp=>by
  simp only[ij]at h
  cases h with
  |cons h1 h2 =>
   rcases bu.1 hp with rfl|hp
   .exact h1
   .exact zhn h2 p hp
def Tm.T5(T:Tm)(K0:List Nat)(E:AE S.T)(H:AH S.T)(x:HL S.T T.cs)(v:HL S.T T.vs):Prop:=
 ∃g,T.get K0 E H=aY g/\w7 g.eq/\(∀p∈g.caps,p.2.2=Wd (wZ T.cs x) p.1 p.2.1)/\g.v=v
def X2{k:Nat}{tp:Tp}:∀{l:List Tp},tp∈l->k∈tp.names->k∈Tp.zJ l
 |t::r,h,hk=>by
  simp only[Tp.zJ]
  rcases bu.1 h with rfl|h
  .exact bQ _ hk
  .exact cq _ (X2 h hk)
def zn3{σ:Nat->Nat}:∀l:List (A S.T),A.rZ σ l=l.map (A.fM σ)
 |[]=>by simp only[A.rZ,dC]
 |a::r=>by rw[A.rZ,zn3 r,ij]
def JT{hp:List (Nat×TO)}{ds:List (Dy S.T)}:∀l:List Tp,Tp.mJ hp ds l=l.map (Tp.put hp ds)
 |[]=>by simp only[Tp.mJ,dC]
 |a::r=>by rw[Tp.mJ,JT r,ij]
def zDt(hS:S.OK){T:Tm}{K0:List Nat}{E:AE S.T}{H:AH S.T}{x:HL S.T T.cs}{v:HL S.T T.vs}(h:T.T5 K0 E H x v):Cut K0 (eV E) (hV H) (eV (T.tm x v)) (hV (T.sP x v)):=by
 obtain⟨g,h,heq,EG,rfl⟩:=h;unfold Tm.get at h;split at h
 .cases h
 .rename_i r1 g1;split at h
  .cases h
  .rename_i r2 g2;split at h
   .rename_i v R g3 g4;split at h
    .rename_i F1 g5;generalize hL:r1.ns++(K0.map λk=>(k,k))++r2.ns=L at *
     cases hb:T.DE K0 L ((r1.app r2).ps.filter λp=>cm T.cs.length p.1) (dedup r1.fz) R with
     |false=>rw[hb]at h;cases h
     |true =>
      rw[hb]at h;cases h;simp only[Tm.DE,bn]at hb;obtain⟨b1,b2,b3,b4,b5,b6,b7,b8,b9⟩:=hb;generalize Fe:wZ T.cs x++wZ T.vs v=ds at *;have hlen:(wZ T.cs x).length=T.cs.length:=znp ..
      have hs:Sat ds (r1.app r2).ps:=λp hp=>by
       cases hq:cm T.cs.length p.1 with
       |false =>
        have h1:=EG p (dO.2 ⟨hp,by rw[hq];rfl⟩)
        have ib:p.1<T.cs.length:=Nat.lt_of_not_le λh2=>by rw[dP h2]at hq;cases hq
        rw[h1,<- Fe];exact zul (by rw[hlen];exact ib)
       |true =>
        have GX:=mi hq;have hm:p∈(r1.app r2).ps.filter (λp=>cm T.cs.length p.1):=dO.2 ⟨hp,hq⟩;have ib:=mi ((bl.1 b2) p hm);have:=Y2 (yB b1) T.vs T.cs.length v g3 p.1 p.2 hm GX ab;rw[<- Fe];refine zuc ?_;rw[List.getElem?_append_right (by rw[hlen];exact GX),hlen];exact this
      have pg:nP (lV L) L:=λp hp=>eb ((bl.1 b3) p hp)
      have mN:nP (lV L) (r1.ns++K0.map λk=>(k,k)):=by rw[<- hL]at pg ⊢;exact pg.left
      have ng:nP (lV L) r2.ns:=by rw[<- hL]at pg ⊢;exact pg.right
      have he:w7 (r1.app r2).eq:=heq;have hr:Ad T.hp ds (lV L) H:=Y0 g2 hs.right mN ng;obtain⟨k1,k2⟩:=Y1 hS g2 hs.right mN ng he.right hr F1 g5
      have CL:=Ae hS (R:=hV (rq R)) _ _ r1 g1 hs.left mN.left he.left hr λk hk e c' f' l wl hg=>⟨_,Yd g4 k (uM hk) _ hg⟩
      have AU:keys (hV (T.sP x v))=T.hp.map (·.1):=kT
      have gy:T.sP x v=We T.hp ds:=by rw[<- Fe];rfl
      have hsE:T.tm x v=W7 T.hp T.sl ds:=by rw[<- Fe];rfl
      have SZ:(keys (hV (T.sP x v))).map (lV L)=T.hp.map λp=>lV L p.1:=by rw[AU,cU];rfl
      simp only[AS,bn]at b5
      refine afq (σ:=lV L) (F:=hV R) (dedup r1.fz) b8 (qZ g4) ?_ ?_ (by rw[SZ];exact b4) ?_ ?_ λt=>?_
      .rw[SZ,qZ g5,k1,gy];rfl
      .rw[SZ];intro k hk my;have:=(bl.1 b9) k hk;simp only[bX,cv,aW]at this;exact this my
      .rw[AU,gy]
       refine bl.2 λp hp=>?_
       simp only[hV,We,cU,bL]at hp;obtain⟨q,hq,rfl⟩:=hp;have:=(bl.1 b5.2) q hq;obtain⟨k,o⟩:=q
       cases o with
       |box t cs=>simpa[OA.o,TO.put,Obj.refs,jI hS,TO.names]using this
       |row=>rfl
       |map=>rfl
       |rw i=>show((S.ro i).refs.all _)=bh;rw[hS.Tl];rfl
       |gn i c j=>show((S.go i c (Wd _ j c)).refs.all _)=bh;rw[hS.SQ];rfl
      .intro k hk;have:=(bl.1 b6) k hk;simp only[bn,cv,aU]at this;rw[AU];exact⟨this.1,eb this.2⟩
      .rw[hsE];simp only[Qd]
       rcases zn2 (S:=S) (hp:=T.hp) (ds:=ds) (t:=t) (sl:=T.sl)with h|⟨tp,h1,h2⟩
       .rw[h];exact .inl rfl
       .rw[h2];refine .inr ⟨?_,?_⟩
        .rw[P' hS,AU]
         refine bl.2 λk hk=>?_
         exact(bl.1 b5.1) k (X2 (bL.2 ⟨_,h1,rfl⟩) hk)
        .rw[zn3,JT,wD,wD,cU,cU,cU,cU]at CL;have:=zhn CL _ h1;simp only[Function.comp]at this;rw[IZ hS]at this;rw[<- qY hS];exact this
    .cases h
   .cases h
end
section
variable{K0:List Nat}
def HP{k k':Nat}:∀j,lV [(k,k')] j=if j=k then k' else j:=λj=>by
 simp only[lV]
 cases hb:bm j k with
 |true=>rw[aO (eb hb)];rfl
 |false=>rw[aN λe=>by subst e;rw[cC]at hb;cases hb];rfl
def Holds.fM{m m':M}{Z:ZM}{w:bF}{σ:Nat->Nat}{k:Nat}{o:EV.Obj}(hk:m' (σ k)=m k)(hr:∀j L loc,m j L=aY loc->m' (σ j) L=aY loc)(hh:Holds m Z w k o):Holds m' Z w (σ k) (o.fM σ):=by
 cases o with
 |box t cs =>
  obtain⟨b,cur,h1,h2,h3,h4,h5⟩:=hh;exact⟨b,cur,by rw[hk];exact h1,h2,zC.fM σ cs _ (λj _ L loc e=>hr j L loc e) h3,h4,by rw[hk];exact h5⟩
 |row t sz fz els =>
  rcases hh with⟨h1,h2,h3,⟨b,h4⟩,h5⟩|⟨b,cap,cur,fr,h1,h2⟩
  .exact .inl ⟨h1,h2,h3,⟨b,by rw[hk];exact h4⟩,by rw[hk];exact h5⟩
  .exact .inr ⟨b,cap,cur,fr,by rw[hk];exact h1,by rw[hk];exact h2⟩
 |map l =>
  obtain⟨b,es,clock,h1,h2⟩:=hh;exact⟨b,es,clock,by rw[hk];exact h1,by rw[hk];exact h2⟩
 |n_ g t cs=>exact⟨by rw[hk];exact hh.1,hh.2.1,by rw[hk];exact hh.2.2⟩
 |nest t e sz pd ls =>
  show xD (m' (σ k)) _ _ t e sz pd ls
  rw[hk];exact hh
 |gen G =>
  show G.holds (m' (σ k)) _ _
  rw[hk];exact hh
def zum{σ:Nat->Nat}{t:Nat}:∀ρ:Env,Env.get (ρ.map λp=>(p.1,p.2.fM σ)) t=(ρ.get t).fM σ
 |[]=>by simp[Env.get,V.fM]
 |p::r=>by
  simp only[ij,Env.get]
  cases bm t p.1 with
  |true=>rfl
  |false=>exact zum r
def zy6{ρ:Env}{H:aw}{k k':Nat}(hk:wj k H=bh)(mu:wj k' H=bf):Cut K0 ρ H (ρ.map λp=>(p.1,p.2.fM (lV [(k,k')]))) ((k,.gen gone)::JH (lV [(k,k')]) H):=λc ρr w ⟨m,Z,SC,hR⟩=>by
 have UM:=yt.1 hk
 have Jd:k' ∉ keys H:=λh=>by rw[yt.2 h]at mu;cases mu
 have lD:k≠k':=λe=>Jd (e▸UM)
 have NH:∀L,m k' L=bg:=λL=>SC.pa k' Jd L
 let m':M:=λj L=>if j=k' then m k L else m j L
 have sg:m' k'=m k:=by funext L;simp[m']
 have y7:∀j,j≠k'->m' j=m j:=λj hj=>by funext L;simp[m',hj]
 have hr:∀j L loc,m j L=aY loc->m' (lV [(k,k')] j) L=aY loc:=λj L loc e=>by
  rw[HP];by_cases h:j=k
  .subst h;rw[aO rfl,sg];exact e
  .rw[aN h,y7 j λh=>by subst h;rw[NH]at e;cases e];exact e
 have Lz:∀j∈keys H,m' (lV [(k,k')] j)=m j:=λj hj=>by
  rw[HP];by_cases h:j=k
  .subst h;rw[aO rfl,sg]
  .rw[aN h,y7 j λh=>by subst h;exact Jd hj]
 have Cw:∀{a b:Nat},a∈keys H->b∈keys H->lV [(k,k')] a=lV [(k,k')] b->a=b:=λ{a b} ha hb e=>by
  rw[HP,HP]at e;by_cases h1:a=k<;>by_cases h2:b=k
  .rw[h1,h2]
  .rw[aO h1,aN h2]at e;subst e;exact aQ hb Jd
  .rw[aN h1,aO h2]at e;subst e;exact aQ ha Jd
  .rw[aN h1,aN h2]at e;exact e
 have hs:=SC.step.iW
 have S8:k ∉ keys (JH (lV [(k,k')]) H):=λh=>by
  rw[vv]at h;obtain⟨j,hj,e⟩:=bL.1 h;rw[HP]at e;by_cases h1:j=k
  .rw[aO h1]at e;exact lD e.symm
  .rw[aN h1]at e;exact h1 e
 have l5:∀p∈JH (lV [(k,k')]) H,∃q∈H,p=(lV [(k,k')] q.1,q.2.fM (lV [(k,k')])):=λp hp=>by obtain⟨q,hq,e⟩:=bL.1 hp;exact⟨q,hq,e.symm⟩
 have q_:∀q∈H,gM m' (lV [(k,k')] q.1,q.2.fM (lV [(k,k')]))=gM m q:=λq hq=>(Mz (Lz q.1 (ax hq)).symm).symm
 have Tz:∀b,gM m' (k,.gen gone) b->False:=λb h=>h
 have hin:∀j,j ∉ keys ((k,EV.Obj.gen gone)::JH (lV [(k,k')]) H)->j≠k'/\j ∉ keys H:=λj hj=>by simp only[keys,ij,bu,not_or]at hj;obtain⟨h1,h2⟩:=hj;have h2:j ∉ keys (JH (lV [(k,k')]) H):=h2;rw[vv]at h2;exact⟨λe=>h2 (bL.2 ⟨k,UM,by rw[HP,aO rfl,e]⟩),λh=>h2 (bL.2 ⟨j,h,by rw[HP,aN h1]⟩)⟩
 refine⟨m',Z,⟨⟨⟨hs.frozen,λp hp=>?_,?_,λp hp q hq b h1 h2=>?_⟩,λj L loc e=>?_,SC.step.o4,SC.step.os,SC.step.tape,SC.step.output,SC.step.size,SC.step.frame,λj hj=>?_,λj hj=>?_,λp hp b hb=>?_,SC.step.su⟩,λj hj L=>?_⟩,λt=>?_⟩
 .rcases bu.1 hp with rfl|hp
  .exact trivial
  .obtain⟨q,hq,rfl⟩:=l5 p hp;exact Holds.fM (Lz q.1 (ax hq)) hr (hs.holds q hq)
 .show(k::keys (JH (lV [(k,k')]) H)).Nodup
  refine cA.2 ⟨S8,?_⟩;rw[vv];have hn:=hs.nodup
  have:∀l:List Nat,l.Nodup->(∀j∈l,j∈keys H)->(l.map (lV [(k,k')])).Nodup:=λl=>by
   induction l with
   |nil=>intro _ _;exact cZ
   |cons a l ih =>
    intro h1 h2;rw[cA]at h1;rw[ij,cA];refine⟨λh=>?_,ih h1.2 λj hj=>h2 j (iO _ hj)⟩;obtain⟨b,hb,e⟩:=bL.1 h;have:=Cw (h2 b (iO _ hb)) (h2 a ak) e;subst this;exact h1.1 hb
  exact this _ hn λ_ h=>h
 .rcases bu.1 hp with rfl|hp<;>rcases bu.1 hq with rfl|hq
  .rfl
  .exact(Tz b h1).elim
  .exact(Tz b h2).elim
  .obtain⟨p',ka,rfl⟩:=l5 p hp;obtain⟨q',mZ,rfl⟩:=l5 q hq;rw[q_ p' ka]at h1;rw[q_ q' mZ]at h2;rw[show p'.1=q'.1 from hs.p_ p' ka q' mZ b h1 h2]
 .have h1:=SC.step.pM j L loc e
  show m' j L=aY loc
  rw[y7 j λh=>by subst h;rw[NH]at h1;cases h1];exact h1
 .have h1:=SC.step.keep j hj;simp only[keys,ij,bu];by_cases h:j=k
  .exact .inl h
  .right
   show j∈keys (JH (lV [(k,k')]) H)
   rw[vv];exact bL.2 ⟨j,h1,by rw[HP,aN h]⟩
 .obtain⟨h1,h2⟩:=hin j hj;rw[y7 j h1];exact SC.step.sT j h2
 .rcases bu.1 hp with rfl|hp
  .exact(Tz b hb).elim
  .obtain⟨q,hq,rfl⟩:=l5 p hp;rw[q_ q hq]at hb;exact SC.step.nZ q hq b hb
 .obtain⟨h1,h2⟩:=hin j hj;rw[y7 j h1];exact SC.pa j h2 L
 .rw[zum];exact aT.fM _ _ _ (λj _ L loc e=>hr j L loc e) (hR t)
end
section
variable{S:ni}{K0:List Nat}
def AE.fM(σ:Nat->Nat)(E:AE S.T):AE S.T:=E.map λp=>(p.1,p.2.fM σ)
def Xv:OA S.T->Bool
 |.rw 0=>bh
 |_=>bf
def M7:List (Nat×TO)->List Nat
 |[]=>[]
 |(k,.rw 0)::r=>k::M7 r
 |_::r=>M7 r
def EA:List Nat->AE S.T->AH S.T->AE S.T×AH S.T
 |[],E,H=>(E,H)
 |k::r,E,H=>match H.get k with
  |none=>EA r E H
  | some o=>bif Xv o||H.has (6000000+k)then EA r E H else EA r (AE.fM (lV [(k,6000000+k)]) E) ((k,.rw 0)::HC (lV [(k,6000000+k)]) H)
def AH.Rt{H:AH S.T}{k:Nat}{o:OA S.T}(h:H.get k=aY o):H.has k=bh:=by
 induction H with
 |nil=>cases h
 |cons p r ih =>
  obtain⟨d,a⟩:=p;simp only[AH.get,AH.has]at h ⊢
  cases hb:bm k d with
  |true=>rfl
  |false=>rw[hb]at h;exact ih h
def Qi(hS:S.OK):∀(l:List Nat)(E:AE S.T)(H:AH S.T),Cut K0 (eV E) (hV H) (eV (EA l E H).1) (hV (EA l E H).2)
 |[],E,H=>Cut.refl
 |k::r,E,H=>by
  unfold EA;split
  .exact Qi hS r E H
  .rename_i o ho
   cases hb:Xv o||H.has (6000000+k)with
   |true=>exact Qi hS r E H
   |false =>
    simp only[Bool.or_eq_false_iff]at hb;refine Cut.trans ?_ (Qi hS r _ _);have:=zy6 (K0:=K0) (ρ:=eV E) (H:=hV H) (k:=k) (k':=6000000+k) (by rw[Hh];exact AH.Rt ho) (by rw[Hh];exact hb.2)
    have e1:eV (AE.fM (lV [(k,6000000+k)]) E)=(eV E).map λp=>(p.1,p.2.fM (lV [(k,6000000+k)])):=by simp only[eV,AE.fM,cU,Function.comp_def,IZ hS]
    have e2:hV (((k,.rw 0)::HC (lV [(k,6000000+k)]) H):AH S.T)=(k,.gen gone)::JH (lV [(k,6000000+k)]) (hV H):=by rw[<- Py hS];simp only[hV,ij,OA.o,hS.VB]
    rw[e1,e2];exact this
abbrev NB:=Nat->List (Nat×Bool×Nat×TC)
def AH.rem(k:Nat)(H:AH S.T):AH S.T:=H.filter λp=>!(bm p.1 k)
def Tg:A S.T->Bool
 |.raw .gg=>bh
 |_=>bf
def VA:A S.T->Bool
 |.raw .gg=>bh
 |.rh ..=>bh
 |.nh ..=>bh
 |_=>bf
def Mm(l:List Nat)(H:AH S.T):Option (AH S.T):=match l with
 |[]=>aY H
 |[k]=>match H.get k with
  |some o=>aY ((k,o.k_)::AH.rem k H)
  |none=>bg
 |_=>bg
def Y5(H:AH S.T)(kb j:Nat):Nat:=bif H.has (1000000000000+kb*1000+j)then 1000000000500+kb*1000+j else 1000000000000+kb*1000+j
def vf(kb:Nat):List (Nat×Bool×Nat×TC)->AH S.T->AH S.T×List (Nat×Nat)
 |[],H=>(H,[])
 |(j,bh,e,c)::r,H=>match H.get kb with
  |some (.box t cs)=>match cs[j]? with
   |some a=>bif Tg a&&(!(H.has (Y5 H kb j))&&cm 1 (zI S c))then
     vf kb r ((Y5 H kb j,.row e c .zero [] ⟨_,rfl⟩)::(kb,.box t (cs.set j (.rh (zI S c) (Y5 H kb j) 0)))::AH.rem kb H)
    else vf kb r H
   |none=>vf kb r H
  |_=>vf kb r H
 |(j,bf,_,c)::r,H=>match H.get kb with
  |some (.box t cs)=>match cs[j]? with
   |some a=>bif VA a then(match BA H (.l c) a with
    |some rx=>match Mm rx.fz H with
     |some H1=>match vf kb r ((kb,.box t (cs.set j (.lQ (.l c) rx.x)))::AH.rem kb H1)with
      |(H',q)=>(H',rx.eq++q)
     |none=>vf kb r H
    |none=>vf kb r H)
    else vf kb r H
   |none=>vf kb r H
  |_=>vf kb r H
def uN(nb:NB):List (Nat×OA S.T)->AH S.T->AH S.T×List (Nat×Nat)
 |[],H=>(H,[])
 |(k,.box t _)::r,H=>match vf k (nb t) H with
  |(H1,q1)=>match uN nb r H1 with
   |(H2,q2)=>(H2,q1++q2)
 |(k,.row e _ _ _ _)::r,H=>bif (nb (2000000+e)).isEmpty then uN nb r H else(match Mm [k] H with
  |some H1=>uN nb r H1
  |none=>uN nb r H)
 |_::r,H=>uN nb r H
def MI(nb:NB)(H:AH S.T):AH S.T×List (Nat×Nat):=match uN nb H H with
 |(H1,q1)=>bif (nb 2000000).isEmpty then(H1,q1)else match uN nb H1 H1 with
  |(H2,q2)=>(H2,q1++q2)
def M8{k:Nat}{H:AH S.T}:hV (AH.rem k H)=js [k] (hV H):=by
 induction H with
 |nil=>rfl
 |cons p r ih =>
  simp only[AH.rem,hV,js,List.filter_cons,ij]at ih ⊢
  have:(![k].contains p.1)=!(bm p.1 k):=by
   simp only[List.contains_cons,List.contains_nil,Bool.or_false]
   cases hb:bm p.1 k with
   |true=>rw[eb hb];simp
   |false =>
    have:p.1≠k:=λe=>by rw[e,cC]at hb;cases hb
    simp[this]
  rw[this]
  cases bm p.1 k with
  |true=>simpa using ih
  |false=>simp only[Bool.not_false,if_true,ij,ih]
def WX:∀(l:List (A S.T))(j:Nat)(a:A S.T),A.vs (l.set j a)=(A.vs l).set j a.v:=λl j a=>by simp only[wD,List.map_set]
def Yf{R:aw}{a b:V}(h:au R a b):∀{l:List V}{j:Nat},l[j]?=aY a->jG R l (l.set j b)
 |v::l,0,e=>by
  simp only[List.getElem?_cons_zero,Option.some.injEq]at e;subst e;exact .cons h X0
 |v::l,j+1,e=>by simp only[gQ]at e;exact .cons (.same _) (Yf h e)
def xj(hS:S.OK){kb:Nat}:∀(l:List (Nat×Bool×Nat×TC))(ρ:Env)(H:AH S.T),w7 (vf kb l H).2->Cut K0 ρ (hV H) ρ (hV (vf kb l H).1)
 |[],ρ,H,_=>Cut.refl
 |(j,bh,e,c)::r,ρ,H,heq=>by
  unfold vf at heq ⊢
  .split at heq
   .rename_i t cs hg;split at heq
    .rename_i a ha
     cases hb:Tg a&&(!(H.has (Y5 H kb j))&&cm 1 (zI S c))with
     |false=>rw[hb]at heq;exact xj hS r ρ H heq
     |true =>
      rw[hb]at heq;simp only[bn,bX]at hb;obtain⟨h1,h2,h3⟩:=hb;refine Cut.trans ?_ (xj hS r ρ _ heq)
      have ha2:a=.raw .gg:=by
       unfold Tg at h1;split at h1
       .rfl
       .cases h1
      subst ha2
      have sS:kO [kb] (hV H)=aY [(kb,.box t (A.vs cs))]:=by simp only[kO,IC,hg,de,OA.o]
      refine zqb kb j (Y5 H kb j) e (zI S c) h3 sS (by rw[wD,cz,ha];simp only[de,A.v]) rfl (by rw[Hh];exact h2) ?_;rw[<- M8];simp only[hV,ij,OA.o,WX,A.v,Fz.n,dC]
    .rename_i ha;exact xj hS r ρ H heq
   .rename_i hg;exact xj hS r ρ H heq
 |(j,bf,e,c)::r,ρ,H,heq=>by
  unfold vf at heq ⊢;split at heq
  .rename_i t cs hg;split at heq
   .rename_i a ha
    cases hb:VA a with
    |false=>rw[hb]at heq;exact xj hS r ρ H heq
    |true =>
     rw[hb]at heq;simp only[ct]at heq ⊢;split at heq
     .rename_i rx D8;split at heq
      .rename_i H1 pY;have aaB:w7 rx.eq:=heq.left;have afK:=heq.right;refine Cut.trans ?_ (xj hS r ρ _ afK)
       have nD:(A.vs cs)[j]?=aY a.v:=by rw[wD,cz,ha];rfl
       have tA:∀X:AH S.T,hV (((kb,.box t (cs.set j (.lQ (.l c) rx.x)))::X):AH S.T)=(kb,.box t ((A.vs cs).set j (oL S (.l c) rx.x)))::hV X:=λX=>by simp only[hV,ij,OA.o,WX,A.v]
       rw[tA,M8]
       have Lv:(hV H).get kb=aY (.box t (A.vs cs)):=by rw[IC,hg];rfl
       unfold Mm at pY;split at pY
       .rename_i nW;cases pY;have hv:au ([]:aw) a.v (oL S (.l c) rx.x):=Ab D8 aaB (by rw[nW];intro k hk;cases hk);exact Rl [] [] Lv rfl rfl (Yf hv nD) rfl
       .rename_i k nW;split at pY
        .rename_i o ho;cases pY
         have sS:kO [k] (hV H)=aY (hV ([(k,o)]:AH S.T)):=by simp only[kO];rw[IC,ho];rfl
         have e1:hV (((k,o.k_)::AH.rem k H):AH S.T)=k_ (hV ([(k,o)]:AH S.T))++js [k] (hV H):=by rw[<- qY hS,<- M8];rfl
         have hv:au (k_ (hV ([(k,o)]:AH S.T))) a.v (oL S (.l c) rx.x):=Ab D8 aaB (by
          rw[nW];intro k' mu e' c' f l w nj;rw[b_.1 mu,ho]at nj;cases nj;rw[<- qY hS,b_.1 mu];refine⟨l.length,?_⟩
          simp only[rq,hV,ij,dC,aw.get,cC,ct,OA.k_,OA.o,Fz.n])
         refine Cut.trans (j8 (F:=hV ([(k,o)]:AH S.T)) [k] rfl sS rfl) ?_;rw[e1];by_cases th:kb=k
         .subst th;rw[hg]at ho;cases ho;refine Rl (k_ (hV ([(kb,.box t cs)]:AH S.T))) [kb] ?_ ?_ oO (Yf hv nD) rfl
          .simp only[hV,ij,dC,k_,OA.o,dj,aw.get,cC,ct]
          .simp only[hV,ij,dC,k_,OA.o,dj,kO,aw.get,cC,ct]
         .have lD:bm kb k=bf:=by
           cases h:bm kb k with
           |true=>exact aQ (eb h) th
           |false=>rfl
          have l6:keys (k_ (hV ([(k,o)]:AH S.T)))=[k]:=by rw[wU];rfl
          refine Rl (k_ (hV ([(k,o)]:AH S.T))) [k] ?_ ?_ oO (Yf hv nD) rfl
          .rw[get_append,aN (by rw[l6];simpa using th),HJ (by simpa using th)];exact Lv
          .have:=MB (H:=k_ (hV ([(k,o)]:AH S.T))++js [k] (hV H)) (F:=k_ (hV ([(k,o)]:AH S.T))) λp hp=>by
            have OS:p.1=k:=by have:=ax hp;rw[l6]at this;exact b_.1 this
            rw[get_append,aO (by rw[l6,OS];exact b_.2 rfl)];refine get_of_mem (by rw[l6];exact cA.2 ⟨λh=>(by cases h),cZ⟩) hp
           rw[l6]at this;exact this
        .cases pY
       .cases pY
      .rename_i pY;exact xj hS r ρ H heq
     .rename_i D8;exact xj hS r ρ H heq
   .rename_i ha;exact xj hS r ρ H heq
  .rename_i hg;exact xj hS r ρ H heq
def wN(hS:S.OK){nb:NB}:∀(l:List (Nat×OA S.T))(ρ:Env)(H:AH S.T),w7 (uN nb l H).2->Cut K0 ρ (hV H) ρ (hV (uN nb l H).1)
 |[],ρ,H,_=>Cut.refl
 |(k,.box t cs)::r,ρ,H,heq=>(xj hS _ ρ H (w7.left (b:=(uN nb r (vf k (nb t) H).1).2) heq)).trans (wN hS r ρ _ (w7.right (a:=(vf k (nb t) H).2) heq))
 |(k,.row e c f l w)::r,ρ,H,heq=>by
  simp only[uN]at heq ⊢
  cases hb:(nb (2000000+e)).isEmpty with
  |true =>
   rw[hb]at heq;exact wN hS r ρ H heq
  |false =>
   rw[hb]at heq;simp only[cf]at heq ⊢;split at heq
   .rename_i H1 pY;refine Cut.trans ?_ (wN hS r ρ H1 heq);simp only[Mm]at pY;split at pY
    .rename_i o ho;cases pY
     have sS:kO [k] (hV H)=aY (hV ([(k,o)]:AH S.T)):=by simp only[kO];rw[IC,ho];rfl
     refine j8 (F:=hV ([(k,o)]:AH S.T)) [k] rfl sS ?_;rw[<- qY hS,<- M8];rfl
    .cases pY
   .exact wN hS r ρ H heq
 |(k,.map ..)::r,ρ,H,heq=>wN hS r ρ H heq
 |(k,.rw _)::r,ρ,H,heq=>wN hS r ρ H heq
 |(k,.gn ..)::r,ρ,H,heq=>wN hS r ρ H heq
def zlg(hS:S.OK){nb:NB}(ρ:Env)(H:AH S.T)(heq:w7 (MI nb H).2):Cut K0 ρ (hV H) ρ (hV (MI nb H).1):=by
 unfold MI at heq ⊢
 cases hb:(nb 2000000).isEmpty with
 |true =>
  rw[hb]at heq;exact wN hS H ρ H heq
 |false =>rw[hb]at heq;exact(wN hS H ρ H (w7.left (b:=(uN nb (uN nb H H).1 (uN nb H H).1).2) heq)).trans (wN hS _ ρ _ (w7.right (a:=(uN nb H H).2) heq))
end
section
variable{S:ni}
def Ii{R:Type}(p:Pg R):List (Nat×Nat)->Pg R
 |[]=>p
 |q::l=>.sx q.1 q.2 (Ii p l)
def Ij{R:Type}(ds:List (Dy S.T))(p:Pg R):List (Nat×Dy S.T)->Pg R
 |[]=>p
 |q::l=>.sx q.2.2 (Wd ds q.1 q.2.1) (Ij ds p l)
def Y6{R:Type}{p:Pg R}{r:R}:∀{l:List (Nat×Nat)},(Ii p l).Is r->w7 l/\p.Is r
 |[],h=>⟨λ_ hp=>(nomatch hp),h⟩
 |q::l,h=>by obtain⟨h1,h2⟩:=Is.sx h;obtain⟨h3,h4⟩:=Y6 h2;exact⟨λp hp=>(bu.1 hp).elim (λe=>e▸h1) (h3 p),h4⟩
def RD{R:Type}{ds:List (Dy S.T)}{p:Pg R}{r:R}:∀{l:List (Nat×Dy S.T)},(Ij ds p l).Is r->(∀q∈l,q.2.2=Wd ds q.1 q.2.1)/\p.Is r
 |[],h=>⟨λ_ hp=>(nomatch hp),h⟩
 |q::l,h=>by obtain⟨h1,h2⟩:=Is.sx h;obtain⟨h3,h4⟩:=RD h2;exact⟨λp hp=>(bu.1 hp).elim (λe=>e▸h1) (h3 p),h4⟩
def Tk:List (Nat×TO)->Nat->Option (Nat×TC×Bool)
 |[],_=>bg
 |(k',.row e c _ fz)::r,k=>bif bm k k' then aY (e,c,fz)else Tk r k
 |_::r,k=>Tk r k
def Qj(hp:List (Nat×TO)):List (Nat×Tp)->AE S.T->AH S.T->AE S.T×AH S.T
 |[],E,H=>(E,H)
 |(t,tp)::r,E,H=>match tp with
  |.row sz k=>match E.get t with
   |.raw .gg=>match Tk hp k with
    |some (e,c,fz)=>bif !(H.has (5000000+t))&&(cm 1 sz&&bm sz (zI S c))then Qj hp r ((t,.rh sz (5000000+t) 0)::E) ((5000000+t,.row e c (bif fz then .all else .zero) [] ⟨_,rfl⟩)::H)else Qj hp r E H
    |none=>Qj hp r E H
   |_=>Qj hp r E H
  |_=>Qj hp r E H
def um{K0:List Nat}{hp:List (Nat×TO)}:∀(l:List (Nat×Tp))(E:AE S.T)(H:AH S.T),Cut K0 (eV E) (hV H) (eV (Qj hp l E H).1) (hV (Qj hp l E H).2)
 |[],E,H=>Cut.refl
 |(t,tp)::r,E,H=>by
  unfold Qj;split
  .rename_i sz k;split
   .rename_i hE;split
    .rename_i e c fz _
     cases hb:!(H.has (5000000+t))&&(cm 1 sz&&bm sz (zI S c))with
     |false=>exact um r E H
     |true =>
      simp only[bn,bX]at hb;have e1:=eb hb.2.2;subst e1;refine Cut.trans ?_ (um r ((t,.rh (zI S c) (5000000+t) 0)::E) ((5000000+t,.row e c (bif fz then .all else .zero) [] ⟨_,rfl⟩)::H));cases fz<;>exact Va t (5000000+t) e (zI S c) hb.2.1 (by rw[Qd,hE];simp only[A.v]) (by rw[Hh];exact hb.1)
    .exact um r E H
   .exact um r E H
  .exact um r E H
def BN(T:Tm)(E:AE S.T)(H:AH S.T):AE S.T×AH S.T:=match EA (M7 T.hp) E H with
 |(E',H')=>Qj T.hp T.sl E' H'
def zy9(hS:S.OK){K0:List Nat}(T:Tm)(E:AE S.T)(H:AH S.T):Cut K0 (eV E) (hV H) (eV (BN T E H).1) (hV (BN T E H).2):=(Qi hS (M7 T.hp) E H).trans (um T.sl _ _)
def Tm.Nq(T:Tm)(K0:List Nat)(E:AE S.T)(H:AH S.T)(x:HL S.T T.cs)(v:HL S.T T.vs):Prop:=T.T5 K0 (BN T E H).1 (BN T E H).2 x v
def kG(hS:S.OK){T:Tm}{K0:List Nat}{E:AE S.T}{H:AH S.T}{x:HL S.T T.cs}{v:HL S.T T.vs}(h:T.Nq K0 E H x v):Cut K0 (eV E) (hV H) (eV (T.tm x v)) (hV (T.sP x v)):=(zy9 hS T E H).trans (zDt hS h)
def SP{R:Type}(T:Tm)(x:HL S.T T.cs)(k:HL S.T T.vs->Pg R):Option (GR S T.vs)->Pg R
 |some g=>Ii (Ij (wZ T.cs x) (k g.v) g.caps) g.eq
 |none=>.fail
def BO{R:Type}(T:Tm)(K0:List Nat)(E:AE S.T)(H:AH S.T)(x:HL S.T T.cs)(k:HL S.T T.vs->Pg R):Pg R:=match BN T E H with
 |(E',H')=>SP T x k (T.get K0 E' H')
def oQ{R:Type}{r:R}{T:Tm}{K0:List Nat}{E:AE S.T}{H:AH S.T}{x:HL S.T T.cs}{k:HL S.T T.vs->Pg R}(h:(BO T K0 E H x k).Is r):∃v,T.Nq K0 E H x v/\(k v).Is r:=by
 change (SP T x k (T.get K0 (BN T E H).1 (BN T E H).2)).Is r at h;unfold SP at h;split at h
 .rename_i g hg;obtain⟨h1,h2⟩:=Y6 h;obtain⟨h3,h4⟩:=RD h2;exact⟨g.v,⟨g,hg,h1,h3,rfl⟩,h4⟩
 .exact(Is.fail h).elim
def pr:List (Nat×Nat)->Bool
 |[]=>bh
 |p::r=>bm p.1 p.2&&pr r
def W_:∀{l:List (Nat×Nat)},pr l=bh->w7 l
 |[],_=>λ_ h=>(by cases h)
 |p::r,h=>by
  simp only[pr,bn]at h
  exact λq hq=>(bu.1 hq).elim (λe=>e▸eb h.1) (W_ h.2 q)
def aan{R:Type}(T:Tm)(K0:List Nat)(E:AE S.T)(H:AH S.T)(x:HL S.T T.cs)(k:HL S.T T.vs->Pg R):Pg R:=match BN T E H with
 |(E',H')=>match T.get K0 E' H' with
  |some g=>.mR (bD (pr g.eq=bh)) λ_=>Ij (wZ T.cs x) (k g.v) g.caps
  |none=>.fail
def zDu{R:Type}{r:R}{T:Tm}{K0:List Nat}{E:AE S.T}{H:AH S.T}{x:HL S.T T.cs}{k:HL S.T T.vs->Pg R}(h:(aan T K0 E H x k).Is r):∃v,T.Nq K0 E H x v/\(k v).Is r:=by
 change (match T.get K0 (BN T E H).1 (BN T E H).2 with
  |some g=>Pg.mR (bD (pr g.eq=bh)) λ_=>Ij (wZ T.cs x) (k g.v) g.caps
  |none=>.fail).Is r at h
 split at h
 .rename_i g hg;obtain⟨u,hu,h⟩:=Is.mR h;obtain⟨h3,h4⟩:=RD h;exact⟨g.v,⟨g,hg,W_ (yY hu),h3,rfl⟩,h4⟩
 .exact(Is.fail h).elim
def Ng(hp:List (Nat×TO))(E:AE S.T)(H:AH S.T):List (Nat×Tp)->List (Nat×Dy S.T)
 |[]=>[]
 |(t,tp)::r=>match tp.read hp bf H (E.get t)with
  |some x=>x.ps++Ng hp E H r
  |none=>Ng hp E H r
def I7(hp:List (Nat×TO))(H:AH S.T):List (Nat×TO)->List (Nat×Dy S.T)
 |[]=>[]
 |(k,toZ)::r=>match H.get k with
  |some o=>match toZ.read hp H o with
   |some x=>x.ps++I7 hp H r
   |none=>I7 hp H r
  |none=>I7 hp H r
def PA(T:Tm)(so:List (Nat×Tp))(ho:List (Nat×TO))(E:AE S.T)(H:AH S.T):Option (HL S.T T.cs):=Dg (Ng T.hp E H T.sl++(I7 T.hp H T.hp++(Ng ho E H so++I7 ho H ho))) 0 T.cs
def PB:A S.T->A S.T
 |.raw (.bool b)=>.raw (.bool b)
 |.raw v=>z_ v
 |a=>a
def zDx(a:A S.T):(PB a).v=a.v:=by
 unfold PB;split
 .rfl
 .rw[XE];simp[A.v]
 .rfl
def Db(o:Oper)(a:A S.T)(E:AE S.T):AE S.T:=match o.dst with
 |some d=>(d,PB a)::E
 |none=>E
def MV{o:Oper}{a:A S.T}{E:AE S.T}:eV (Db o a E)=EV.W7 o.dst a.v (eV E):=by
 unfold Db EV.W7
 cases o.dst with
 |some d=>simp only[eV,ij,zDx]
 |none=>rfl
def p7(H:AH S.T):AH S.T->AH S.T
 |[]=>H
 |p::r=>bif (p7 H r).has p.1 then(p7 H r).set p.1 p.2 else p::p7 H r
def AV:∀{H:aw}{k:Nat}{o:EV.Obj},keys (aw.set H k o)=keys H
 |[],_,_=>rfl
 |(k',o')::r,k,o=>by
  simp only[aw.set]
  cases hb:bm k k' with
  |true=>rfl
  |false =>
   have:=AV (H:=r) (k:=k) (o:=o);simp only[keys,cf,ij]at this ⊢;rw[this]
def zuo:∀{H:aw}{k:Nat}{o:EV.Obj}{j:Nat},k∈keys H->(aw.set H k o).get j=if j=k then aY o else H.get j
 |(k',o')::r,k,o,j,hk=>by
  simp only[aw.set]
  cases hb:bm k k' with
  |true =>
   have:=eb hb;subst this;simp only[ct,aw.get];by_cases e:j=k
   .subst e;simp
   .have hc:bm j k=bf:=by
     cases h:bm j k with
     |true=>exact aQ (eb h) e
     |false=>rfl
    rw[aN e,hc];rfl
  |false =>
   have lD:k≠k':=λe=>by subst e;rw[cC]at hb;cases hb
   simp only[cf,aw.get]
   have mu:k∈keys r:=by simp only[keys,ij,bu]at hk;exact hk.resolve_left lD
   rw[zuo mu]
   cases hc:bm j k' with
   |true =>
    have:=eb hc;subst this;have afT:¬j=k:=Ne.symm lD;simp[afT]
   |false=>rfl
def JU{H:AH S.T}(h:(keys (hV H)).Nodup):∀F':AH S.T,(keys (hV (p7 H F'))).Nodup
 |[]=>h
 |p::r=>by
  have ih:=JU h r;simp only[p7]
  cases hb:(p7 H r).has p.1 with
  |true=>rw[ct,WO,AV];exact ih
  |false =>
   rw[cf];rw[<- Hh]at hb
   show(p.1::keys (hV (p7 H r))).Nodup
   refine cA.2 ⟨λhm=>?_,ih⟩;rw[yt.2 hm]at hb;cases hb
def Yg{H:AH S.T}(k:Nat):∀F':AH S.T,(hV (p7 H F')).get k=if k∈keys (hV F')then(hV F').get k else(hV H).get k
 |[]=>rfl
 |p::r=>by
  have ih:=Yg (H:=H) k r;simp only[p7];have hk:keys (hV (p::r))=p.1::keys (hV r):=rfl;have hg:(hV (p::r)).get k=bif bm k p.1 then aY p.2.o else(hV r).get k:=rfl;rw[hk,hg]
  cases hb:(p7 H r).has p.1 with
  |true =>
   rw[ct,WO,zuo (yt.1 (by rw[Hh];exact hb))];by_cases e:k=p.1
   .subst e;simp
   .have:bm k p.1=bf:=by
     cases h:bm k p.1 with
     |true=>exact aQ (eb h) e
     |false=>rfl
    rw[aN e,ih,this];simp only[bu,e,false_or,cf]
  |false =>
   rw[cf]
   show(bif bm k p.1 then aY p.2.o else(hV (p7 H r)).get k)=_
   cases h:bm k p.1 with
   |true =>
    have:=eb h;subst this;simp
   |false =>
    have e:k≠p.1:=λe=>by subst e;rw[cC]at h;cases h
    simp only[cf,ih,bu,e,false_or]
def AU(F:AH S.T):List Nat:=F.map (·.1)
def zH8(gk:List (Nat×Nat))(F':AH S.T):Bool:=gk.all λp=>match F'.get p.1 with|none=>bh|some (.rw i)=>bm i p.2|_=>bf
def WB(N:Nat)(gk:List (Nat×Nat))(H:AH S.T)(o:Oper)(kF kR:List Nat)(F':AH S.T):Bool:=C' N o&&(KA o.op&&(nodupB (AU F'++kR)&&(nodupB kF&&(kF.all (AU F').contains&&((F'.all λp=>kF.contains p.1||!(H.has p.1))&&(nodupB (kF++kR)&&((AR kF H).isSome&&((AR kR H).isSome&&zH8 gk F'))))))))
def Fy{R:Type}(N:Nat)(gk:List (Nat×Nat))(i:Nat)(o:Oper)(E:AE S.T)(H:AH S.T)(k:AE S.T->AH S.T->FP->Pg R)(kF kR:List Nat)(a:A S.T)(F':AH S.T):Pg R:=bif WB N gk H o kF kR F' then k (Db o a E) (p7 H F') (.m i (AU F') kR)else .fail
def Av{R:Type}(N:Nat)(gk:List (Nat×Nat))(i:Nat)(o:Oper)(E:AE S.T)(H:AH S.T)(k:AE S.T->AH S.T->FP->Pg R):OR S->Pg R
 |.no=>.fail
 |.one kF kR a F'=>Fy N gk i o E H k kF kR a F'
 |.mR ov kF kR r=>.mR ov λx=>match r x with
  |some (a,F')=>Fy N gk i o E H k kF kR a F'
  |none=>.fail
 |.eqs l r=>Ii (Av N gk i o E H k r) l
 |.alt ov kF kR r q=>.CX ov (λx=>match r x with
  |some (a,F')=>Fy N gk i o E H k kF kR a F'
  |none=>.fail) (Av N gk i o E H k q)
inductive adL where
 |bad|yes|skip
 |ask (d:Nat) (t:Bool) (want:Bool)
def EC(all:List Oper)(E:AE S.T)(o:Oper):adL:=match o.guard with
 |none=>.yes
 |some (j,want)=>match (all[j]?).bind (·.dst)with
  |some d=>match E.get d with
   |.raw (.bool bh)=>bif want then .yes else .skip
   |.raw (.bool bf)=>bif want then .skip else .yes
   |.raw .no=>.skip
   |.lQ .b t=>.ask d t want
   |_=>.bad
  |none=>.bad
structure Cx(S:ni) where
 P:bo
 N:Nat
 K0:List Nat
 T:nA S
 cd:Nat->Option TC
 kk:Nat
 nb:NB
 rT:Tm
 x:HL S.T rT.cs
 gk:List (Nat×Nat):=[]
def HE{R:Type}(N:Nat)(i:Nat)(o:Oper)(E:AE S.T)(H:AH S.T)(k:AE S.T->AH S.T->FP->Pg R):Pg R:=bif C' N o&&KA o.op then k (Db o (.raw .no) E) H (.m i [] [])else .fail
abbrev PK(S:ni)(R:Type):=Nat->Oper->List Oper->AE S.T->AH S.T->List FP->Pg R->Pg R
def Mn(P:bo)(N:Nat)(E:AE S.T)(o:Oper):Option (Nat×Bool):=match o.dst,o.op with
 |some d,.binOp .eql t x (.const (.slice bg 0 0)) _=>match iL E x with
  |.lQ (.l c) l=>bif jE P t&&cm (d+1) N then aY (d,cO (α:=c.ty S.T) l)else bg
  |_=>bg
 |_,_=>bg
def Th{R:Type}(b:Bool)(x y:Pg R):Pg R:=bif b then .sx x.run y.run (.tZ bh x y)else y
def rg{R:Type}(X:Cx S)(all:List Oper)(dr:Bool)(pk:PK S R)(k:AE S.T->AH S.T->List FP->Pg R):Nat->List Oper->AE S.T->AH S.T->List FP->Pg R
 |_,[],E,H,done=>k E H done
 |i,o::r,E,H,done=>match EC all E o with
  |.bad=>.fail
  |.yes=>match (bif dr then bg else Mn X.P X.N E o)with
   |some (d,b)=>Th b (rg X all dr pk k (i+1) r ((d,.raw (.bool bh))::E) H (.m i [] []::done)) (rg X all dr pk k (i+1) r ((d,.raw (.bool bf))::E) H (.m i [] []::done))
   |none=>pk i o r E H done (Av X.N X.gk i o E H (λE' H' fp=>rg X all dr pk k (i+1) r E' H' (fp::done)) (HB X.P X.T X.cd E H (o.dst.getD 0+1000000) o.op))
  |.skip=>HE X.N i o E H λE' H' fp=>rg X all dr pk k (i+1) r E' H' (fp::done)
  |.ask d t want=>.tZ t
    (bif want then pk i o r ((d,.raw (.bool bh))::E) H done (Av X.N X.gk i o ((d,.raw (.bool bh))::E) H (λE' H' fp=>rg X all dr pk k (i+1) r E' H' (fp::done)) (HB X.P X.T X.cd ((d,.raw (.bool bh))::E) H (o.dst.getD 0+1000000) o.op))
     else HE X.N i o ((d,.raw (.bool bh))::E) H λE' H' fp=>rg X all dr pk k (i+1) r E' H' (fp::done))
    (bif want then HE X.N i o ((d,.raw (.bool bf))::E) H (λE' H' fp=>rg X all dr pk k (i+1) r E' H' (fp::done))
     else pk i o r ((d,.raw (.bool bf))::E) H done (Av X.N X.gk i o ((d,.raw (.bool bf))::E) H (λE' H' fp=>rg X all dr pk k (i+1) r E' H' (fp::done)) (HB X.P X.T X.cd ((d,.raw (.bool bf))::E) H (o.dst.getD 0+1000000) o.op)))
def LW{R:Type}:PK S R:=λ_ _ _ _ _ _ p=>p
def Sa{R:Type}{r:R}{P:bo}{N i:Nat}{gk:List (Nat×Nat)}{o:Oper}{E:AE S.T}{H:AH S.T}{k:AE S.T->AH S.T->FP->Pg R}:∀{q:OR S},q.OK P o E H->(Av N gk i o E H k q).Is r ->
  ∃kF kR a F' F Rr,(k (Db o a E) (p7 H F') (.m i (AU F') kR)).Is r/\WB N gk H o kF kR F'=bh/\AR kF H=aY F/\AR kR H=aY Rr/\EV.Loc P o (eV E) (hV F++hV Rr) a.v (hV F'++hV Rr)
 |.no,_,h=>(Is.fail h).elim
 |.one kF kR a F',hq,h=>by
  simp only[Av,Fy]at h
  cases hb:WB N gk H o kF kR F' with
  |false=>rw[hb]at h;exact(Is.fail h).elim
  |true =>
   rw[hb]at h;have mf:=hb;simp only[WB,bn]at mf;obtain⟨_,_,_,_,_,_,_,h1,h2,_⟩:=mf;obtain⟨F,hF⟩:=dm.1 h1;obtain⟨Rr,hR⟩:=dm.1 h2;exact⟨kF,kR,a,F',F,Rr,h,hb,hF,hR,hq F Rr hF hR⟩
 |.mR ov kF kR adB,hq,h=>by
  simp only[Av]at h;obtain⟨x,hx,h⟩:=Is.mR h;split at h
  .rename_i a F' hr;simp only[Fy]at h
   cases hb:WB N gk H o kF kR F' with
   |false=>rw[hb]at h;exact(Is.fail h).elim
   |true =>
    rw[hb]at h;have mf:=hb;simp only[WB,bn]at mf;obtain⟨_,_,_,_,_,_,_,h1,h2,_⟩:=mf;obtain⟨F,hF⟩:=dm.1 h1;obtain⟨Rr,hR⟩:=dm.1 h2;exact⟨kF,kR,a,F',F,Rr,h,hb,hF,hR,hq x hx a F' hr F Rr hF hR⟩
  .exact(Is.fail h).elim
 |.eqs l q,hq,h=>by
  simp only[Av]at h;obtain⟨h1,h2⟩:=Y6 h;exact Sa (hq h1) h2
 |.alt ov kF kR adB q,hq,h=>by
  simp only[Av]at h
  rcases Is.CX h with⟨x,hx,h⟩|⟨_,h⟩
  .split at h
   .rename_i a F' hr;simp only[Fy]at h
    cases hb:WB N gk H o kF kR F' with
    |false=>rw[hb]at h;exact(Is.fail h).elim
    |true =>
     rw[hb]at h;have mf:=hb;simp only[WB,bn]at mf;obtain⟨_,_,_,_,_,_,_,h1,h2,_⟩:=mf;obtain⟨F,hF⟩:=dm.1 h1;obtain⟨Rr,hR⟩:=dm.1 h2;exact⟨kF,kR,a,F',F,Rr,h,hb,hF,hR,hq.1 x hx a F' hr F Rr hF hR⟩
   .exact(Is.fail h).elim
  .exact Sa hq.2 h
def zho{all:List Oper}{E:AE S.T}{o:Oper}(h:EC all E o=.yes):ye all (eV E) o=aY bh:=by
 unfold EC at h;unfold ye;split at h
 .rename_i hg;rw[hg]
 .rename_i j want hg;rw[hg];split at h
  .rename_i d hd;simp only[hd,Qd];split at h
   .rename_i he;rw[he];cases want<;>first|(cases h;done)|rfl
   .rename_i he;rw[he];cases want<;>first|(cases h;done)|rfl
   .cases h
   .cases h
   .cases h
  .cases h
def zqm{all:List Oper}{E:AE S.T}{o:Oper}(h:EC all E o=.skip):ye all (eV E) o=aY bf:=by
 unfold EC at h;unfold ye;split at h
 .cases h
 .rename_i j want hg;rw[hg];split at h
  .rename_i d hd;simp only[hd,Qd];split at h
   .rename_i he;rw[he];cases want<;>first|(cases h;done)|rfl
   .rename_i he;rw[he];cases want<;>first|(cases h;done)|rfl
   .rename_i he;rw[he];rfl
   .cases h
   .cases h
  .cases h
def zuq{all:List Oper}{E:AE S.T}{o:Oper}{d:Nat}{t want:Bool}(h:EC all E o=.ask d t want):(eV E).get d=.bool t/\∀b,ye all ((d,.bool b)::eV E) o=aY (b==want):=by
 unfold EC at h;unfold ye;split at h
 .cases h
 .rename_i j abb hg;rw[hg];split at h
  .rename_i d' hd;simp only[hd,Qd];split at h
   .cases abb<;>cases h
   .cases abb<;>cases h
   .cases h
   .rename_i he;cases h;refine⟨by rw[he];rfl,λb=>?_⟩;simp only[Env.get,cC,ct]
   .cases h
  .cases h
variable{X:Cx S}{R:Type}{r:R}{all:List Oper}{pk:PK S R}{k:AE S.T->AH S.T->List FP->Pg R}
def zDy{R:Type}{r:R}{b:Bool}{x y:Pg R}(h:(Th b x y).Is r):(b=bh->x.Is r)/\y.Is r:=by
 unfold Th at h
 cases b with
 |false=>exact⟨λe=>(by cases e),h⟩
 |true =>
  rw[ct]at h;obtain⟨e,h⟩:=Is.sx h;obtain⟨h1,h2,h3⟩:=h;have Br:x.run=aY r:=h1;exact⟨λ_=>⟨Br,h2⟩,⟨e.symm.trans Br,h3⟩⟩
def zDz{P:bo}{N:Nat}{E:AE S.T}{o:Oper}{d:Nat}{b:Bool}(h:Mn P N E o=aY (d,b)):∃t x t',o.dst=aY d/\o.op=.binOp .eql t x (.const (.slice bg 0 0)) t'/\jE P t=bh/\cm (d+1) N=bh/\∃sz els,aV (eV E) x=.vs sz els/\cO els=b:=by
 unfold Mn at h;split at h
 .rename_i d' t x t' e1 e2;split at h
  .rename_i c l e3
   cases hb:jE P t&&cm (d'+1) N with
   |false=>rw[hb]at h;cases h
   |true =>
    rw[hb]at h;cases h;simp only[bn]at hb;refine⟨t,x,t',e1,e2,hb.1,hb.2,zI S c,l.map (Aa S c),by rw[yu,e3];rfl,?_⟩
    show cO (cQ (Aa S c) l)=cO (α:=c.ty S.T) l
    cases l<;>rfl
  .cases h
 .cases h
def Ga{dr:Bool}(hS:S.OK)(hT:nA.OK X.P X.T)(W:Nat->List Oper->Env->aw->List FP->Prop)
  (EK:∀i E H done,(k E H done).Is r->W i [] (eV E) (hV H) done)
  (nv:∀i o rest (E:AE S.T) (H:AH S.T) kF kR (a:A S.T) (F' F Rr:AH S.T) done,all.drop i=o::rest->ye all (eV E) o=aY bh->WB X.N X.gk H o kF kR F'=bh->AR kF H=aY F->AR kR H=aY Rr->EV.Loc X.P o (eV E) (hV F++hV Rr) a.v (hV F'++hV Rr)->∀fp:FP,fp.i=i->fp.fk=AU F'->fp.rk=kR->Eo X.P o (eV E).get (hV H).get (hV (p7 H F')).get a.v fp->W (i+1) rest (eV (Db o a E)) (hV (p7 H F')) (fp::done)->W i (o::rest) (eV E) (hV H) done)
  (G':∀i o rest (E:AE S.T) (H:AH S.T) done,all.drop i=o::rest->ye all (eV E) o=aY bf->(C' X.N o&&KA o.op)=bh->W (i+1) rest (eV (Db o (.raw .no) E)) (hV H) (.m i [] []::done)->W i (o::rest) (eV E) (hV H) done)
  (Dm:∀i l d v (E:AE S.T) (H:AH S.T) done,(eV E).get d=v->W i l ((d,v)::eV E) (hV H) done->W i l (eV E) (hV H) done)
  (B6:∀i o rest (E:AE S.T) (H:AH S.T) done p,all.drop i=o::rest->ye all (eV E) o=aY bh->(pk i o rest E H done p).Is r->p.Is r∨W i (o::rest) (eV E) (hV H) done)
  (mv:dr=bf->∀i o rest (E:AE S.T) (H:AH S.T) done d b,ye all (eV E) o=aY bh->Mn X.P X.N E o=aY (d,b)->(b=bh->W (i+1) rest ((d,.bool bh)::eV E) (hV H) (.m i [] []::done))->W (i+1) rest ((d,.bool bf)::eV E) (hV H) (.m i [] []::done)->W i (o::rest) (eV E) (hV H) done):
  ∀(l:List Oper)(i:Nat)(E:AE S.T)(H:AH S.T)(done:List FP),all.drop i=l->(rg X all dr pk k i l E H done).Is r->W i l (eV E) (hV H) done
 |[],i,E,H,done,_,h=>EK i E H done h
 |o::rest,i,E,H,done,hd,h=>by
  have mA:all.drop (i+1)=rest:=by rw[<- ej,hd];rfl
  have go:∀E:AE S.T,ye all (eV E) o=aY bh->(pk i o rest E H done (Av X.N X.gk i o E H (λE' H' fp=>rg X all dr pk k (i+1) rest E' H' (fp::done)) (HB X.P X.T X.cd E H (o.dst.getD 0+1000000) o.op))).Is r->W i (o::rest) (eV E) (hV H) done:=λE hw h=>by
   rcases B6 i o rest E H done _ hd hw h with h|h
   rotate_left
   .exact h
   obtain⟨kF,kR,a,F',F,Rr,h1,h2,h3,h4,h5⟩:=Sa (zH4 hS hT) h;exact nv i o rest E H kF kR a F' F Rr done hd hw h2 h3 h4 h5 _ rfl rfl rfl WK (Ga hS hT W EK nv G' Dm B6 mv rest (i+1) _ _ _ mA h1)
  have sk:∀E:AE S.T,ye all (eV E) o=aY bf->(HE X.N i o E H λE' H' fp=>rg X all dr pk k (i+1) rest E' H' (fp::done)).Is r->W i (o::rest) (eV E) (hV H) done:=λE hw h=>by
   unfold HE at h
   cases hb:C' X.N o&&KA o.op with
   |false=>rw[hb]at h;exact(Is.fail h).elim
   |true =>rw[hb]at h;exact G' i o rest E H done hd hw hb (Ga hS hT W EK nv G' Dm B6 mv rest (i+1) _ _ _ mA h)
  simp only[rg]at h;split at h
  .exact(Is.fail h).elim
  .rename_i hw;split at h
   .rename_i d b hq
    cases dr with
    |true=>cases hq
    |false =>obtain⟨g1,g2⟩:=zDy h;exact mv rfl i o rest E H done d b (zho hw) hq (λe=>Ga hS hT W EK nv G' Dm B6 mv rest (i+1) _ _ _ mA (g1 e)) (Ga hS hT W EK nv G' Dm B6 mv rest (i+1) _ _ _ mA g2)
   .exact go E (zho hw) h
  .rename_i hw;exact sk E (zqm hw) h
  .rename_i d t want hw;obtain⟨h1,h2⟩:=zuq hw;obtain⟨h3,h4⟩:=Is.tZ h
   cases t with
   |true =>
    have h3:=h3 rfl;refine Dm i _ d (.bool bh) E H done h1 ?_;have h2:=h2 bh
    cases want with
    |true=>exact go ((d,.raw (.bool bh))::E) h2 h3
    |false=>exact sk ((d,.raw (.bool bh))::E) h2 h3
   |false =>
    have h4:=h4 rfl;refine Dm i _ d (.bool bf) E H done h1 ?_;have h2:=h2 bf
    cases want with
    |true=>exact sk ((d,.raw (.bool bf))::E) h2 h4
    |false=>exact go ((d,.raw (.bool bf))::E) h2 h4
def Qk(F:AH S.T):AU F=keys (hV F):=(ztr F).symm
def zn5:∀{a b:List Nat}{H F G:aw},kO a H=aY F->kO b H=aY G->kO (a++b) H=aY (F++G)
 |[],b,H,F,G,h1,h2=>by cases h1;exact h2
 |q::a,b,H,F,G,h1,h2=>by
  simp only[kO]at h1;split at h1
  .rename_i o l ho hl;cases h1;simp only[dj,kO,ho,zn5 hl h2]
  .cases h1
def zn6{H F' F Rr:AH S.T}{kF kR:List Nat}(hn:(keys (hV H)).Nodup)(h1:nodupB (AU F'++kR)=bh)(h2:(kF.all (AU F').contains)=bh)(h3:(F'.all λp=>kF.contains p.1||!(H.has p.1))=bh)(hR:AR kR H=aY Rr):
  (hV F'++js kF (hV H)).Perm (hV (p7 H F'))/\((hV F'++hV Rr)++js (kF++kR) (hV H)).Perm (hV (p7 H F')):=by
 have ml:=qZ hR;obtain⟨Bs,GO⟩:=yX ml;rw[Qk]at h1;have nI:=yB h1
 have pF:∀k∈kF,k∈keys (hV F'):=λk hk=>by have:=(bl.1 h2) k hk;rw[<- Qk];simpa using this
 have lR:∀k∈keys (hV F'),k ∉ kF->k ∉ keys (hV H):=λk hk pI G1=>by
  rw[<- Qk]at hk;obtain⟨p,hp,rfl⟩:=bL.1 hk;have:=(bl.1 h3) p hp;simp only[dk,cv,aU,bX]at this
  rcases this with h|h
  .exact pI h
  .rw[<- Hh,yt.2 G1]at h;cases h
 have aaL:∀ks:List Nat,(keys (js ks (hV H))).Nodup:=λks=>by
  have:(keys (js ks (hV H)))=(keys (hV H)).filter (λk=>!ks.contains k):=by simp only[keys,js];rw[List.filter_map];rfl
  rw[this];exact hn.filter _
 have l5:∀{ks:List Nat}{k:Nat},k∈keys (js ks (hV H))->k∈keys (hV H)/\k ∉ ks:=λ{ks k} hk=>by obtain⟨p,hp,rfl⟩:=bL.1 hk;have:=dO.1 hp;exact⟨ax this.1,by simpa using this.2⟩
 refine⟨Kz ?_ (JU hn F') λk=>?_,Kz ?_ (JU hn F') λk=>?_⟩
 .rw[zA];refine cK.2 ⟨(cK.1 nI).1,aaL kF,λa ha b hb e=>?_⟩;subst e;exact lR a ha (l5 hb).2 (l5 hb).1
 .rw[Yg,get_append];split
  .rfl
  .rename_i hk
   exact HJ λh=>hk (pF k h)
 .rw[zA,zA,Bs];refine cK.2 ⟨nI,aaL _,λa ha b hb e=>?_⟩;subst e;obtain⟨g1,g2⟩:=l5 hb
  rcases bJ.1 ha with ha|ha
  .exact lR a ha (λh=>g2 (bQ _ h)) g1
  .exact g2 (cq _ ha)
 .rw[Yg,get_append,zA,Bs,get_append];by_cases hk:k∈keys (hV F')
  .rw[aO (bQ _ hk),aO hk,aO hk]
  .rw[aN hk,aN hk];by_cases my:k∈kR
   .rw[aO (cq _ my)];obtain⟨p,hp,e⟩:=bL.1 (Bs▸my:k∈keys (hV Rr));subst e;rw[get_of_mem (by rw[Bs];exact(cK.1 nI).2.1) hp,get_of_mem hn (GO p hp)]
   .rw[aN λh=>(bJ.1 h).elim hk my]
    exact HJ λh=>(bJ.1 h).elim (λh=>hk (pF k h)) my
section
variable{K0:List Nat}{c:Ctx K0}{Q:xF}{VC:Option Nat}
def zD0{ρ:Env}{H:aw}{d:Nat}{v:V}(h:ρ.get d=v):Cut K0 ρ H ((d,v)::ρ) H:=FR d h rfl
def zD1(hS:S.OK)(hT:nA.OK X.P X.T){l:List Oper}{E:AE S.T}{H:AH S.T}(h:(rg X l bf LW k 0 l E H []).Is r)(hQ:∀E H done,(k E H done).Is r->Q .normal (eV E) (hV H) []):HH c X.P VC X.N l Q l (eV E) (hV H) []:=by
 refine Ga (X:=X) (all:=l) hS hT (λ_ l' ρ H _=>HH c X.P VC X.N l Q l' ρ H []) (λi E H done h=>WD (hQ E H done h)) ?_ ?_ ?_ ?_ ?_ l 0 E H [] rfl h
 .intro i o rest E H kF kR a F' F Rr done hd hw hb hF hR hl fp _ _ _ _ hW;have mf:=hb;simp only[WB,bn]at mf;obtain⟨b1,b2,b3,b4,b5,b6,b7,b8⟩:=mf
  refine PW λhn=>?_
  obtain⟨p1,p2⟩:=zn6 (F:=F) hn b3 b5 b6 hR;have sS:kO (kF++kR) (hV H)=aY (hV F++hV Rr):=zn5 (qZ hF) (qZ hR);refine YP (kF++kR) b1 hw b7 sS hl (bl.2 λp hp=>?_) (Ru p2 ?_)
  .rcases bJ.1 hp with hp|hp
   .obtain⟨q,hq,rfl⟩:=bL.1 hp;have:=(bl.1 b6) q hq;simp only[dk,cv,aU,bX,bJ]at this ⊢
    rcases this with h|h
    .exact .inl (.inl h)
    .right;rw[<- Hh]at h;simp only[aW]
     exact λhm=>by rw[yt.2 hm]at h;cases h
   .have:=ax hp;rw[(yX (qZ hR)).1]at this;simp[this]
  .rw[<- MV];exact hW
 .intro i o rest E H done hd hw hb hW;simp only[bn]at hb;have:=hW;rw[MV,show(A.raw (T:=S.T) .no).v=.no by simp only[A.v]]at this;have DS:=hb.1;unfold C' at DS
  cases mA:o.dst with
  |none=>rw[mA]at this;exact zm3 mA hw this
  |some d=>rw[mA]at this DS;exact zsm d mA DS hw this
 .intro i l' d v E H done hg hW;exact aaQ _ _ (zD0 hg) hW
 .exact λi o rest E H done p hd hw h=>.inl h
 .intro _ i o rest E H done d b hw hq h1 h2;obtain⟨t,x,t',e1,e2,ht,hd,sz,els,hx,hb⟩:=zDz hq;obtain⟨dst,op,ty,pos,aft,gd⟩:=o;have e1:dst=aY d:=e1;have e2:op=_:=e2;subst e1;subst e2;exact zH3 hd ht hx rfl hw (λe=>h1 (hb▸e)) h2
def ag1{P:bo}{N:Nat}{all l:List Oper}{done:List FP}{ρ ρ':Env}{H:aw}{K:Env->aw->Prop}(hg:ρ'.get=ρ.get)(h:uJ P N all done l ρ' H K):uJ P N all done l ρ H K:=by unfold uJ at h ⊢;rw[hg]at h;exact h
def zH9{i:Nat}{o:Oper}{rest:List Oper}{E:AE S.T}{H F' F Rr:AH S.T}{kF kR:List Nat}{a:A S.T}(hd:all.drop i=o::rest)(hw:ye all (eV E) o=aY bh)(hb:WB X.N X.gk H o kF kR F'=bh)(hF:AR kF H=aY F)(hR:AR kR H=aY Rr)
  (hl:EV.Loc X.P o (eV E) (hV F++hV Rr) a.v (hV F'++hV Rr)) (hn:(keys (hV H)).Nodup) {fp:FP} (f1:fp.i=i) (f2:fp.fk=AU F') (f3:fp.rk=kR) (f4:Eo X.P o (eV E).get (hV H).get (hV (p7 H F')).get a.v fp):(keys (hV (p7 H F'))).Nodup/\o8 X.P X.N all fp (eV E).get (hV H).get (eV (Db o a E)).get (hV (p7 H F')).get:=by
 have mf:=hb;simp only[WB,bn]at mf;obtain⟨b1,b2,b3,b4,b5,b6,b7,b8⟩:=mf;obtain⟨p1,p2⟩:=zn6 (F:=F) hn b3 b5 b6 hR
 have ra:all[i]?=aY o:=by have:=aP (λx=>x[0]?) hd;simpa using this
 rw[Qk]at b3 b5
 have e:(hV F'++js kF (hV H)).get=(hV (p7 H F')).get:=by
  funext k
  rw[Yg,get_append];split
  .rfl
  .rename_i hk
   exact HJ λh=>hk (by
    have:=(bl.1 b5) k h
    simpa using this)
 obtain⟨h1,h2⟩:=zDl (P:=X.P) (N:=X.N) (all:=all) (ρ:=eV E) (H:=hV H) (F:=hV F) (R:=hV Rr) (F':=hV F') i kF kR ra (oJ b2) b1 hw (qZ hF) (qZ hR) b3 b4 b5 (bl.2 λp hp=>by
  obtain⟨q,hq,rfl⟩:=bL.1 hp;have:=(bl.1 b6) q hq;simp only[Hh]
  exact this) hl hn (fp:=fp) f1 (f2.trans (Qk F')) f3 (by rw[e];exact f4)
 have ng:=JU hn F';rw[e,<- MV]at h2;exact⟨ng,h2⟩
def ext_get{d:Nat}{v:V}{ρ:Env}(hg:ρ.get d=v):Env.get ((d,v)::ρ)=ρ.get:=by
 funext t
 simp only[Env.get]
 cases ht:bm t d with
 |true =>
  have:=eb ht;subst this;exact hg.symm
 |false=>rfl
def zD2(hS:S.OK)(hT:nA.OK X.P X.T){l:List Oper}{E:AE S.T}{H:AH S.T}{K:Env->aw->Prop}(h:(rg X l bh LW (λE H done=>bif qs l (Ky l []) done.reverse then k E H done else .fail) 0 l E H []).Is r)(hQ:∀E H done,(k E H done).Is r->K (eV E) (hV H)):
  uJ X.P X.N l [] l (eV E) (hV H) K:=by
 refine Ga (X:=X) (all:=l) hS hT (λ_ l' ρ H' done=>uJ X.P X.N l done l' ρ H' K) (λi E H done h=>?_) ?_ ?_ ?_ (λi o rest E H done p hd hw h=>.inl h) (λe=>by cases e) l 0 E H [] rfl h
 .cases hb:qs l (Ky l []) done.reverse with
  |false=>rw[hb]at h;exact(Is.fail h).elim
  |true=>rw[hb]at h;exact By hb (hQ E H done h)
 .intro i o rest E1 H1 kF kR a F' F Rr done hd hw hb hF hR hl fp f1 f2 f3 f4 hW;have hlen:=aP ba hd;simp only[cF,lc]at hlen;exact RS (fp:=fp) ab ab (λhn=>zH9 hd hw hb hF hR hl hn f1 f2 f3 f4) hW
 .intro i o rest E1 H1 done hd hw hb hW;have hlen:=aP ba hd;simp only[cF,lc]at hlen
  have ra:l[i]?=aY o:=by have:=aP (λx=>x[0]?) hd;simpa using this
  simp only[bn]at hb;have:=hW;rw[MV,show(A.raw (T:=S.T) .no).v=.no by simp only[A.v]]at this;exact WL i ab (dP ab) ra (oJ hb.2) hb.1 hw this
 .intro i l' d v E1 H1 done hg hW;exact ag1 (ext_get hg) hW
end
end
section
variable{S:ni}
inductive HT(S:ni)(co:List TC):Type 1 where
 |n
 |s (a b:HT S co)
 |j (T:Tm) (ret:Bool) (a:HT S co)
 |l (T:Tm) (so:List (Nat×Tp)) (ho:List (Nat×TO)) (vo:List TC) (id:Nat) (fn:HL S.T T.cs->Nat->HL S.T T.vs->Option (HL S.T vo)) (a:HT S co)
 |lr (T:Tm) (so:List (Nat×Tp)) (ho:List (Nat×TO)) (vo:List TC) (id:Nat) (fn:HL S.T T.cs->Nat->HL S.T T.vs->Option (HL S.T co⊕HL S.T vo)) (a:HT S co)
def HT.a{co:List TC}:HT S co->HT S co
 |.s a _=>a
 |_=>.n
def HT.b{co:List TC}:HT S co->HT S co
 |.s _ b=>b
 |_=>.n
def Mo{R:Type}(X:Cx S)(inj:Option (HL S.T X.rT.vs->R))(E:AE S.T)(H:AH S.T):Pg R:=match inj with
 |none=>.fail
 |some i=>bif (X.cd 5000000).isSome then aan X.rT X.K0 E H X.x λv=>.ret (aY (i v))else BO X.rT X.K0 E H X.x λv=>.ret (aY (i v))
def zur{R:Type}{r:R}{X:Cx S}{inj:Option (HL S.T X.rT.vs->R)}{E:AE S.T}{H:AH S.T}(h:(Mo X inj E H).Is r):∃i v,inj=aY i/\X.rT.Nq X.K0 E H X.x v/\i v=r:=by
 unfold Mo at h;split at h
 .exact(Is.fail h).elim
 .rename_i i
  cases hc:(X.cd 5000000).isSome with
  |true =>
   rw[hc,ct]at h;obtain⟨v,g1,g2⟩:=zDu h;exact⟨i,v,rfl,g1,Option.some.inj (Is.ret g2)⟩
  |false =>rw[hc,cf]at h;obtain⟨v,g1,g2⟩:=oQ h;exact⟨i,v,rfl,g1,Option.some.inj (Is.ret g2)⟩
abbrev CD(X:Cx S):=HT S X.rT.vs->(R:Type)->Option (HL S.T X.rT.vs->R)->(AE S.T->AH S.T->Pg R)->(Nat->AE S.T->AH S.T->Pg R)->AE S.T->AH S.T->Pg R
def Iu{α R:Type}(inj:Option (α->R))(q:α):Option R:=match inj with
 |some i=>aY (i q)
 |none=>bg
def wrap(X:Cx S)(h:HT S X.rT.vs)(f:CD X)(R:Type)(inj:Option (HL S.T X.rT.vs->R))(kn:AE S.T->AH S.T->Pg R)(kx:Nat->AE S.T->AH S.T->Pg R)(E:AE S.T)(H:AH S.T):Pg R:=match h with
 |.j T ret h'=>match PA T [] [] E H with
  |none=>.fail
  |some xc=>bif ret then
    .jr (f h' (HL S.T X.rT.vs⊕HL S.T T.vs) (aY .inl) (λE' H'=>BO T X.K0 E' H' xc λv=>.ret (aY (.inr v))) (λ_ _ _=>.fail) E H) (Iu inj) (λv=>kn (T.tm xc v) (T.sP xc v))
   else .jn (f h' (HL S.T T.vs) bg (λE' H'=>BO T X.K0 E' H' xc λv=>.ret (aY v)) (λ_ _ _=>.fail) E H) λv=>kn (T.tm xc v) (T.sP xc v)
 |h=>f h R inj kn kx E H
def Po{R:Type}(X:Cx S)(f:CD X)(T:Tm)(To:Tm)(hT:T.cs=To.cs)(id:Nat)(fn:HL S.T T.cs->Nat->HL S.T T.vs->Option (HL S.T To.vs))(h:HT S X.rT.vs)(kx:Nat->AE S.T->AH S.T->Pg R)(E:AE S.T)(H:AH S.T):Pg R:=match PA T To.sl To.hp E H with
 |none=>.fail
 |some xc=>BO T X.K0 E H xc λv0 =>
  .sx (λq:HL S.T T.vs=>fn xc 0 q) (λ_=>bg)
   (.lp (R0:=HL S.T To.vs) (X:=Nat×HL S.T T.vs)
    (λq=>f h (HL S.T To.vs) bg (λE' H'=>BO T X.K0 E' H' xc λv=>.ret (fn xc q.1 v))
     (λi E' H'=>bif bm i id then BO To X.K0 E' H' (hT▸xc) λv=>.ret (aY v)else .fail) (T.tm xc q.2) (T.sP xc q.2))
    (λq=>fn xc (q.1+1) q.2)
    (.mR (fn xc X.kk v0) λv=>kx id (To.tm (hT▸xc) v) (To.sP (hT▸xc) v)))
def Pp{R:Type}(X:Cx S)(f:CD X)(T:Tm)(To:Tm)(hT:T.cs=To.cs)(id:Nat)(fn:HL S.T T.cs->Nat->HL S.T T.vs->Option (HL S.T X.rT.vs⊕HL S.T To.vs))(h:HT S X.rT.vs)(inj:Option (HL S.T X.rT.vs->R))(kx:Nat->AE S.T->AH S.T->Pg R)(E:AE S.T)(H:AH S.T):Pg R:=match PA T To.sl To.hp E H with
 |none=>.fail
 |some xc=>BO T X.K0 E H xc λv0 =>
  .sx (λq:HL S.T T.vs=>fn xc 0 q) (λ_=>bg)
   (.lp (R0:=HL S.T X.rT.vs⊕HL S.T To.vs) (X:=Nat×HL S.T T.vs)
    (λq=>f h (HL S.T X.rT.vs⊕HL S.T To.vs) (aY .inl) (λE' H'=>BO T X.K0 E' H' xc λv=>.ret (fn xc q.1 v))
     (λi E' H'=>bif bm i id then BO To X.K0 E' H' (hT▸xc) λv=>.ret (aY (.inr v))else .fail) (T.tm xc q.2) (T.sP xc q.2))
    (λq=>fn xc (q.1+1) q.2)
    (.jr (.ret (fn xc X.kk v0)) (Iu inj) λv=>kx id (To.tm (hT▸xc) v) (To.sP (hT▸xc) v)))
def Pq{R:Type}(X:Cx S)(l:List Oper)(draw:Bool)(kn:AE S.T->AH S.T->Pg R)(E:AE S.T)(H:AH S.T):Pg R:=bif draw then
  bif FQ l then rg X l bh LW (λE H done=>bif qs l (Ky l []) done.reverse then kn E H else .fail) 0 l E H []else .fail
 else rg X l bf LW (λE H _=>kn E H) 0 l E H []
def aaS{R:Type}(X:Cx S)(l:List Oper)(draw:Bool)(kn:AE S.T->AH S.T->Pg R)(E:AE S.T)(H:AH S.T):Pg R:=Pq X l draw (λE H=>match MI X.nb H with
 |(H',q)=>Ii (kn E H') q) E H
def ev(X:Cx S):Code->CD X
 |.skip,_,_,_,kn,_,E,H=>kn E H
 |.exit id,_,_,_,_,kx,E,H=>kx id E H
 |.ret,_,_,inj,_,_,E,H=>Mo X inj E H
 |.seq a b,h,R,inj,kn,kx,E,H=>wrap X h.a (ev X a) R inj (λE H=>wrap X h.b (ev X b) R inj kn kx E H) kx E H
 |.cond c a b,h,R,inj,kn,kx,E,H=>match iL E c with
  |.lQ .b t=>.tZ t (wrap X h.a (ev X a) R inj kn kx E H) (wrap X h.b (ev X b) R inj kn kx E H)
  |.raw (.bool bh)=>wrap X h.a (ev X a) R inj kn kx E H
  |.raw (.bool bf)=>wrap X h.b (ev X b) R inj kn kx E H
  |_=>.fail
 |.block id a,h,R,inj,kn,kx,E,H=>wrap X h.a (ev X a) R inj kn (λi E H=>bif bm i id then kn E H else kx i E H) E H
 |.region _ ops draw,_,_,_,kn,_,E,H=>aaS X ops.toList draw kn E H
 |.loop a,h,_,inj,_,kx,E,H=>match h with
  |.l T so ho vo id fn hb=>Po X (λh'=>wrap X h' (ev X a)) T ⟨so,ho,T.cs,vo⟩ rfl id fn hb kx E H
  |.lr T so ho vo id fn hb=>Pp X (λh'=>wrap X h' (ev X a)) T ⟨so,ho,T.cs,vo⟩ rfl id fn hb inj kx E H
  |_=>.fail
 |_,_,_,_,_,_,_,_=>.fail
def FA(K0:List Nat)(Q:xF):xF:=λe ρ H ds=>∃l0 H1,Cut K0 ρ H l0 H1/\Q e l0 H1 ds
def FJ{K0:List Nat}{c:Ctx K0}{P:bo}{r:Option Nat}{N:Nat}{x:Code}{Q:xF}{ρ:Env}{H:aw}{ds:List Deferred}(h:l9 c P r N x (FA K0 Q) ρ H ds):l9 c P r N x Q ρ H ds:=λρr w mj SA hM=>YF (h ρr w mj SA hM) λe Cu mL w' ⟨ρ',H',S',mW,l0,H1,hc,hQ⟩=>⟨l0,H1,hc c _ _ S',mW,hQ⟩
variable(X:Cx S)(c:Ctx X.K0)
def Fin(q:HL S.T X.rT.vs)(Q:xF):Prop:=Q .ret (eV (X.rT.tm X.x q)) (hV (X.rT.sP X.x q)) []
def Gu(f:CD X)(code:Code):Prop:=∀(h:HT S X.rT.vs)(R:Type)(inj:Option (HL S.T X.rT.vs->R))(kn:AE S.T->AH S.T->Pg R)(kx:Nat->AE S.T->AH S.T->Pg R)(E:AE S.T)(H:AH S.T)(r:R)(Q:xF),
 (f h R inj kn kx E H).Is r->(∀E' H',(kn E' H').Is r->Q .normal (eV E') (hV H') [])->(∀i E' H',(kx i E' H').Is r->Q (.exit i) (eV E') (hV H') []) ->
 (∀q i,inj=aY i->i q=r->Fin X q Q)->l9 c X.P bg X.N code Q (eV E) (hV H) []
variable{X c}
def Fin.cut{K0:List Nat}{q:HL S.T X.rT.vs}{Q:xF}(h:Fin X q Q):Fin X q (FA K0 Q):=⟨_,_,Cut.refl,h⟩
def zhp{α R:Type}{inj:Option (α->R)}{q:α}{r:R}(h:Iu inj q=aY r):∃i,inj=aY i/\i q=r:=by
 unfold Iu at h;split at h
 .cases h;exact⟨_,rfl,rfl⟩
 .cases h
def kH(hS:S.OK){f:CD X}{code:Code}(hf:Gu X c f code):Gu X c (λh=>wrap X h f) code:=by
 intro h R inj kn kx E H r Q hI hn hx hr;simp only[wrap]at hI;split at hI
 .rename_i T ret h';split at hI
  .exact(Is.fail hI).elim
  .rename_i xc _
   cases ret with
   |true =>
    rw[ct]at hI;refine FJ ?_
    rcases Is.jr hI with⟨q,h1,h2⟩|⟨s,h1,h2⟩
    .refine hf _ _ _ _ _ _ _ _ (FA X.K0 Q) h1 (λE' H' g=>?_) (λ_ _ _ g=>(Is.fail g).elim) (λq' i e1 e2=>?_)
     .obtain⟨v,g1,g2⟩:=oQ g;have:=Is.ret g2;cases this
     .cases e1;cases e2;obtain⟨i,e3,e4⟩:=zhp h2;exact(hr _ i e3 e4).cut
    .refine hf _ _ _ _ _ _ _ _ (FA X.K0 Q) h1 (λE' H' g=>?_) (λ_ _ _ g=>(Is.fail g).elim) (λq' i e1 e2=>?_)
     .obtain⟨v,g1,g2⟩:=oQ g;have:=Is.ret g2;cases this;exact⟨_,_,kG hS g1,hn _ _ h2⟩
     .cases e1;cases e2
   |false =>
    rw[cf]at hI;refine FJ ?_;obtain⟨s,h1,h2⟩:=Is.jn hI;refine hf _ _ _ _ _ _ _ _ (FA X.K0 Q) h1 (λE' H' g=>?_) (λ_ _ _ g=>(Is.fail g).elim) (λq' i e1 e2=>?_)
    .obtain⟨v,g1,g2⟩:=oQ g;have:=Is.ret g2;cases this;exact⟨_,_,kG hS g1,hn _ _ h2⟩
    .cases e1
 .exact hf _ _ _ _ _ _ _ _ Q hI hn hx hr
def zzb(hS:S.OK){R:Type}{r:R}{f:CD X}{a:Code}(hf:Gu X c f a){T To:Tm}{GQ:T.cs=To.cs}{id:Nat}{fn:HL S.T T.cs->Nat->HL S.T T.vs->Option (HL S.T To.vs)}{h:HT S X.rT.vs}{kx:Nat->AE S.T->AH S.T->Pg R}{E:AE S.T}{H:AH S.T}{Q:xF}
  (hI:(Po X f T To GQ id fn h kx E H).Is r) (hx:∀i E' H',(kx i E' H').Is r->Q (.exit i) (eV E') (hV H') []):l9 c X.P bg X.N (.loop a) Q (eV E) (hV H) []:=by
 unfold Po at hI;split at hI
 .exact(Is.fail hI).elim
 .rename_i xc _;obtain⟨v0,h1,h2⟩:=oQ hI;obtain⟨h3,h4⟩:=Is.sx h2;obtain⟨h5,h6⟩:=Is.lp h4;obtain⟨z,h7,h8⟩:=Is.mR h6;refine FJ ?_
  refine j4 (λq=>eV (T.tm xc q)) (λq=>hV (T.sP xc q)) (fn xc) (λq=>congrFun h3 q) X.kk v0 h7 (kG hS h1) λK q hq=>?_
  refine hf _ _ _ _ _ _ _ _ _ (h5 (K,q) z hq) (λE' H' g=>?_) (λi E' H' g=>?_) (λq' i e1 e2=>?_)
  .obtain⟨v,g1,g2⟩:=oQ g;exact xn v (Is.ret g2) (kG hS g1)
  .cases hb:bm i id with
   |false=>rw[hb]at g;exact(Is.fail g).elim
   |true =>
    rw[hb,ct]at g;have:=eb hb;subst this;obtain⟨v,g1,g2⟩:=oQ g;have:=Is.ret g2;cases this;exact yV ⟨_,_,kG hS g1,hx _ _ _ h8⟩
  .cases e1
def zzc(hS:S.OK){R:Type}{r:R}{f:CD X}{a:Code}(hf:Gu X c f a){T To:Tm}{GQ:T.cs=To.cs}{id:Nat}{fn:HL S.T T.cs->Nat->HL S.T T.vs->Option (HL S.T X.rT.vs⊕HL S.T To.vs)}{h:HT S X.rT.vs}{inj:Option (HL S.T X.rT.vs->R)}{kx:Nat->AE S.T->AH S.T->Pg R}{E:AE S.T}{H:AH S.T}{Q:xF}
  (hI:(Pp X f T To GQ id fn h inj kx E H).Is r) (hx:∀i E' H',(kx i E' H').Is r->Q (.exit i) (eV E') (hV H') [])
  (hr:∀q i,inj=aY i->i q=r->Fin X q Q):l9 c X.P bg X.N (.loop a) Q (eV E) (hV H) []:=by
 unfold Pp at hI;split at hI
 .exact(Is.fail hI).elim
 .rename_i xc _;obtain⟨v0,h1,h2⟩:=oQ hI;obtain⟨h3,h4⟩:=Is.sx h2;obtain⟨h5,h6⟩:=Is.lp h4
  have hz:∃z,fn xc X.kk v0=aY z/\((∃q,z=.inl q/\Iu inj q=aY r)∨∃s,z=.inr s/\(kx id (To.tm (GQ▸xc) s) (To.sP (GQ▸xc) s)).Is r):=by
   rcases Is.jr h6 with⟨q,g1,g2⟩|⟨s,g1,g2⟩
   .exact⟨_,Is.ret g1,.inl ⟨q,rfl,g2⟩⟩
   .exact⟨_,Is.ret g1,.inr ⟨s,rfl,g2⟩⟩
  obtain⟨z,h7,h8⟩:=hz;refine FJ ?_
  refine j4 (λq=>eV (T.tm xc q)) (λq=>hV (T.sP xc q)) (fn xc) (λq=>congrFun h3 q) X.kk v0 h7 (kG hS h1) λK q hq=>?_
  refine hf _ _ _ _ _ _ _ _ _ (h5 (K,q) z hq) (λE' H' g=>?_) (λi E' H' g=>?_) (λq' i e1 e2=>?_)
  .obtain⟨v,g1,g2⟩:=oQ g;exact xn v (Is.ret g2) (kG hS g1)
  .cases hb:bm i id with
   |false=>rw[hb]at g;exact(Is.fail g).elim
   |true =>
    rw[hb,ct]at g;have:=eb hb;subst this;obtain⟨v,g1,g2⟩:=oQ g;have:=Is.ret g2;cases this
    rcases h8 with⟨q,e,_⟩|⟨s,e,g3⟩
    .cases e
    .cases e;exact yV ⟨_,_,kG hS g1,hx _ _ _ g3⟩
  .cases e1;cases e2
   rcases h8 with⟨q,e,g3⟩|⟨s,e,_⟩
   .cases e;obtain⟨i,e3,e4⟩:=zhp g3;have hF:=(hr _ i e3 e4).cut (K0:=X.K0);exact oq hF
   .cases e
def zzd(hS:S.OK)(hT:nA.OK X.P X.T)(hm:X.P.follows .mixedOrders=bh){R:Type}{r:R}{l:List Oper}{draw:Bool}{id:Nat}{kn:AE S.T->AH S.T->Pg R}{E:AE S.T}{H:AH S.T}{Q:xF}
  (hI:(Pq X l draw kn E H).Is r) (hn:∀E' H',(kn E' H').Is r->Q .normal (eV E') (hV H') []):l9 c X.P bg X.N (.region id l.toArray draw) Q (eV E) (hV H) []:=by
 unfold Pq at hI
 cases draw with
 |true =>
  rw[ct]at hI
  cases hb:FQ l with
  |false=>rw[hb]at hI;exact(Is.fail hI).elim
  |true =>
   rw[hb]at hI;exact IG hm hb (zD2 (K:=λρ' H'=>Q .normal ρ' H' []) hS hT hI λE' H' _ h=>hn E' H' h)
 |false =>rw[cf]at hI;exact zs7 (zD1 hS hT hI λE' H' _ h=>hn E' H' h)
def zD6(hS:S.OK)(hT:nA.OK X.P X.T)(hm:X.P.follows .mixedOrders=bh){R:Type}{r:R}{l:List Oper}{draw:Bool}{id:Nat}{kn:AE S.T->AH S.T->Pg R}{E:AE S.T}{H:AH S.T}{Q:xF}
  (hI:(aaS X l draw kn E H).Is r) (hn:∀E' H',(kn E' H').Is r->Q .normal (eV E') (hV H') []):l9 c X.P bg X.N (.region id l.toArray draw) Q (eV E) (hV H) []:=FJ (zzd hS hT hm (Q:=FA X.K0 Q) hI λE' H' h=>⟨_,_,zlg hS (eV E') H' (Y6 h).1,hn _ _ (Y6 h).2⟩)
def Kl(hS:S.OK)(hT:nA.OK X.P X.T)(hm:X.P.follows .mixedOrders=bh):∀code:Code,Gu X c (ev X code) code
 |.skip=>λh R inj kn kx E H r Q hI hn hx hr=>by
  simp only[ev]at hI;exact WC (hn _ _ hI)
 |.exit id=>λh R inj kn kx E H r Q hI hn hx hr=>by
  simp only[ev]at hI;exact kN (hx _ _ _ hI)
 |.ret=>λh R inj kn kx E H r Q hI hn hx hr=>by
  simp only[ev]at hI;obtain⟨i,v,e1,g1,e2⟩:=zur hI;exact ry _ _ (kG hS g1) (vc (hr v i e1 e2))
 |.seq a b=>λh R inj kn kx E H r Q hI hn hx hr=>by
  simp only[ev]at hI;refine Xp (kH hS (Kl hS hT hm a) _ _ _ _ _ _ _ _ _ hI (λE' H' g=>?_) (λi E' H' g=>?_) (λq i e1 e2=>?_))
  .exact zgd (kH hS (Kl hS hT hm b) _ _ _ _ _ _ _ _ Q g hn hx hr)
  .exact yx (hx i E' H' g)
  .exact zge (hr q i e1 e2)
 |.cond y a b=>λh R inj kn kx E H r Q hI hn hx hr=>by
  simp only[ev]at hI;split at hI
  .rename_i t ht;obtain⟨h1,h2⟩:=Is.tZ hI;exact yy t (by rw[yu,ht];rfl) (λe=>kH hS (Kl hS hT hm a) _ _ _ _ _ _ _ _ Q (h1 e) hn hx hr) (λe=>kH hS (Kl hS hT hm b) _ _ _ _ _ _ _ _ Q (h2 e) hn hx hr)
  .rename_i ht;exact yy bh (by rw[yu,ht];simp only[A.v]) (λ_=>kH hS (Kl hS hT hm a) _ _ _ _ _ _ _ _ Q hI hn hx hr) (λe=>by cases e)
  .rename_i ht;exact yy bf (by rw[yu,ht];simp only[A.v]) (λe=>by cases e) (λ_=>kH hS (Kl hS hT hm b) _ _ _ _ _ _ _ _ Q hI hn hx hr)
  .exact(Is.fail hI).elim
 |.block id a=>λh R inj kn kx E H r Q hI hn hx hr=>by
  simp only[ev]at hI;refine zsk (kH hS (Kl hS hT hm a) _ _ _ _ _ _ _ _ _ hI (λE' H' g=>zmz (hn _ _ g)) (λi E' H' g=>?_) (λq i e1 e2=>zm0 (hr q i e1 e2)))
  cases hb:bm i id with
  |true =>
   rw[hb]at g;have:=eb hb;subst this;exact yU (hn _ _ g)
  |false =>
   rw[hb]at g;exact ac3 hb (hx _ _ _ g)
 |.region id ops draw=>λh R inj kn kx E H r Q hI hn hx hr=>by
  simp only[ev]at hI;exact zD6 (l:=ops.toList) hS hT hm hI hn
 |.loop a=>λh R inj kn kx E H r Q hI hn hx hr=>by
  simp only[ev]at hI;split at hI
  .exact zzb hS (kH hS (Kl hS hT hm a)) hI hx
  .exact zzc hS (kH hS (Kl hS hT hm a)) hI hx hr
  .exact(Is.fail hI).elim
 |.rangeFunc ..=>λh R inj kn kx E H r Q hI hn hx hr=>by simp only[ev]at hI;exact(Is.fail hI).elim
 |.scope a=>λh R inj kn kx E H r Q hI hn hx hr=>by simp only[ev]at hI;exact(Is.fail hI).elim
 |.label _=>λh R inj kn kx E H r Q hI hn hx hr=>by simp only[ev]at hI;exact(Is.fail hI).elim
 |.goto _=>λh R inj kn kx E H r Q hI hn hx hr=>by simp only[ev]at hI;exact(Is.fail hI).elim
 |.refuse _=>λh R inj kn kx E H r Q hI hn hx hr=>by simp only[ev]at hI;exact(Is.fail hI).elim
end
def XJ:List (Nat×Nat×Nat)->Nat->Option (Nat×Nat)
 |[],_=>bg
 |(t,k,off)::r,u=>bif bm u t then aY (k,off)else XJ r u
def Nh:List (Nat×TO)->Nat->Option TO
 |[],_=>bg
 |(k,o)::r,j=>bif bm j k then aY o else Nh r j
def MW:Tp->Tp->Bool
 |.d c j,.d c' j'=>decide (c=c')&&bm j j'
 |.ptr k o,.ptr k' o'=>bm k k'&&bm o o'
 |.mp k,.mp k'=>bm k k'
 |.row s k,.row s' k'=>bm s s'&&bm k k'
 |.mx,.mx=>bh
 |.gg,.gg=>bh
 |.nd,.nd=>bh
 |.mD,.mD=>bh
 |.nM,.nM=>bh
 |_,_=>bf
def MJ:List Tp->List Tp->Bool
 |[],[]=>bh
 |a::r,b::r'=>MW a b&&MJ r r'
 |_,_=>bf
def zhq{a b:Tp}(h:MW a b=bh):a=b:=by
 unfold MW at h
 split at h<;>first|(cases h;done)|rfl|skip
 .simp only[bn,aU]at h;rw[h.1,eb h.2]
 .simp only[bn]at h;rw[eb h.1,eb h.2]
 .rw[eb h]
 .simp only[bn]at h;rw[eb h.1,eb h.2]
def ZS:∀{a b:List Tp},MJ a b=bh->a=b
 |[],[],_=>rfl
 |x::r,y::r',h=>by
  simp only[MJ,bn]at h;rw[zhq h.1,ZS h.2]
 |[],_::_,h=>by cases h
 |_::_,[],h=>by cases h
def XK:Tp->Bool
 |.d (.st _) _=>bf
 |.d (.m _ _) _=>bf
 |.d _ _=>bh
 |.ptr _ _=>bh
 |.mp _=>bh
 |.row _ _=>bh
 |.mx=>bh
 |.gg=>bh
 |.nd=>bh
 |.mD=>bh
 |.nM=>bh
 |_=>bf
def Ni(P:bo)(ty:Nat)(cs:List Tp)(off:Nat)(o:Tp):Bool:=match oj P ty with
 |none=>bf
 |some bg=>match cs[off]? with
  |some t=>MW t o&&XK o
  |none=>bf
 |some (aY k)=>cm (off+k) cs.length&&(match o with|.ag l=>MJ ((cs.drop off).take k) l|_=>bf)
def BP(P:bo)(rc:List (Nat×Nat×Nat))(lZ:List (Nat×TO)):List ResultVar->List Tp->Option (List (Nat×Tp))
 |[],[]=>aY []
 |.tmp t::r,o::os=>match BP P rc lZ r os with
  |some l=>aY ((t,o)::l)
  |none=>bg
 |.cell t ty::r,o::os=>match XJ rc t with
  |some (k,off)=>match Nh lZ k with
   |some (.box _ cs)=>bif Ni P ty cs off o then(match BP P rc lZ r os with
    |some l=>aY ((t,.ptr k off)::l)
    |none=>bg)else bg
   |_=>bg
  |none=>bg
 |_,_=>bg
def Pr(P:bo)(rc:List (Nat×Nat×Nat))(lZ:List (Nat×TO))(l:List ResultVar)(out:Tp):Option (List (Nat×Tp)):=match l with
 |[]=>match out with
  |.iN []=>aY []
  |_=>bg
 |[x]=>BP P rc lZ [x] [out]
 |x::y::r=>match out with
  |.iN os=>BP P rc lZ (x::y::r) os
  |_=>bg
section
variable{S:ni}
def SL(n:Nat)(c:Ct S)(rs:List (Nat×Tp)):Bool:=nodupB (rs.map (·.1))&&(cm c.ins.length n&&(AS [c.out] c.lZ&&(nodupB (c.lZ.map (·.1))&&(c.hin.map (·.1)).all (c.lZ.map (·.1)).contains)))
def Lc(P:bo)(N:Nat)(T:nA S)(cd:Nat->Option TC)(kk:Nat)(nb:NB)(c:Ct S)(rs:List (Nat×Tp))(x:HL S.T c.ci)(K0:List Nat):Cx S:={ P:=P,N:=N,K0:=K0,T:=T,cd:=cd,kk:=kk,nb:=nb,rT:=⟨rs,c.lZ,c.ci,c.co⟩,x:=x }
def Ps(l:List (A S.T)):AE S.T:=l.zipIdx.map λp=>(p.2,p.1)
def zD9(l:List (A S.T)):eV (Ps l)=F5 (A.vs l):=by
 simp only[Ps,F5,eV,cU,wD]
 suffices h:∀(l:List (A S.T))(j:Nat),cQ ((λp:Nat×A S.T=>(p.1,p.2.v)) ∘ λp=>(p.2,p.1)) (l.zipIdx j)=cQ (λp=>(p.2,p.1)) ((l.map A.v).zipIdx j) from h l 0
 intro l
 induction l with
 |nil=>intro j;rfl
 |cons a l ih=>intro j;simp only[List.zipIdx_cons,ij,ih (j+1)];rfl
def pQ(P:bo)(fn:Func)(code:Code)(T:nA S)(cd:Nat->Option TC)(kk:Nat)(nb:NB)(c:Ct S)(rc:List (Nat×Nat×Nat))(h:HT S c.co)(x:HL S.T c.ci):Pg (HL S.T c.co):=match Pr P rc c.lZ fn.results.toList c.out with
 |none=>.fail
 |some rs=>bif SL fn.ntmps c rs then
   wrap (Lc P fn.ntmps T cd kk nb c rs x (c.hin.map (·.1))) h (ev (Lc P fn.ntmps T cd kk nb c rs x (c.hin.map (·.1))) code) (HL S.T c.co) (aY id) (λE H=>Mo (Lc P fn.ntmps T cd kk nb c rs x (c.hin.map (·.1))) (aY id) E H) (λ_ _ _=>.fail)
    (Ps (Tp.mJ c.hin (wZ c.ci x) c.ins)) (We c.hin (wZ c.ci x))
  else .fail
def zn8{hp:List (Nat×TO)}{ds:List (Dy S.T)}:∀{sl:List (Nat×Tp)},(sl.map (·.1)).Nodup->∀{t:Nat}{tp:Tp},(t,tp)∈sl->(W7 (S:=S) hp sl ds).get t=tp.put hp ds
 |(d,VL)::r,hn,t,tp,h=>by
  simp only[ij,cA]at hn;simp only[W7,ij,AE.get]
  rcases bu.1 h with e|h2
  .cases e;rw[cC];rfl
  .have:bm t d=bf:=by
    cases hb:bm t d with
    |false=>rfl
    |true =>
     have:=eb hb;subst this;have hm:t∈r.map (·.1):=cG (f:=(·.1)) h2;exact aQ hm hn.1
   rw[this];exact zn8 hn.2 h2
def zus{hp ho:List (Nat×TO)}{ds:List (Dy S.T)}{k:Nat}:(hV (Mj (S:=S) hp ds ho)).get k=(Nh ho k).map λo=>(o.put (S:=S) hp ds).o:=by
 induction ho with
 |nil=>rfl
 |cons p r ih =>
  obtain⟨d,o⟩:=p;simp only[Mj,hV,ij,aw.get,Nh]at ih ⊢
  cases bm k d with
  |true=>rfl
  |false=>exact ih
def zEa{hp:List (Nat×TO)}{ds:List (Dy S.T)}:∀{o:Tp},XK o=bh->(o.put (S:=S) hp ds).v.one=bh
 |.d c j,h=>by
  cases c<;>first|(cases h;done)|(simp only[Tp.put,A.v,oL];rfl)|(simp only[Tp.put,A.v,oL];unfold SF;split<;>rfl)
 |.ptr ..,_=>by simp only[Tp.put,A.v];rfl
 |.mp _,_=>by simp only[Tp.put,A.v];rfl
 |.row ..,_=>by simp only[Tp.put,A.v];rfl
 |.mx,_=>by simp only[Tp.put,A.v];rfl
 |.gg,_=>by simp only[Tp.put,A.v];rfl
 |.nd,_=>by simp only[Tp.put,A.v];rfl
 |.mD,_=>by simp only[Tp.put,A.v];rfl
 |.nM,_=>by simp only[Tp.put,A.v];rfl
 |.no,h=>by cases h
 |.L9,h=>by cases h
 |.ag _,h=>by cases h
 |.iN _,h=>by cases h
 |.fn ..,h=>by cases h
 |.mP ..,h=>by cases h
def zzg{P:bo}{ty:Nat}{cs:List Tp}{off:Nat}{o:Tp}(h:Ni P ty cs off o=bh){hp:List (Nat×TO)}{ds:List (Dy S.T)}:nr P ty (A.vs (Tp.mJ (S:=S) hp ds cs)) off=aY (o.put hp ds).v:=by
 unfold Ni at h;split at h
 .cases h
 .rename_i hs;split at h
  .rename_i t ht;simp only[bn]at h;have:=zhq h.1;subst this;refine Part.at (k:=bg) hs ⟨?_,zEa h.2⟩;rw[wD,JT,cU,cz,ht];rfl
  .cases h
 .rename_i k hs;simp only[bn]at h;obtain⟨h1,h2⟩:=h;split at h2
  .rename_i l;have:=ZS h2;subst this;refine Part.at (k:=aY k) hs ⟨?_,?_⟩
   .rw[uK,JT,bM];exact mi h1
   .simp only[Tp.put,A.v,wD,JT,cU,List.map_take,List.map_drop]
  .cases h2
def MK{P:bo}{ρ:Env}{rc:List (Nat×Nat×Nat)}{hp:List (Nat×TO)}{ds:List (Dy S.T)}:∀{l:List ResultVar}{os:List Tp}{rs:List (Nat×Tp)},BP P rc hp l os=aY rs->(∀t tp,(t,tp)∈rs->ρ.get t=(tp.put hp ds).v)->BL P ρ (hV (We hp ds)) l=aY (A.vs (Tp.mJ (S:=S) hp ds os))/\os.length=l.length
 |[],[],rs,h,hg=>by simp[BL,Tp.mJ,A.vs]
 |.tmp t::r,o::os,rs,h,hg=>by
  simp only[BP]at h;split at h
  .rename_i l hl;cases h
   obtain⟨h1,h2⟩:=MK hl λt tp hm=>hg t tp (iO _ hm)
   simp only[BL,Ik,hg t o ak,h1,Tp.mJ,A.vs,lc,h2];simp
  .cases h
 |.cell t ty::r,o::os,rs,h,hg=>by
  simp only[BP]at h;split at h
  .rename_i k off hk;split at h
   .rename_i bt cs hb
    cases OU:Ni P ty cs off o with
    |false=>rw[OU]at h;cases h
    |true =>
     rw[OU]at h;dsimp only[ct]at h;split at h
     .rename_i l hl;cases h
      obtain⟨h1,h2⟩:=MK hl λt tp hm=>hg t tp (iO _ hm)
      have h3:=hg t (.ptr k off) ak
      have h4:(hV (We (S:=S) hp ds)).get k=aY (.box bt (A.vs (Tp.mJ hp ds cs))):=by have:=zus (S:=S) (hp:=hp) (ho:=hp) (ds:=ds) (k:=k);rw[hb]at this;exact this
      simp only[Tp.put,A.v]at h3;simp only[BL,Ik,h3,h4,zzg OU,h1,Tp.mJ,A.vs,lc,h2];simp
     .cases h
   .cases h
  .cases h
 |[],_::_,_,h,_=>by simp only[BP]at h;cases h
 |.tmp _::_,[],_,h,_=>by simp only[BP]at h;cases h
 |.cell ..::_,[],_,h,_=>by simp only[BP]at h;cases h
def zEb{P:bo}{fn:Func}{ρ:Env}{rc:List (Nat×Nat×Nat)}{hp:List (Nat×TO)}{ds:List (Dy S.T)}{out:Tp}{rs:List (Nat×Tp)}(h:Pr P rc hp fn.results.toList out=aY rs)(hg:∀t tp,(t,tp)∈rs->ρ.get t=(tp.put hp ds).v):Et fn ρ (hV (We hp ds)) P=aY (out.put (S:=S) hp ds).v:=by
 unfold Et;generalize fn.results.toList=l at h ⊢;unfold Pr at h;split at h
 .split at h
  .cases h;simp only[BL,Tp.put,Tp.mJ,A.v,A.vs]
  .cases h
 .rename_i x;obtain⟨h1,h2⟩:=MK h hg;rw[h1];simp only[Tp.mJ,A.vs]
 .split at h
  .rename_i x y r os;obtain⟨h1,h2⟩:=MK h hg;rw[h1]
   match os,h2 with
   |a::b::r,_=>simp only[Tp.put,Tp.mJ,A.v,A.vs]
  .cases h
def XL(hS:S.OK){P:bo}{f:Nat}{fn:Func}{code:Code}{T:nA S}{cd:Nat->Option TC}{kk:Nat}{nb:NB}{c:Ct S}{rc:List (Nat×Nat×Nat)}{h:HT S c.co}(hf:P.funcs[f]?=aY fn)(hb:fn.body=aY code)(hm:P.follows .mixedOrders=bh)(hT:nA.OK P T)
  (mO:∀x,(pQ P fn code T cd kk nb c rc h x).run=c.fn x) (htr:∀x,(pQ P fn code T cd kk nb c rc h x).tr bh=(pQ P fn code T cd kk nb c rc h x).tr bf):c.OK P f:=by
 intro x r hr
 have hI:(pQ P fn code T cd kk nb c rc h x).Is r:=⟨(mO x).trans hr,vy _ (htr x)⟩
 unfold pQ at hI;split at hI
 .exact(Is.fail hI).elim
 .rename_i rs G8
  cases hc:SL fn.ntmps c rs with
  |false=>rw[hc]at hI;exact(Is.fail hI).elim
  |true =>
   rw[hc,ct]at hI;simp only[SL,bn]at hc;obtain⟨c1,c2,c3,c4,c5⟩:=hc;simp only[AS,bn]at c3
   have AU:∀ds,keys (hV (We (S:=S) c.lZ ds))=c.lZ.map (·.1):=λds=>kT
   have tA:∀e:Exit,(e=.normal∨e=.ret)->Im P fn (c.hin.map (·.1)) (c.out.put c.lZ (wZ c.ci x++wZ c.co r)).v (hV (We c.lZ (wZ c.ci x++wZ c.co r))) e
     (eV (W7 c.lZ rs (wZ c.ci x++wZ c.co r))) (hV (We c.lZ (wZ c.ci x++wZ c.co r))) []:=by
    have h1:Et fn (eV (W7 c.lZ rs (wZ c.ci x++wZ c.co r))) (hV (We c.lZ (wZ c.ci x++wZ c.co r))) P=aY (c.out.put c.lZ (wZ c.ci x++wZ c.co r)).v:=zEb G8 λt tp l5=>by rw[Qd,zn8 (yB c1) l5]
    have h2:kO (keys (hV (We (S:=S) c.lZ (wZ c.ci x++wZ c.co r)))) (hV (We c.lZ (wZ c.ci x++wZ c.co r)))=aY (hV (We c.lZ (wZ c.ci x++wZ c.co r))):=MB λp hp=>get_of_mem (by rw[AU];exact yB c4) hp
    have h3:Il (c.out.put (S:=S) c.lZ (wZ c.ci x++wZ c.co r)).v (hV (We c.lZ (wZ c.ci x++wZ c.co r))) (c.hin.map (·.1))=bh:=by have mY:=Vh (S:=S) hS (ins:=[c.out]) (hin:=c.lZ) (ds:=wZ c.ci x++wZ c.co r) (by simp only[AS,bn];exact c3);simp only[EV.Kx,bn,Tp.mJ,A.vs,wh,cL]at mY;simp only[Il,bn,AU]at mY ⊢;exact⟨c4,c5,mY.1,mY.2⟩
    rintro e (rfl|rfl)<;>exact⟨rfl,h1,h2,h3⟩
   have key:∀(K0:List Nat),K0=c.hin.map (·.1)->∀cc:Ctx K0,l9 cc P bg fn.ntmps code (Im P fn K0 (c.out.put c.lZ (wZ c.ci x++wZ c.co r)).v (hV (We c.lZ (wZ c.ci x++wZ c.co r)))) (F5 (A.vs (Tp.mJ c.hin (wZ c.ci x) c.ins))) (hV (We c.hin (wZ c.ci x))) []:=by
    intro K0 e cc;subst e;rw[<- zD9];refine FJ (kH (X:=Lc P fn.ntmps T cd kk nb c rs x (c.hin.map (·.1))) hS (Kl hS hT hm code) _ _ _ _ _ _ _ _ _ hI (λE' H' g=>?_) (λ_ _ _ g=>(Is.fail g).elim) (λq i e1 e2=>?_))
    .obtain⟨i,v,e1,g1,e2⟩:=zur g;cases e1;cases e2;exact⟨_,_,kG hS g1,tA _ (.inl rfl)⟩
    .cases e1;cases e2;exact⟨_,_,Cut.refl,tA _ (.inr rfl)⟩
   exact yo hf hb rfl (by rw[uK,JT,bM];exact c2) (key _ kT)
end
end Go.EQ
namespace Go.Proofs.YtogbenbghgjbiaaGreatDoor
open Go Go.RowKit Go.lG Go.EV Go.EQ
def zEc(T:Nat)(s:aj)(mk:Nat->Option (Nat×Nat))(Z:ZM)(w:bF):Prop:=
 ∃b n p v,mk 0=aY (b,1)/\w.heap[b]?=aY (.cells #[p,v] T (0,0))/\Lib.IsBuilderF T 5 0 b (Lib.byteCells s) w/\(∀g,v.ownBlock=aY g->∃j,mk (j+1)=aY (g,1))/\(∀j,n<j->mk j=bg) /\
  (∀j loc,mk j=aY loc->loc.2=1/\∃cur u fr,w.heap[loc.1]?=aY (.cells cur u fr))/\∀a x,Z a=aY x->∀j,mk j≠aY (a.block,1)
def zzh{T b:Nat}{bs:List bx}{w w':bF}{p v:bx}(h:Lib.IsBuilderF T 5 0 b bs w)(hb:w.heap[b]?=aY (.cells #[p,v] T (0,0)))(h1:w'.heap[b]?=w.heap[b]?)(h2:∀g,v.ownBlock=aY g->w'.heap[g]?=w.heap[g]?):Lib.IsBuilderF T 5 0 b bs w':=by
 have key:∀q,Lib.BuilderAtF T 5 0 b q bs w->Lib.BuilderAtF T 5 0 b q bs w':=λq ⟨hB,v',mX,ny,lD⟩=>by
  rw[hb]at mX;cases mX;refine⟨hB,v,h1.trans hb,⟨ny.1,?_⟩,lD⟩
  rcases ny.2 with h|⟨g,cap,cur,fz,e1,e2,e3,r⟩
  .exact .inl h
  .exact .inr ⟨g,cap,cur,fz,e1,e2,(h2 g (by rw[e1];rfl)).trans e3,r⟩
 exact h.elim (λh=>.inl (key _ h)) λh=>.inr (key _ h)
def sbG(T:Nat)(s:aj):Ic where
 holds:=zEc T s
 nZ mk b:=∃j,mk j=aY (b,1)
 some_ mk b h:=by obtain⟨j,h⟩:=h;exact⟨j,1,h,ad⟩
 own mk Z w b h hb:=by obtain⟨b0,n,p,v,h1,h2,h3,h4,h5,h6,h7⟩:=h;obtain⟨j,hj⟩:=hb;obtain⟨_,cur,u,fr,e⟩:=h6 j _ hj;exact⟨_,e,rfl⟩
 keep mk Z Z' w w' h hZ hw:=by
  obtain⟨b0,n,p,v,h1,h2,h3,h4,h5,h6,h7⟩:=h;refine⟨b0,n,p,v,h1,(hw b0 ⟨0,h1⟩).1.trans h2,zzh h3 h2 (hw b0 ⟨0,h1⟩).1 λg hg=>?_,h4,h5,λj loc e=>?_,λa x ha j e=>?_⟩
  .obtain⟨j,hj⟩:=h4 g hg;exact(hw g ⟨_,hj⟩).1
  .obtain⟨e1,cur,u,fr,e2⟩:=h6 j loc e
   have:loc=(loc.1,1):=by rw[<- e1]
   exact⟨e1,cur,u,fr,(hw loc.1 ⟨j,by rw[e,<- this]⟩).1.trans e2⟩
  .exact h7 a x ((hw a.block ⟨j,e⟩).2 a x ha rfl) j e
def sb(T:Nat)(s:aj):EV.Obj:=.gen (sbG T s)
def PE{T:Nat}{s:aj}{k:Nat}{m:M}{Z:ZM}{w:bF}(hs:w8 m Z [(k,sb T s)] w):∃b,m k 0=aY (b,1)/\Lib.IsBuilderF T 5 0 b (Lib.byteCells s) w:=by obtain⟨b,n,p,v,h1,h2,h3,_⟩:=hs.holds _ (b_.2 rfl);exact⟨b,h1,h3⟩
def zut{T:Nat}{s s':aj}{k b:Nat}{m:M}{Z:ZM}{w w':bF}(hs:w8 m Z [(k,sb T s)] w)(hb:m k 0=aY (b,1))(h:Lib.IsBuilderF T 5 0 b (Lib.byteCells s') w')(ht:YE b w w'):
  ∃m',Step m Z [(k,sb T s)] w m' Z [(k,sb T s')] w':=by
 obtain⟨b0,n,p0,v0,h1,h2,h3,h4,h5,h6,h7⟩:=hs.holds _ (b_.2 rfl);rw[h1]at hb;cases hb;obtain⟨p,v,ajx,p',v',t1,t2,t3,t4,t5,t6,t7,t8,t9⟩:=ht;rw[t1]at h2;cases h2
 have ib:∀{a x},Z a=aY x->a.block<w.heap.size:=λha=>xv hs.frozen ha
 have old:∀k',k'<w.heap.size->(∀j,m k j≠aY (k',1))->w'.heap[k']?=w.heap[k']?:=λk' hk hn=>t7 k' hk (λe=>hn 0 (e▸h1)) λe=>by obtain⟨j,hj⟩:=h4 k' e;exact hn _ hj
 let m':M:=λk' L=>if k'=k/\L=n+1 then v'.ownBlock.map λg=>(g,1)else m k' L
 have pR:∀L,L≠n+1->m' k L=m k L:=λL hL=>by simp[m',hL]
 have LA:m' k (n+1)=v'.ownBlock.map λg=>(g,1):=by simp[m']
 have UT:∀k',k'≠k->m' k'=m k':=λk' hk=>by funext L;simp[m',hk]
 have mN:m k (n+1)=bg:=h5 _ (Nat.lt_succ_self n);have aek:(0:Nat)≠n+1:=ab
 have ny:∀g,v'.ownBlock=aY g->∃cur u fr,w'.heap[g]?=aY (.cells cur u fr):=λg hg=>by
  have:∀q,Lib.BuilderAtF T 5 0 b q (Lib.byteCells s') w'->∃cur u fr,w'.heap[g]?=aY (.cells cur u fr):=λq ⟨_,v2,e1,e2,_⟩=>by
   rw[t2]at e1;cases e1
   rcases e2.2 with⟨rfl,_⟩|⟨g2,cap,cur,fz,rfl,_,e3,_⟩
   .cases hg
   .simp only[Value.ownBlock,Option.some.injEq]at hg;subst hg;exact⟨_,_,_,e3⟩
  exact h.elim (this _) (this _)
 have Gk:∀j loc,m' k j=aY loc->loc.2=1/\∃cur u fr,w'.heap[loc.1]?=aY (.cells cur u fr):=λj loc e=>by
  by_cases hj:j=n+1
  .subst hj;rw[LA]at e;obtain⟨g,hg,rfl⟩:=ca.1 e;exact⟨rfl,ny g hg⟩
  .rw[pR j hj]at e;obtain⟨e1,cur,u,fr,e2⟩:=h6 j loc e;refine⟨e1,?_⟩;by_cases hb:loc.1=b
   .rw[hb];exact⟨_,_,_,t2⟩
   .by_cases sB:v0.ownBlock=aY loc.1
    .exact t9 _ sB hb
    .rw[t7 loc.1 (Array.getElem?_eq_some_iff.1 e2).1 hb sB];exact⟨_,_,_,e2⟩
 have hz:∀a x,Z a=aY x->∀j,m' k j≠aY (a.block,1):=λa x ha j e=>by
  by_cases hj:j=n+1
  .subst hj;rw[LA]at e;obtain⟨g,hg,e2⟩:=ca.1 e;simp only[Prod.mk.injEq,and_true]at e2;subst e2
   rcases t8 _ hg with h9|h9
   .have:=ib ha;omega
   .obtain⟨j,hj⟩:=h4 _ h9;exact h7 a x ha _ hj
  .rw[pR j hj]at e;exact h7 a x ha j e
 have nW:∀a x,Z a=aY x->w'.cell? a=aY x:=λa x ha=>by
  have h8:=hs.frozen a x ha
  have h9:=old a.block (ib ha) λj=>h7 a x ha j
  simpa only[World.cell?,h9]using h8
 refine⟨m',⟨nW,λq hq=>?_,hs.nodup,λq hq r hr c _ _=>?_⟩,λk' L loc e=>?_,λ_ _ e=>e,t3,t4,t5,t6,λc hc hn=>?_,λ_ h=>h,λk' hk=>?_,λq hq c hc=>?_,λ_ _ e=>.inl e⟩
 .cases b_.1 hq;refine⟨b,n+1,p',v',(pR 0 aek).trans h1,t2,h,λg hg=>⟨n,by rw[LA,hg];rfl⟩,λj hj=>?_,Gk,hz⟩;rw[pR j ab];exact h5 j ab
 .cases b_.1 hq;cases b_.1 hr;rfl
 .by_cases hk:k'=k
  .subst hk;by_cases hL:L=n+1
   .subst hL;rw[mN]at e;cases e
   .rw[pR L hL];exact e
  .rw[UT k' hk];exact e
 .exact old c hc λj e=>hn _ (b_.2 rfl) ⟨j,e⟩
 .have:k'≠k:=λe=>hk (by subst e;exact b_.2 rfl)
  exact UT k' this
 .cases b_.1 hq;obtain⟨j,e⟩:=hc;by_cases hj:j=n+1
  .subst hj;rw[LA]at e;obtain⟨g,hg,e2⟩:=ca.1 e;simp only[Prod.mk.injEq,and_true]at e2;subst e2
   rcases t8 _ hg with h9|h9
   .exact .inl h9
   .obtain⟨j,hj⟩:=h4 _ h9;exact .inr ⟨_,b_.2 rfl,_,hj⟩
  .rw[pR j hj]at e;exact .inr ⟨_,b_.2 rfl,j,e⟩
def strCells_eq(t:aj):Lib.strCells ⟨t.toArray⟩=Lib.byteCells t:=by simp[Lib.strCells,Lib.byteCells]
def zez(a b:aj):Lib.byteCells (a++b)=Lib.byteCells a++Lib.byteCells b:=by simp[Lib.byteCells]
def size_mk(t:aj):(⟨t.toArray⟩:ByteArray).size=t.length:=by show t.toArray.size=_;simp
def P4{m:M}{Z:ZM}{k:Nat}{vs:List V}{vals:List bx}{b:Nat}(hb:m k 0=aY (b,1))(h:zC (aY m) Z (.ptr k 0 0::vs) vals):∃r,vals=.pointer (aY ⟨b,0,bg⟩)::r/\zC (aY m) Z vs r:=by obtain⟨x,xs,rfl,⟨f,loc,e1,e2,rfl⟩,h2⟩:=h;cases e1;rw[hb]at e2;cases e2;exact⟨xs,rfl,h2⟩
def zEe{T:Nat}(hT:Ih T)(k:Nat)(s t:aj)(hl:s.length+t.length<=140737488355328):mz bk 40 [.ptr k 0 0,.str t] [(k,sb T s)] (.iN [.int .i64 (t.length:Nat),.nM]) [(k,sb T (s++t))]:=by intro w m Z vals hs hv _;obtain⟨b,h1,h2⟩:=PE hs;obtain⟨r,rfl,h3⟩:=P4 h1 hv;obtain⟨x,xs,rfl,rfl,h4⟩:=h3;cases h4;refine Calls.mono (zCl hT b _ ⟨t.toArray⟩ w h2 (by rw[Lib.byteCells_length,size_mk];exact hl)).1 ?_;rintro en w' ⟨rfl,h5,h6⟩;rw[strCells_eq,<- zez]at h5;obtain⟨m',st⟩:=zut hs h1 h5 h6;exact⟨_,m',Z,rfl,st,_,rfl,_,_,rfl,by rw[size_mk];rfl,_,_,rfl,rfl,rfl⟩
def zqo{T:Nat}(k:Nat)(s:aj):mz bk 42 [.ptr k 0 0] [(k,sb T s)] (.str s) [(k,sb T s)]:=by intro w m Z vals hs hv _;obtain⟨b,h1,h2⟩:=PE hs;obtain⟨r,rfl,h3⟩:=P4 h1 hv;cases h3;refine Calls.mono (zpr b s w h2) ?_;rintro en w' ⟨rfl,h5,h6⟩;obtain⟨m',st⟩:=zut hs h1 h5 h6;exact⟨_,m',Z,rfl,st,rfl⟩
def zEf{T:Nat}(k:Nat)(s:aj):mz bk 41 [.ptr k 0 0] [(k,sb T s)] (.int .i64 (s.length:Nat)) [(k,sb T s)]:=by intro w m Z vals hs hv _;obtain⟨b,h1,h2⟩:=PE hs;obtain⟨r,rfl,h3⟩:=P4 h1 hv;cases h3;refine Calls.mono (zCm b _ w h2) ?_;rintro en w' ⟨rfl,rfl⟩;exact⟨_,m,Z,rfl,Step.refl hs,by rw[Lib.byteCells_length];rfl⟩
def Xa{T k:Nat}{m:M}{Z:ZM}{w:bF}(h:Holds m Z w k (.box T [.mx,.gg])):Holds m Z w k (sb T [])/\∀b,gM m (k,sb T []) b->gM m (k,.box T [.mx,.gg]) b:=by
 obtain⟨b,cur,h1,h2,h3,h4,h5⟩:=h;obtain⟨x,xs,e1,hx,y,ys,e2,hy,e3⟩:=h3;subst e3;subst e2;have hx:x=.pointer bg:=hx;have hy:y=.slice bg 0 0:=hy;subst hx;subst hy
 have hc:cur=#[.pointer bg,.slice bg 0 0]:=by apply Array.ext';rw[e1]
 subst hc
 have only:∀j loc,m k j=aY loc->j=0/\loc=(b,1):=λj loc e=>by have h6:=h5 j loc e;have h7:j=0:=Nat.le_zero.1 h6;subst h7;rw[h1]at e;exact⟨rfl,(Option.some.inj e).symm⟩
 refine⟨⟨b,0,_,_,h1,h2,.inl ⟨cH _,_,h2,World.ownsRowF_nil _ _ _ _,by simp[Value.ownBlock]⟩,λg hg=>(by cases hg),λj hj=>?_,λj loc e=>?_,λa x ha j e=>?_⟩,λc hc=>?_⟩
 .cases e:m k j with
  |none=>rfl
  |some loc=>have:=(only j loc e).1;omega
 .obtain⟨_,rfl⟩:=only j loc e;exact⟨rfl,_,_,_,h2⟩
 .have:=(only j _ e).2;simp only[Prod.mk.injEq,and_true]at this;exact h4 a x ha this
 .obtain⟨j,e⟩:=hc;obtain⟨_,e2⟩:=only j _ e;simp only[Prod.mk.injEq,and_true]at e2;subst e2;simp[gM,oi,Obj.ver,h1]
end Go.Proofs.YtogbenbghgjbiaaGreatDoor
namespace Go.Proofs
open Go.Shelf
def Tryz.aju:Go.Shelf.Ren:=⟨λ|171=>131|243=>216|246=>254|283=>272|284=>273|285=>274|286=>275|129=>287|317=>292|318=>293|319=>294|320=>295|337=>301|338=>302|n=>n,λ|3=>3|9=>9|2=>2|4=>4|171=>356|0=>0|53=>357|37=>106|5=>5|173=>360|212=>377|51=>322|20=>20|213=>378|46=>331|232=>388|233=>389|n=>n,λ|17=>6|18=>7|19=>8|n=>n⟩
def Tryz.ajn:Go.Proofs.LaysM.n171 bk Tryz.aju:={
 mixed:=by kernel_rfl
 f129:=Tryz.func287.trans (aP aY (by kernel_rfl))
 f171:=Tryz.func131.trans (aP aY (by kernel_rfl))
 f243:=Tryz.func216.trans (aP aY (by kernel_rfl))
 f246:=Tryz.func254.trans (aP aY (by kernel_rfl))
 f283:=Tryz.func272.trans (aP aY (by kernel_rfl))
 f284:=Tryz.func273.trans (aP aY (by kernel_rfl))
 f285:=Tryz.func274.trans (aP aY (by kernel_rfl))
 f286:=Tryz.func275.trans (aP aY (by kernel_rfl))
 f317:=Tryz.func292.trans (aP aY (by kernel_rfl))
 f318:=Tryz.func293.trans (aP aY (by kernel_rfl))
 f319:=Tryz.func294.trans (aP aY (by kernel_rfl))
 f320:=Tryz.func295.trans (aP aY (by kernel_rfl))
 f337:=Tryz.func301.trans (aP aY (by kernel_rfl))
 f338:=Tryz.func302.trans (aP aY (by kernel_rfl))
 t0:=eX
 a0:=Tryz.isAgg0
 z0:=Tryz.sizeOf0
 v0:=Tryz.zeroValue0
 t2:=Tryz.underlying2
 a2:=Tryz.isAgg2
 z2:=Tryz.sizeOf2
 v2:=Tryz.zeroValue2
 t3:=dR
 a3:=Tryz.isAgg3
 z3:=Tryz.sizeOf3
 v3:=Tryz.zeroValue3
 t4:=dU
 a4:=Tryz.isAgg4
 z4:=Tryz.sizeOf4
 v4:=Tryz.zeroValue4
 t5:=eF
 a5:=Tryz.isAgg5
 z5:=Tryz.sizeOf5
 v5:=Tryz.zeroValue5
 t9:=dc
 a9:=Tryz.isAgg9
 z9:=Tryz.sizeOf9
 v9:=Tryz.zeroValue9
 t20:=iG
 a20:=Tryz.isAgg20
 z20:=Tryz.sizeOf20
 v20:=Tryz.zeroValue20
 t37:=ei
 a37:=Tryz.isAgg106
 z37:=Tryz.sizeOf106
 v37:=Tryz.zeroValue106
 t46:=fj
 a46:=Tryz.isAgg331
 z46:=Tryz.sizeOf331
 v46:=Tryz.zeroValue331
 t51:=fi
 a51:=Tryz.isAgg322
 z51:=Tryz.sizeOf322
 v51:=Tryz.zeroValue322
 t53:=Tryz.underlying357
 a53:=Tryz.isAgg357
 z53:=Tryz.sizeOf357
 v53:=Tryz.zeroValue357
 t171:=Tryz.underlying356
 a171:=Tryz.isAgg356
 z171:=Tryz.sizeOf356
 v171:=Tryz.zeroValue356
 t173:=Tryz.underlying360
 a173:=Tryz.isAgg360
 z173:=Tryz.sizeOf360
 v173:=Tryz.zeroValue360
 t212:=Tryz.underlying377
 a212:=Tryz.isAgg377
 z212:=Tryz.sizeOf377
 v212:=Tryz.zeroValue377
 t213:=Tryz.underlying378
 a213:=Tryz.isAgg378
 z213:=Tryz.sizeOf378
 t232:=Tryz.underlying388
 a232:=Tryz.isAgg388
 z232:=Tryz.sizeOf388
 v232:=Tryz.zeroValue388
 t233:=Tryz.underlying389
 a233:=Tryz.isAgg389
 z233:=Tryz.sizeOf389
 v233:=Tryz.zeroValue389
 g17:=by kernel_rfl
 g18:=by kernel_rfl
 g19:=by kernel_rfl
 i0:=by kernel_rfl
 i2:=by kernel_rfl
 i3:=by kernel_rfl
 i4:=by kernel_rfl
 i5:=by kernel_rfl
 i9:=by kernel_rfl
 i20:=by kernel_rfl
 i37:=by kernel_rfl
 i46:=by kernel_rfl
 i51:=by kernel_rfl
 i53:=by kernel_rfl
 i171:=by kernel_rfl
 i173:=by kernel_rfl
 i212:=by kernel_rfl
 i232:=by kernel_rfl
 i233:=by kernel_rfl
 m17:=by kernel_rfl
 m18:=by kernel_rfl
 m19:=by kernel_rfl }
open Go.RowKit Go.Sort Go.Lib in
theorem Tryz.strconv_Itoa (n : Int) (h0 : -9223372036854775808 <= n) (h1 : n <= 9223372036854775807) (w : bF) (Tc : Lib.TabIs bk w "internal/strconv.uint64pow10" .u64 Lib.pow10Tab):
  Calls bk 131 #[.int .i64 n] w λe w'=>e=.returned (.string ⟨(Lib.itoa n).toArray⟩)/\∃k os,w'=grow (w.drewN k) os:=Any.strconv_Itoa Tryz.ajn n h0 h1 w Tc
def Tryz.ajs:Go.Shelf.Ren:=⟨λ|144=>165|143=>214|219=>252|217=>268|225=>269|224=>270|267=>271|266=>290|314=>291|n=>n,λ|9=>9|4=>4|3=>3|5=>5|46=>331|146=>370|51=>322|n=>n,λ|1=>3|n=>n⟩
def Tryz.ajk:Go.Proofs.Lays.n144 bk Tryz.ajs:={
 mixed:=by kernel_rfl
 f143:=Tryz.func214.trans (aP aY (by kernel_rfl))
 f144:=Tryz.func165.trans (aP aY (by kernel_rfl))
 f217:=Tryz.func268.trans (aP aY (by kernel_rfl))
 f219:=Tryz.func252.trans (aP aY (by kernel_rfl))
 f224:=Tryz.func270.trans (aP aY (by kernel_rfl))
 f225:=Tryz.func269.trans (aP aY (by kernel_rfl))
 f266:=Tryz.func290.trans (aP aY (by kernel_rfl))
 f267:=Tryz.func271.trans (aP aY (by kernel_rfl))
 f314:=Tryz.func291.trans (aP aY (by kernel_rfl))
 t3:=dR
 a3:=Tryz.isAgg3
 z3:=Tryz.sizeOf3
 v3:=Tryz.zeroValue3
 t4:=dU
 a4:=Tryz.isAgg4
 z4:=Tryz.sizeOf4
 v4:=Tryz.zeroValue4
 t5:=eF
 a5:=Tryz.isAgg5
 z5:=Tryz.sizeOf5
 v5:=Tryz.zeroValue5
 t9:=dc
 a9:=Tryz.isAgg9
 z9:=Tryz.sizeOf9
 v9:=Tryz.zeroValue9
 t46:=fj
 a46:=Tryz.isAgg331
 z46:=Tryz.sizeOf331
 v46:=Tryz.zeroValue331
 t51:=fi
 a51:=Tryz.isAgg322
 z51:=Tryz.sizeOf322
 v51:=Tryz.zeroValue322
 t146:=iv
 a146:=Tryz.isAgg370
 z146:=Tryz.sizeOf370
 v146:=Tryz.zeroValue370
 g1:=by kernel_rfl }
open Go.RowKit Go.Lib in
theorem Tryz.strings_Contains(s sub:ByteArray)(m:Int)(w:bF)(hs:s.size<4294967281)(hm:w.cell? ⟨3,0,bg⟩=aY (.int .i64 m)):
  Calls bk 165 #[.string s,.string sub] w λe w'=>e=.returned (.bool (Lib.contains s.data.toList sub.data.toList))/\w'=w:=Any.strings_Contains Tryz.ajk s sub m w hs hm
def Tryz.ajr:Go.Shelf.Ren:=⟨λ|99=>189|206=>235|n=>n,λ|9=>9|4=>4|3=>3|n=>n,λ|n=>n⟩
def Tryz.ajc:Go.Proofs.Lays.n99 bk Tryz.ajr:={
 mixed:=by kernel_rfl
 f99:=Tryz.func189.trans (aP aY (by kernel_rfl))
 f206:=Tryz.func235.trans (aP aY (by kernel_rfl))
 t3:=dR
 a3:=Tryz.isAgg3
 z3:=Tryz.sizeOf3
 v3:=Tryz.zeroValue3
 t4:=dU
 a4:=Tryz.isAgg4
 z4:=Tryz.sizeOf4
 v4:=Tryz.zeroValue4
 t9:=dc
 a9:=Tryz.isAgg9
 z9:=Tryz.sizeOf9
 v9:=Tryz.zeroValue9 }
open Go.RowKit Go.Lib in
theorem Tryz.strings_HasPrefix(s p:ByteArray)(w:bF):
  Calls bk 189 #[.string s,.string p] w λe w'=>e=.returned (.bool (Lib.hasPrefix s.data.toList p.data.toList))/\w'=w:=Any.strings_HasPrefix Tryz.ajc s p w
def Tryz.abo:Go.Shelf.Ren:=⟨λ|154=>130|138=>212|165=>213|143=>214|166=>40|197=>215|169=>42|195=>249|218=>250|240=>132|241=>251|219=>252|260=>253|276=>217|277=>267|217=>268|225=>269|224=>270|267=>271|266=>290|314=>291|n=>n,λ|9=>9|3=>3|4=>4|72=>108|0=>0|76=>115|105=>297|21=>21|5=>5|70=>105|20=>20|37=>106|75=>114|127=>229|164=>299|46=>331|119=>293|139=>355|138=>354|146=>370|51=>322|80=>118|n=>n,λ|1=>3|3=>4|4=>5|n=>n⟩
def Tryz.ajl:Go.Proofs.Lays.n154 bk Tryz.abo:={
 mixed:=by kernel_rfl
 f138:=Tryz.func212.trans (aP aY (by kernel_rfl))
 f143:=Tryz.func214.trans (aP aY (by kernel_rfl))
 f154:=Tryz.func130.trans (aP aY (by kernel_rfl))
 f165:=Tryz.func213.trans (aP aY (by kernel_rfl))
 f166:=Tryz.func40.trans (aP aY (by kernel_rfl))
 f169:=Tryz.func42.trans (aP aY (by kernel_rfl))
 f195:=Tryz.func249.trans (aP aY (by kernel_rfl))
 f197:=Tryz.func215.trans (aP aY (by kernel_rfl))
 f217:=Tryz.func268.trans (aP aY (by kernel_rfl))
 f218:=Tryz.func250.trans (aP aY (by kernel_rfl))
 f219:=Tryz.func252.trans (aP aY (by kernel_rfl))
 f224:=Tryz.func270.trans (aP aY (by kernel_rfl))
 f225:=Tryz.func269.trans (aP aY (by kernel_rfl))
 f240:=Tryz.func132.trans (aP aY (by kernel_rfl))
 f241:=Tryz.func251.trans (aP aY (by kernel_rfl))
 f260:=Tryz.func253.trans (aP aY (by kernel_rfl))
 f266:=Tryz.func290.trans (aP aY (by kernel_rfl))
 f267:=Tryz.func271.trans (aP aY (by kernel_rfl))
 f276:=Tryz.func217.trans (aP aY (by kernel_rfl))
 f277:=Tryz.func267.trans (aP aY (by kernel_rfl))
 f314:=Tryz.func291.trans (aP aY (by kernel_rfl))
 t0:=eX
 a0:=Tryz.isAgg0
 z0:=Tryz.sizeOf0
 v0:=Tryz.zeroValue0
 t3:=dR
 a3:=Tryz.isAgg3
 z3:=Tryz.sizeOf3
 v3:=Tryz.zeroValue3
 t4:=dU
 a4:=Tryz.isAgg4
 z4:=Tryz.sizeOf4
 v4:=Tryz.zeroValue4
 t5:=eF
 a5:=Tryz.isAgg5
 z5:=Tryz.sizeOf5
 v5:=Tryz.zeroValue5
 t9:=dc
 a9:=Tryz.isAgg9
 z9:=Tryz.sizeOf9
 v9:=Tryz.zeroValue9
 t20:=iG
 a20:=Tryz.isAgg20
 z20:=Tryz.sizeOf20
 v20:=Tryz.zeroValue20
 t21:=Tryz.underlying21
 a21:=Tryz.isAgg21
 z21:=Tryz.sizeOf21
 v21:=Tryz.zeroValue21
 t37:=ei
 a37:=Tryz.isAgg106
 z37:=Tryz.sizeOf106
 v37:=Tryz.zeroValue106
 t46:=fj
 a46:=Tryz.isAgg331
 z46:=Tryz.sizeOf331
 v46:=Tryz.zeroValue331
 t51:=fi
 a51:=Tryz.isAgg322
 z51:=Tryz.sizeOf322
 v51:=Tryz.zeroValue322
 t70:=Tryz.underlying105
 a70:=Tryz.isAgg105
 z70:=Tryz.sizeOf105
 v70:=Tryz.zeroValue105
 t72:=Tryz.underlying108
 a72:=Tryz.isAgg108
 z72:=Tryz.sizeOf108
 v72:=Tryz.zeroValue108
 t75:=Tryz.underlying114
 a75:=Tryz.isAgg114
 z75:=Tryz.sizeOf114
 v75:=Tryz.zeroValue114
 t76:=Tryz.underlying115
 a76:=Tryz.isAgg115
 z76:=Tryz.sizeOf115
 v76:=Tryz.zeroValue115
 t105:=Tryz.underlying297
 a105:=Tryz.isAgg297
 z105:=Tryz.sizeOf297
 v105:=Tryz.zeroValue297
 t119:=Tryz.underlying293
 a119:=Tryz.isAgg293
 z119:=Tryz.sizeOf293
 t127:=Tryz.underlying229
 a127:=Tryz.isAgg229
 z127:=Tryz.sizeOf229
 v127:=Tryz.zeroValue229
 t138:=Tryz.underlying354
 a138:=Tryz.isAgg354
 z138:=Tryz.sizeOf354
 v138:=Tryz.zeroValue354
 t139:=Tryz.underlying355
 a139:=Tryz.isAgg355
 z139:=Tryz.sizeOf355
 v139:=Tryz.zeroValue355
 t146:=iv
 a146:=Tryz.isAgg370
 z146:=Tryz.sizeOf370
 v146:=Tryz.zeroValue370
 t164:=Tryz.underlying299
 a164:=Tryz.isAgg299
 z164:=Tryz.sizeOf299
 v164:=Tryz.zeroValue299
 g1:=by kernel_rfl
 g3:=by kernel_rfl
 g4:=by kernel_rfl }
def Tryz.ajv:Builder.Extra bk Tryz.abo:={
 sizeBuilder:=by kernel_rfl
 liesBuilder:=by kernel_rfl
 t5:=eF
 a5:=Tryz.isAgg5
 z5:=Tryz.sizeOf5
 v5:=Tryz.zeroValue5
 infoByte:=by kernel_rfl
 cellsByte:=by kernel_rfl
 sizeByte:=by kernel_rfl
 neB5:=by decide }
open Go.RowKit Go.Lib in
theorem Tryz.strings_Replace(s old new:ByteArray)(n:Int)(m:Int)(w:bF)(hs:s.size<4294967281)(hm:w.cell? ⟨3,0,bg⟩=aY (.int .i64 m))(h1:1<=old.size)(hlen:s.size+Lib.countB s old*new.size<=140737488355328):
  Calls bk 130 #[.string s,.string old,.string new,.int .i64 n] w λe w' =>
   e=.returned (.string ⟨(Lib.replace s.data.toList old.data.toList new.data.toList n).toArray⟩)/\Below w.heap.size w w':=Any.strings_Replace Tryz.ajl Tryz.ajv s old new n m w hs hm h1 hlen
end Go.Proofs
set_option maxRecDepth 100000
namespace Go.Proofs.YtogbenbghgjbiaaGreatDoor
open Go Go.RowKit Go.lG Go.EV Go.EQ
def FT:List aj:=[[60,61],[61,61],[59],[44],[58],[61],[60],[43],[45],[42],[47],[37],[40],[41]]
def Li(ob:Go.Obj):EV.Obj:=.n_ 0 ob (FT.map V.str)
def Lj(ob:Go.Obj):EV.Obj:=.n_ 1 ob (Lib.asciiSpaceTab.map (V.int .u8))
def E2(ob:Go.Obj)(m:Int):EV.Obj:=.n_ 3 ob [.int .i64 m]
def GJ(ob:Go.Obj):EV.Obj:=.n_ 6 ob (Lib.pow10Tab.map (V.int .u64))
class KY where
 tl:Go.Obj
 Eh:Go.Obj
 Ei:Go.Obj
 m2:Int
 CW:Go.Obj
variable[KY]
def gl:aw:=[(900000000,Li KY.tl),(900000001,Lj KY.Eh),(900000002,E2 KY.Ei KY.m2),(900000003,GJ KY.CW)]
def Yh{α:Type}{f:α->V}(h:∀a,(f a).bare=bh):∀l:List α,Qb (l.map f)=bh
 |[]=>rfl
 |a::l=>by simp only[ij,Qb,h a,Yh h l,im]
def Lk:I2 gl=bh:=by have h0:=Yh (f:=V.str) (λ_=>rfl) FT;have h1:=Yh (f:=V.int .u8) (λ_=>rfl) Lib.asciiSpaceTab;have h3:=Yh (f:=V.int .u64) (λ_=>rfl) Lib.pow10Tab;simp only[I2,gl,dA,List.all_nil,Li,Lj,E2,GJ,h0,h1,h3];rfl
def zn9{α:Type}{enc:α->V}{f:α->bx}{m:Option M}{Z:ZM}(h:∀a x,aT m Z (enc a) x->x=f a):∀{l:List α}{xs:List bx},zC m Z (l.map enc) xs->xs=l.map f
 |[],xs,hx=>hx
 |a::l,xs,hx=>by obtain⟨x,r,rfl,h1,h2⟩:=hx;rw[h a x h1,zn9 h h2];rfl
def bind_some{α β:Type}{o:Option α}{f:α->Option β}{r:β}(h:o.bind f=aY r):∃a,o=aY a/\f a=aY r:=dp.1 h
def zqp(w:bF)(k:Nat)(os:Array Go.Obj):Below w.heap.size w (Sort.grow (w.drewN k) os):=
 ⟨rfl,rfl,rfl,by show w.heap.size<=(w.heap++os).size;simp,λj hj=>by
  show(w.heap++os)[j]?=_
  rw[Array.getElem?_append_left hj]⟩
def Sb(n:Int):Option aj:=(bD (-9223372036854775808<=n/\n<=9223372036854775807)).bind λ_=>aY (Lib.itoa n)
def zIe(n:Int)(r:aj)(hs:Sb n=aY r):mz bk 131 [.int .i64 n] gl (.str r) gl:=by
 unfold Sb at hs;obtain⟨_,h,hs⟩:=bind_some hs;obtain⟨h0,h1⟩:=yY h;obtain rfl:=Option.some.inj hs
 refine Yb Lk rfl λw Z vals hf hg hv=>?_
 obtain⟨x,xs,rfl,e1,e2⟩:=hv;cases e2;cases e1;obtain⟨cur,u,fr,g1,g2⟩:=hg (900000003,GJ KY.CW) (by simp[gl]) 6 _ _ rfl;have hc:cur.toList=Lib.pow10Tab.map (Value.int .u64):=zn9 (enc:=V.int .u64) (f:=Value.int .u64) (λa x h=>h) g2
 have Tc : Lib.TabIs bk w "internal/strconv.uint64pow10" .u64 Lib.pow10Tab := by
  unfold Lib.TabIs World.var?
  rw [show Tryz.prog.globalNamed "internal/strconv.uint64pow10" = aY 6 by kernel_rfl]
  simp only[aC,g1];rw[<- hc]
 refine Calls.mono (Tryz.strconv_Itoa n h0 h1 w Tc) ?_;rintro e w' ⟨rfl,k,os,rfl⟩;exact⟨_,rfl,λ_=>rfl,zqp w k os⟩
def HQ:aj->aj->Bool
 |[],sub=>sub.isEmpty
 | b::l,sub=>sub.isPrefixOf (b::l)||HQ l sub
def zhr:∀s sub:aj,Lib.contains s sub=HQ s sub
 |[],sub=>by
  unfold Lib.contains Lib.index HQ;cases sub<;>rfl
 |b::l,sub=>by
  have ih:=zhr l sub;have hg:=Lib.index_ge l sub;unfold Lib.contains at ih ⊢
  have EH:Lib.index (b::l) sub=if sub.isPrefixOf (b::l)then 0 else if Lib.index l sub==-1 then -1 else Lib.index l sub+1:=by rw[Lib.index]
  unfold HQ;rw[<- ih,EH]
  cases sub.isPrefixOf (b::l)with
  |true=>simp
  |false =>
   simp only[cI,if_false,Bool.false_or];by_cases h:Lib.index l sub=-1
   .simp[h]
   .have h2:(Lib.index l sub==-1)=bf:=by simpa using h
    simp only[h2,cI,if_false];simp only[decide_eq_decide];constructor<;>intro h3<;>omega
def JV(s sub:aj):Option Bool:=(bD (ba s<4294967281)).bind λ_=>aY (HQ s sub)
def zuv{s:aj}{n:Nat}(h:s.length<n):(⟨s.toArray⟩:ByteArray).size<n:=by rw[size_mk];exact h
def zqq(s sub:aj)(r:Bool)(hs:JV s sub=aY r):mz bk 165 [.str s,.str sub] gl (.bool r) gl:=by
 unfold JV at hs;obtain⟨_,h,hs⟩:=bind_some hs;have h0:=yY h;obtain rfl:=Option.some.inj hs
 refine Yb Lk rfl λw Z vals hf hg hv=>?_
 obtain⟨x,xs,rfl,e1,x2,VQ,rfl,e2,e3⟩:=hv;cases e3;cases e1;cases e2;obtain⟨cur,u,fr,g1,g2⟩:=hg (900000002,E2 KY.Ei KY.m2) (by simp[gl]) 3 _ _ rfl;obtain⟨y,ys,g3,rfl,rfl⟩:=g2
 have hm:w.cell? ⟨3,0,bg⟩=aY (.int .i64 KY.m2):=by rw[cell_of_row w 3 0 cur u fr g1,<- Array.getElem?_toList,g3];rfl
 refine Calls.mono (Tryz.strings_Contains ⟨s.toArray⟩ ⟨sub.toArray⟩ KY.m2 w (zuv h0) hm) ?_;rintro e w' ⟨rfl,rfl⟩;exact⟨_,rfl,λ_=>by rw[<- zhr];rfl,Below.refl _ _⟩
def Y7(s p:aj):Option Bool:=aY (p.isPrefixOf s)
def zlj(s p:aj)(r:Bool)(hs:Y7 s p=aY r):mz bk 189 [.str s,.str p] [] (.bool r) []:=by
 obtain rfl:=Option.some.inj hs
 refine Yb rfl rfl λw Z vals hf hg hv=>?_
 obtain⟨x,xs,rfl,e1,x2,VQ,rfl,e2,e3⟩:=hv;cases e3;cases e1;cases e2;refine Calls.mono (Tryz.strings_HasPrefix ⟨s.toArray⟩ ⟨p.toArray⟩ w) ?_;rintro e w' ⟨rfl,rfl⟩;exact⟨_,rfl,λ_=>rfl,Below.refl _ _⟩
end Go.Proofs.YtogbenbghgjbiaaGreatDoor
namespace Go.EV
open Go Go.ChangeShapes Go.WideShapes Go.ChangeAt Go.RowKit Go.Deep Go.Joins Go.lG
def IJ(P:bo):List Field->Nat->Option Nat
 |[],off=>aY off
 |f::r,off=>if bm f.offset off then IJ P r (off+P.cellsOf f.type)else bg
def Gb(P:bo)(t:bK):Bool:=match P.underlying t with
 |some (.struct fs)=>match IJ P fs.toList 0 with|some n=>bm n (P.cellsOf t)|none=>bf
 |some (.array m e)=>bm (m*P.cellsOf e) (P.cellsOf t)
 |_=>bh
def IK(P:bo)(t:bK):Bool:=match P.underlying t with
 |some (.struct fs)=>fs.toList.all λf=>cm (f.type+1) P.types.size
 |some (.array _ e)|some (.slice e)=>cm (e+1) P.types.size
 |_=>bh
def zIf(P:bo):Bool:=(List.range P.types.size).all λt=>Gb P t&&IK P t
def HR(P:bo)(t:bK):Bool:=match P.underlying t with
 |some .bool|some (.int _)|some .string|some (.slice _)|some (.struct _)|some (.array ..)=>bh
 |_=>bf
inductive zn(P:bo):bK->List V->Prop
 |bool {t:bK} {b:Bool} (h:P.underlying t=aY .bool):zn P t [.bool b]
 |int {t:bK} {k:IntKind} {n:Int} (h:P.underlying t=aY (.int k)) (hw:(Lit.int k n).wf=bh):zn P t [.int k n]
 |str {t:bK} {s:aj} (h:P.underlying t=aY .string) (hl:s.length<=maxLen):zn P t [.str s]
 |slice {t e:bK} {els:List (List V)} (h:P.underlying t=aY (.slice e)) (hl:els.length<=maxLen) (hx:∀x∈els,zn P e x):zn P t [.vs (P.cellsOf e) els]
 |struct {t:bK} {fs:Array Field} {cs:List V} (h:P.underlying t=aY (.struct fs)) (hc:cs.length=P.cellsOf t) (hx:∀f∈fs.toList,zn P f.type ((cs.drop f.offset).take (P.cellsOf f.type))):zn P t cs
 |array {t e:bK} {m:Nat} {cs:List V} (h:P.underlying t=aY (.array m e)) (hc:cs.length=P.cellsOf t) (hx:∀i,i<m->zn P e ((cs.drop (i*P.cellsOf e)).take (P.cellsOf e))):zn P t cs
 |other {t:bK} {cs:List V} (h:HR P t=bf):zn P t cs
def zoa{α:Type}[Inhabited α]{p:Nat->α->Prop}:∀n:Nat,(∀i,i<n->∃x,p i x)->∃l:List α,l.length=n/\∀i x,l[i]?=aY x->p i x
 |0,_=>⟨[],rfl,λi x h=>by simp at h⟩
 |n+1,h=>by
  obtain⟨l,hl,hp⟩:=zoa n (λi hi=>h i ab);obtain⟨x,hx⟩:=h n ab;refine⟨l++[x],by simp[hl],λi y hy=>?_⟩;rw[List.getElem?_append]at hy;split at hy
  .exact hp i y hy
  .rename_i ib
   have:i=n:=by have:=(bq.1 hy).1;simp at this;omega
   subst this;rw[hl,iJ]at hy;simp at hy;subst hy;exact hx
def Vi{Z:ZM}:∀cs:List bx,zC bg Z (cs.map λ_=>V.undef) cs
 |[]=>rfl
 |c::cs=>⟨c,cs,rfl,trivial,Vi cs⟩
def Y8{P:bo}{Z:ZM}(cs:List bx):∀(fs:List Field)(off n:Nat),IJ P fs off=aY n->n<=cs.length ->
  (∀f∈fs,∃vs,zn P f.type vs/\zC bg Z vs ((cs.drop f.offset).take (P.cellsOf f.type))) ->
  off<=n/\∃vs,vs.length=n-off/\zC bg Z vs ((cs.drop off).take (n-off))/\∀f∈fs,off<=f.offset/\zn P f.type ((vs.drop (f.offset-off)).take (P.cellsOf f.type))
 |[],off,n,h,hn,_=>by
  simp only[IJ,Option.some.injEq]at h;subst h;exact⟨al,[],ae,by simp[zC],λf hf=>by cases hf⟩
 |f::fs,off,n,h,hn,hx=>by
  simp only[IJ]at h;split at h
  .rename_i hb;have hb:=eb hb;obtain⟨h1,vs,h2,h3,h4⟩:=Y8 cs fs _ n h hn (λg hg=>hx g (iO _ hg));obtain⟨us,h5,h6⟩:=hx f ak;rw[hb]at h6
   have OX:us.length=P.cellsOf f.type:=by have:=h6.length;rw[bY,cF]at this;omega
   refine⟨ab,us++vs,by rw[la];omega,?_,λg hg=>?_⟩
   .have e:(cs.drop off).take (n-off)=(cs.drop off).take (P.cellsOf f.type)++(cs.drop (off+P.cellsOf f.type)).take (n-(off+P.cellsOf f.type)):=by rw[<- ej,show n-off=P.cellsOf f.type+(n-(off+P.cellsOf f.type)) by omega,ln]
    rw[e];exact h6.append h3
   .rcases bu.1 hg with rfl|hg
    .refine⟨ab,?_⟩;rw[hb,iJ,dW,<- OX,dz];exact h5
    .obtain⟨h7,h8⟩:=h4 g hg;refine⟨ab,?_⟩;rw[show g.offset-off=us.length+(g.offset-(off+P.cellsOf f.type)) by omega,fJ];rw[ea ab,cw,show us.length+(g.offset-(off+P.cellsOf f.type))-us.length=g.offset-(off+P.cellsOf f.type) by omega];exact h8
  .cases h
def ZU{P:bo}{Z:ZM}(cs:List bx)(e:bK):∀(m off:Nat),off+m*P.cellsOf e<=cs.length ->
  (∀i,i<m->∃vs,zn P e vs/\zC bg Z vs ((cs.drop (off+i*P.cellsOf e)).take (P.cellsOf e))) ->
  ∃vs,vs.length=m*P.cellsOf e/\zC bg Z vs ((cs.drop off).take (m*P.cellsOf e))/\∀i,i<m->zn P e ((vs.drop (i*P.cellsOf e)).take (P.cellsOf e))
 |0,off,hn,_=>⟨[],ae,by simp[zC],λi hi=>ab⟩
 |m+1,off,hn,hx=>by
  rw[dh]at hn
  obtain⟨vs,h2,h3,h4⟩:=ZU (P:=P) cs e m (off+P.cellsOf e) ab (λi hi=>by
   have:=hx (i+1) ab;rw[dh,show off+(i*P.cellsOf e+P.cellsOf e)=off+P.cellsOf e+i*P.cellsOf e by omega]at this
   exact this)
  obtain⟨us,h5,h6⟩:=hx 0 ab;rw[ee,Nat.add_zero]at h6
  have OX:us.length=P.cellsOf e:=by have:=h6.length;rw[bY,cF]at this;omega
  refine⟨us++vs,by rw[la,dh];omega,?_,λi hi=>?_⟩
  .have e1:(cs.drop off).take ((m+1)*P.cellsOf e)=(cs.drop off).take (P.cellsOf e)++(cs.drop (off+P.cellsOf e)).take (m*P.cellsOf e):=by rw[<- ej,dh,Nat.add_comm,ln]
   rw[e1];exact h6.append h3
  .cases i with
   |zero=>rw[ee,dW,<- OX,dz];exact h5
   |succ i =>
    have:=h4 i ab;rw[dh,show i*P.cellsOf e+P.cellsOf e=us.length+i*P.cellsOf e by omega,fJ];rw[ea ab,cw,show us.length+i*P.cellsOf e-us.length=i*P.cellsOf e by omega];exact this
section
variable{H:Type}{enc:bK×bx->H}{P:bo}{w:bF}{base:Nat}{spare:Nat->Bool}{held:Bool}
def MD(hP:∀t,t<P.types.size->Gb P t=bh/\IK P t=bh):∀(fuel:Nat)(t:bK)(cs:List bx)(x:DataW H×List MemPlace),t<P.types.size->DataW.trod enc P w base spare held fuel t cs=aY x->∃vs,zn P t vs/\zC bg w.cell? vs cs
 |0,t,cs,x,_,h=>by simp[DataW.trod]at h
 |fuel+1,t,cs,x,ib,h=>by
  obtain⟨aa',EP⟩:=hP t ib;unfold IK at EP
  cases ht:P.underlying t with
  |none=>exact⟨_,.other (by unfold HR;rw[ht]),Vi cs⟩
  |some d =>
   have ai_:HR P t=bf->∃vs,zn P t vs/\zC bg w.cell? vs cs:=λhp=>⟨_,.other hp,Vi cs⟩
   cases d with
   |bool =>
    obtain⟨b,rfl,_⟩:=DataW.trod_bool ht h;exact⟨[.bool b],.bool ht,_,_,rfl,rfl,rfl⟩
   |int k =>
    obtain⟨n,rfl,_,hw⟩:=DataW.trod_int ht h;exact⟨[.int k n],.int ht hw,_,_,rfl,rfl,rfl⟩
   |string =>
    obtain⟨s,rfl,_,hs⟩:=DataW.trod_string ht h;exact⟨[.str s.data.toList],.str ht (by simpa using hs),_,_,rfl,rfl,rfl⟩
   |slice e =>
    rcases DataW.trod_slice ht h with⟨rfl,_⟩|⟨a,len,cap,elems,rest,n,hn,rfl,_,_,hl,hm,hlen,Lu,_⟩
    .exact⟨[.vs (P.cellsOf e) []],.slice ht (cH _) (λ_ h=>by cases h),_,_,rfl,⟨bg,0,rfl,al,cH _,.inl rfl⟩,rfl⟩
    .have hn:n=fuel:=ab;subst hn
     obtain⟨els,he,hp⟩:=zoa (α:=List V) (p:=λi vs=>zn P e vs/\vs.length=P.cellsOf e/\qV w.cell? (a.add (i*P.cellsOf e)) 0 vs) len (λi hi=>by
      have h1:=Lu i hi;rw[bA ab]at h1;obtain⟨cs',h2,h3⟩:=dp.1 h1;obtain⟨_,h4,h5⟩:=World.cells?_some h2;rw[ht]at EP;obtain⟨vs,h6,h7⟩:=MD hP n e cs' _ (mi EP) h3;have h8:=h7.length;refine⟨vs,h6,ab,qV.po λj v hj=>?_⟩;obtain⟨u,h9,pW⟩:=h7.get hj;rw[cl,h5 j (by have:=(bq.1 hj).1;omega)]
      exact⟨u,h9,pW⟩)
     refine⟨[.vs (P.cellsOf e) els],.slice ht ab (λx hx=>?_),_,_,rfl,⟨aY a,cap,by rw[he],ab,hm,.inr ⟨a,rfl,xq.po λi cs' hi=>?_⟩⟩,rfl⟩
     .obtain⟨i,hi,rfl⟩:=dL hx;exact(hp i _ (bA hi)).1
     .obtain⟨_,h2,h3⟩:=hp i cs' hi;rw[cl];exact⟨h2,h3⟩
   |struct fs =>
    obtain⟨xs,n,hn,_,hc,hlen,hg⟩:=DataW.trod_struct ht h;have hn:n=fuel:=ab;subst hn;have pE:=aa';unfold Gb at pE;rw[ht]at pE EP;simp only at pE;split at pE
    .rename_i m hm;have pE:=eb pE
     obtain⟨_,vs,h2,h3,h4⟩:=Y8 (P:=P) (Z:=w.cell?) cs fs.toList 0 m hm ab (λf hf=>by
      obtain⟨i,hi,rfl⟩:=dL hf;have h1:=hg i _ (by rw[<- Array.getElem?_toList];exact bA hi);rw[bA (by rw[hlen];simpa using hi)]at h1
      exact MD hP n _ _ _ (mi ((bl.1 EP) _ (List.getElem_mem _))) h1)
     rw[dW,lq,du ab]at h3;exact⟨vs,.struct ht ab (λf hf=>by have:=(h4 f hf).2;rwa [lq]at this),h3⟩
    .cases pE
   |array m e =>
    obtain⟨xs,n,hn,_,hc,hlen,hg⟩:=DataW.trod_array ht h;have hn:n=fuel:=ab;subst hn;have pE:=aa';unfold Gb at pE;rw[ht]at pE EP;have pE:=eb pE
    obtain⟨vs,h2,h3,h4⟩:=ZU (P:=P) (Z:=w.cell?) cs e m 0 ab (λi hi=>by
     have h1:=hg i hi;rw[bA ab]at h1;rw[cl]
     exact MD hP n _ _ _ (mi EP) h1)
    rw[dW,du ab]at h3;exact⟨vs,.array ht ab h4,h3⟩
   |_=>exact ai_ (by unfold HR;rw[ht])
end
def zzi{P:bo}(h:zIf P=bh):∀t,t<P.types.size->Gb P t=bh/\IK P t=bh:=λt ht=>by
 have:=(bl.1 h) t (List.mem_range.2 ht)
 rwa [bn]at this
section
variable{P:bo}{t e m:Nat}{fs:Array Field}{cs:List V}{k:IntKind}
def zuw(ht:P.underlying t=aY .bool)(h:zn P t cs):∃b,cs=[.bool b]:=by
 cases h with
 |bool=>exact⟨_,rfl⟩
 |int h|str h|slice h|struct h|array h=>rw[ht]at h;cases h
 |other h=>unfold HR at h;rw[ht]at h;cases h
def zzj(ht:P.underlying t=aY (.int k))(h:zn P t cs):∃n,cs=[.int k n]/\(Lit.int k n).wf=bh:=by
 cases h with
 |int h hw=>rw[ht]at h;cases h;exact⟨_,rfl,hw⟩
 |bool h|str h|slice h|struct h|array h=>rw[ht]at h;cases h
 |other h=>unfold HR at h;rw[ht]at h;cases h
def zzk(ht:P.underlying t=aY .string)(h:zn P t cs):∃s,cs=[.str s]/\s.length<=maxLen:=by
 cases h with
 |str h hl=>exact⟨_,rfl,hl⟩
 |bool h|int h|slice h|struct h|array h=>rw[ht]at h;cases h
 |other h=>unfold HR at h;rw[ht]at h;cases h
def wO(ht:P.underlying t=aY (.slice e))(h:zn P t cs):∃els,cs=[.vs (P.cellsOf e) els]/\els.length<=maxLen/\∀x∈els,zn P e x:=by
 cases h with
 |slice h hl hx=>rw[ht]at h;cases h;exact⟨_,rfl,hl,hx⟩
 |bool h|int h|str h|struct h|array h=>rw[ht]at h;cases h
 |other h=>unfold HR at h;rw[ht]at h;cases h
def yK(ht:P.underlying t=aY (.struct fs))(h:zn P t cs):cs.length=P.cellsOf t/\∀f∈fs.toList,zn P f.type ((cs.drop f.offset).take (P.cellsOf f.type)):=by
 cases h with
 |struct h hc hx=>rw[ht]at h;cases h;exact⟨hc,hx⟩
 |bool h|int h|str h|slice h|array h=>rw[ht]at h;cases h
 |other h=>unfold HR at h;rw[ht]at h;cases h
def vg{α:Type}{enc:α->List V}{ok:α->Prop}(h1:∀c,zn P e c->∃a,c=enc a/\ok a):∀{els:List (List V)},(∀x∈els,zn P e x)->∃l:List α,els=l.map enc/\∀a∈l,ok a
 |[],_=>⟨[],rfl,λ_ h=>by cases h⟩
 |c::els,h=>by
  obtain⟨a,rfl,ha⟩:=h1 c (h c ak);obtain⟨l,rfl,hl⟩:=vg h1 (λx hx=>h x (iO _ hx))
  exact⟨a::l,rfl,λb hb=>by
   rcases bu.1 hb with rfl|hb
   .exact ha
   .exact hl b hb⟩
end
def ph(k:IntKind)(n:Int):Prop:=(Lit.int k n).wf=bh
def sZ(s:aj):Prop:=s.length<=maxLen
def Yi{α:Type}(ok:α->Prop)(l:List α):Prop:=l.length<=maxLen/\∀a∈l,ok a
def zqs{m m':M}{Z Z':ZM}{G:aw}{w w':bF}(hG:I2 G=bh)(hs:w8 m Z G w)(h:Step m Z G w m' Z' G w'):Below w.heap.size w w':=by
 refine⟨h.os,h.tape,h.output,h.size,λb hb=>?_⟩;by_cases hx:∃p∈G,gM m p b
 .obtain⟨p,hp,e⟩:=hx;obtain⟨g,ob,cs,hl,_⟩:=zC8 hG hp;have h1:=hs.holds p hp;have h2:=h.iW.holds p hp;rw[hl]at h1 h2;obtain⟨h3,⟨h4,_⟩,_⟩:=h1;obtain⟨_,⟨h5,_⟩,_⟩:=h2
  have:g=b:=by obtain⟨k,o⟩:=p;simp only at hl h3;subst hl;simpa[gM,oi,Obj.ver,h3]using e
  subst this;rw[h4,h5]
 .exact h.frame b hb λp hp e=>hx ⟨p,hp,e⟩
section
variable{H:Type}{enc:bK×bx->H}{P:bo}
def ZV(hl:laidOutB P=bh){W W':bF}(hb:Below W.heap.size W W'):∀(ts:List bK)(vs:List bx)(ds:List (DataW H))(ps:List MemPlace),(ts.all λt=>P.readableRec t&&decide (t<P.types.size))=bh ->
  DataW.TrodAll enc P W 0 (λ_=>bh) bh ts vs ds ps->(∀x∈ps,x.block<W.heap.size)->DataW.TrodAll enc P W' 0 (λb=>decide (b<W.heap.size)) bh ts vs ds ps
 |[],[],[],ps,_,h,_=>h
 |t::ts,v::vs,d::ds,ps,ht,h,ib=>by
  obtain⟨p,q,h1,h2,rfl⟩:=h;simp only[dA,bn,aU]at ht;exact⟨p,q,Below.trod hl ht.1.1 ht.1.2 h1 hb (λx hx=>ib x (bQ _ hx)),ZV hl hb ts vs ds q ht.2 h2 (λx hx=>ib x (cq _ hx)),rfl⟩
 |[],[],_::_,_,_,h,_=>h.elim
 |[],_::_,_,_,_,h,_=>h.elim
 |_::_,[],_,_,_,h,_=>h.elim
 |_::_,_::_,[],_,_,h,_=>h.elim
end
end Go.EV
