/- texts that the proof reaches, part 3 -/
import Derived.Test.YtkmjhipiiifekaaGreatDoorKb
import Derived.Shelf.Strings.Builder1
import Derived.Shelf.Strings.Builder2
import Derived.Shelf.Strings.OnBuilder
import Derived.Shelf.Small.Bits
import Derived.Shelf.Small.Wraps
import Derived.Shelf.Strings.BuilderF
import Derived.Shelf.Strings.BuilderK
import Derived.Shelf.Utf8.RuneCount
import Derived.Shelf.Strings.Builder2Cap
import Derived.Shelf.Strconv.Itoa0
import Derived.Shelf.Strconv.Itoa1
import Derived.Shelf.LaysM
import Derived.Shelf.Strconv.Itoa2
import Derived.Shelf.Strconv.Itoa3
import Derived.Shelf.Strings.Search1
import Derived.Shelf.Strings.Search2
import Derived.Shelf.Strings.Search3
import Derived.Shelf.Strings.Count
import Derived.Shelf.Strings.Shaped
import Derived.Shelf.Sort.Plain
import Derived.Shelf.Strings.Prefix
import Derived.Shelf.Strings.Split
import Derived.Shelf.Strings.Fields
import Derived.Shelf.Strings.Replace
import Derived.Shelf.Strings.SplitShaped
import Derived.Shelf.Unicode.Latin
import Derived.Shelf.Unicode.Decode
import Derived.Shelf.Strings.RuneCount
import Derived.Shelf.Unicode.DecodeSlow
import Derived.Shelf.Unicode.DecodeAny
import Derived.Shelf.Unicode.Is16White
import Derived.Shelf.Unicode.IsSpaceAny
import Derived.Shelf.Unicode.Is16WhiteD
import Derived.Shelf.Unicode.Is16Any
import Derived.Shelf.Unicode.Is32Any
import Derived.Shelf.Unicode.ExclAny
import Derived.Shelf.Slices.Turned
import Derived.Shelf.Slices.Equal
import Derived.Ground.Names2Prog
import Derived.Shelf.Slices.Clone
import Derived.Shelf.Slices.CompactI
import Derived.Shelf.Slices.SearchI
import Derived.Shelf.Slices.Cells
import Derived.Shelf.Slices.In.SortNone
import Derived.Shelf.Slices.Empties2
import Derived.Ground.SlgnProg
import Derived.Shelf.SlicesE.Clone
import Derived.ProofKit
import Derived.Deep.Fields
import Derived.ChangeSame
import Derived.LaidMore
import Derived.OpenShut
import Derived.Lib.SmallJoins
set_option linter.all false
open Bool renaming false->bf,true->bg,false_eq_true->cu
open Go renaming Program->bl,TypeId->bu,Value->bw,World->bG
open Go.Proofs.Tryz renaming prog->bj,underlying9->cL,underlying3->cT,underlying4->db,underlying5->dy,underlying96->dE,underlying334->dM,underlying318->dO,underlying0->ee,underlying357->eo,underlying20->ft,underlying376->fV,underlying51->gq
open List renaming all_eq_true->bm,mem_cons->bo,getElem?_eq_some_iff->bq,getElem?_eq_getElem->bx,length_map->bM,nil_append->cq,length_take->cD,map_map->cF,map->cN,length_drop->cS,all_cons->cZ,take_of_length_le->dk,getElem_of_mem->dn,drop_eq_nil_of_le->dx,drop_zero->dJ,take_left->dH,drop_drop->dW,drop_append->eI,take_add->gL
open Nat renaming beq->bk,ble->ck,zero_add->cj,zero_le->cx,succ_mul->cU,zero_mul->dw,sub_self->eS,sub_zero->fI
open Option renaming some->aY,none->bh,map_eq_some_iff->bQ,bind_eq_some_iff->cQ
namespace Go.EQ
open Go Go.RowKit Go.lA Go.EV
section
variable{S:lW}
inductive HT(S:lW)(co:List TC):Type 1 where
 |n
 |s (a b:HT S co)
 |j (T:Tm) (ret:Bool) (a:HT S co)
 |l (T:Tm) (so:List (Nat×Tp)) (ho:List (Nat×TO)) (vo:List TC) (id:Nat) (fn:HL S.T T.cs->Nat->HL S.T T.vs->Option (HL S.T vo)) (a:HT S co)
 |lr (T:Tm) (so:List (Nat×Tp)) (ho:List (Nat×TO)) (vo:List TC) (id:Nat) (fn:HL S.T T.cs->Nat->HL S.T T.vs->Option (HL S.T co⊕HL S.T vo)) (a:HT S co)
def HT.a{co:List TC}:HT S co->HT S co
 |.s a _=>a
 |_=>.n
def HT.b{co:List TC}:HT S co->HT S co
 |.s _ b=>b
 |_=>.n
def Fo{R:Type}(X:Cx S)(inj:Option (HL S.T X.rT.vs->R))(E:AE S.T)(H:AH S.T):Pg R:=match inj with
 |none=>.fail
 |some i=>bif (X.cd 5000000).isSome then V' X.rT X.K0 E H X.x λv=>.ret (aY (i v))else sy X.rT X.K0 E H X.x λv=>.ret (aY (i v))
def T2{R:Type}{r:R}{X:Cx S}{inj:Option (HL S.T X.rT.vs->R)}{E:AE S.T}{H:AH S.T}(h:(Fo X inj E H).Is r):∃i v,inj=aY i/\X.rT.Gv X.K0 E H X.x v/\i v=r:=by
 unfold Fo at h;split at h
 .exact(Is.fail h).elim
 .rename_i i
  cases hc:(X.cd 5000000).isSome with
  |true =>
   rw[hc,ct]at h;obtain⟨v,g1,g2⟩:=zxa h;exact⟨i,v,rfl,g1,Option.some.inj (Is.ret g2)⟩
  |false =>rw[hc,cf]at h;obtain⟨v,g1,g2⟩:=qP h;exact⟨i,v,rfl,g1,Option.some.inj (Is.ret g2)⟩
abbrev td(X:Cx S):=HT S X.rT.vs->(R:Type)->Option (HL S.T X.rT.vs->R)->(AE S.T->AH S.T->Pg R)->(Nat->AE S.T->AH S.T->Pg R)->AE S.T->AH S.T->Pg R
def DI{α R:Type}(inj:Option (α->R))(q:α):Option R:=match inj with
 |some i=>aY (i q)
 |none=>bh
def wrap(X:Cx S)(h:HT S X.rT.vs)(f:td X)(R:Type)(inj:Option (HL S.T X.rT.vs->R))(kn:AE S.T->AH S.T->Pg R)(kx:Nat->AE S.T->AH S.T->Pg R)(E:AE S.T)(H:AH S.T):Pg R:=match h with
 |.j T ret h'=>match MI T [] [] E H with
  |none=>.fail
  |some xc=>bif ret then
    .jr (f h' (HL S.T X.rT.vs⊕HL S.T T.vs) (aY .inl) (λE' H'=>sy T X.K0 E' H' xc λv=>.ret (aY (.inr v))) (λ_ _ _=>.fail) E H) (DI inj) (λv=>kn (T.pK xc v) (T.pf xc v))
   else .jn (f h' (HL S.T T.vs) bh (λE' H'=>sy T X.K0 E' H' xc λv=>.ret (aY v)) (λ_ _ _=>.fail) E H) λv=>kn (T.pK xc v) (T.pf xc v)
 |h=>f h R inj kn kx E H
def MK{R:Type}(X:Cx S)(f:td X)(T:Tm)(To:Tm)(hT:T.cs=To.cs)(id:Nat)(fn:HL S.T T.cs->Nat->HL S.T T.vs->Option (HL S.T To.vs))(h:HT S X.rT.vs)(kx:Nat->AE S.T->AH S.T->Pg R)(E:AE S.T)(H:AH S.T):Pg R:=match MI T To.sl To.hp E H with
 |none=>.fail
 |some xc=>sy T X.K0 E H xc λv0 =>
  .nW (λq:HL S.T T.vs=>fn xc 0 q) (λ_=>bh)
   (.lp (R0:=HL S.T To.vs) (X:=Nat×HL S.T T.vs)
    (λq=>f h (HL S.T To.vs) bh (λE' H'=>sy T X.K0 E' H' xc λv=>.ret (fn xc q.1 v))
     (λi E' H'=>bif bk i id then sy To X.K0 E' H' (hT▸xc) λv=>.ret (aY v)else .fail) (T.pK xc q.2) (T.pf xc q.2))
    (λq=>fn xc (q.1+1) q.2)
    (.lD (fn xc X.kk v0) λv=>kx id (To.pK (hT▸xc) v) (To.pf (hT▸xc) v)))
def ML{R:Type}(X:Cx S)(f:td X)(T:Tm)(To:Tm)(hT:T.cs=To.cs)(id:Nat)(fn:HL S.T T.cs->Nat->HL S.T T.vs->Option (HL S.T X.rT.vs⊕HL S.T To.vs))(h:HT S X.rT.vs)(inj:Option (HL S.T X.rT.vs->R))(kx:Nat->AE S.T->AH S.T->Pg R)(E:AE S.T)(H:AH S.T):Pg R:=match MI T To.sl To.hp E H with
 |none=>.fail
 |some xc=>sy T X.K0 E H xc λv0 =>
  .nW (λq:HL S.T T.vs=>fn xc 0 q) (λ_=>bh)
   (.lp (R0:=HL S.T X.rT.vs⊕HL S.T To.vs) (X:=Nat×HL S.T T.vs)
    (λq=>f h (HL S.T X.rT.vs⊕HL S.T To.vs) (aY .inl) (λE' H'=>sy T X.K0 E' H' xc λv=>.ret (fn xc q.1 v))
     (λi E' H'=>bif bk i id then sy To X.K0 E' H' (hT▸xc) λv=>.ret (aY (.inr v))else .fail) (T.pK xc q.2) (T.pf xc q.2))
    (λq=>fn xc (q.1+1) q.2)
    (.jr (.ret (fn xc X.kk v0)) (DI inj) λv=>kx id (To.pK (hT▸xc) v) (To.pf (hT▸xc) v)))
def MM{R:Type}(X:Cx S)(l:List Oper)(draw:Bool)(kn:AE S.T->AH S.T->Pg R)(E:AE S.T)(H:AH S.T):Pg R:=bif draw then
  bif YF l then rg X l bg E5 (λE H done=>bif jD l (HR l []) done.reverse then kn E H else .fail) 0 l E H []else .fail
 else rg X l bf E5 (λE H _=>kn E H) 0 l E H []
def XS{R:Type}(X:Cx S)(l:List Oper)(draw:Bool)(kn:AE S.T->AH S.T->Pg R)(E:AE S.T)(H:AH S.T):Pg R:=MM X l draw (λE H=>match FM X.nb H with
 |(H',q)=>DG (kn E H') q) E H
def ev(X:Cx S):Code->td X
 |.skip,_,_,_,kn,_,E,H=>kn E H
 |.exit id,_,_,_,_,kx,E,H=>kx id E H
 |.ret,_,_,inj,_,_,E,H=>Fo X inj E H
 |.seq a b,h,R,inj,kn,kx,E,H=>wrap X h.a (ev X a) R inj (λE H=>wrap X h.b (ev X b) R inj kn kx E H) kx E H
 |.cond c a b,h,R,inj,kn,kx,E,H=>match ib E c with
  |.iR .b t=>.rv t (wrap X h.a (ev X a) R inj kn kx E H) (wrap X h.b (ev X b) R inj kn kx E H)
  |.raw (.bool bg)=>wrap X h.a (ev X a) R inj kn kx E H
  |.raw (.bool bf)=>wrap X h.b (ev X b) R inj kn kx E H
  |_=>.fail
 |.block id a,h,R,inj,kn,kx,E,H=>wrap X h.a (ev X a) R inj kn (λi E H=>bif bk i id then kn E H else kx i E H) E H
 |.region _ ops draw,_,_,_,kn,_,E,H=>XS X ops.toList draw kn E H
 |.loop a,h,_,inj,_,kx,E,H=>match h with
  |.l T so ho vo id fn hb=>MK X (λh'=>wrap X h' (ev X a)) T ⟨so,ho,T.cs,vo⟩ rfl id fn hb kx E H
  |.lr T so ho vo id fn hb=>ML X (λh'=>wrap X h' (ev X a)) T ⟨so,ho,T.cs,vo⟩ rfl id fn hb inj kx E H
  |_=>.fail
 |_,_,_,_,_,_,_,_=>.fail
def CG(K0:List Nat)(Q:xE):xE:=λe ρ H ds=>∃mh H1,Cut K0 ρ H mh H1/\Q e mh H1 ds
def YP{K0:List Nat}{c:Ctx K0}{P:bl}{r:Option Nat}{N:Nat}{x:Code}{Q:xE}{ρ:Env}{H:aw}{ds:List Deferred}(h:l4 c P r N x (CG K0 Q) ρ H ds):l4 c P r N x Q ρ H ds:=λρr w lI SA hM=>FZ (h ρr w lI SA hM) λe tQ mE w' ⟨ρ',H',S',mr,mh,H1,hc,hQ⟩=>⟨mh,H1,hc c _ _ S',mr,hQ⟩
variable(X:Cx S)(c:Ctx X.K0)
def Fin(q:HL S.T X.rT.vs)(Q:xE):Prop:=Q .ret (eV (X.rT.pK X.x q)) (hV (X.rT.pf X.x q)) []
def CT(f:td X)(code:Code):Prop:=∀(h:HT S X.rT.vs)(R:Type)(inj:Option (HL S.T X.rT.vs->R))(kn:AE S.T->AH S.T->Pg R)(kx:Nat->AE S.T->AH S.T->Pg R)(E:AE S.T)(H:AH S.T)(r:R)(Q:xE),
 (f h R inj kn kx E H).Is r->(∀E' H',(kn E' H').Is r->Q .normal (eV E') (hV H') [])->(∀i E' H',(kx i E' H').Is r->Q (.exit i) (eV E') (hV H') []) ->
 (∀q i,inj=aY i->i q=r->Fin X q Q)->l4 c X.P bh X.N code Q (eV E) (hV H) []
variable{X c}
def Fin.cut{K0:List Nat}{q:HL S.T X.rT.vs}{Q:xE}(h:Fin X q Q):Fin X q (CG K0 Q):=⟨_,_,Cut.refl,h⟩
def Rv{α R:Type}{inj:Option (α->R)}{q:α}{r:R}(h:DI inj q=aY r):∃i,inj=aY i/\i q=r:=by
 unfold DI at h;split at h
 .cases h;exact⟨_,rfl,rfl⟩
 .cases h
def vW(hS:S.OK){f:td X}{code:Code}(hf:CT X c f code):CT X c (λh=>wrap X h f) code:=by
 intro h R inj kn kx E H r Q hI hn hx hr;simp only[wrap]at hI;split at hI
 .rename_i T ret h';split at hI
  .exact(Is.fail hI).elim
  .rename_i xc _
   cases ret with
   |true =>
    rw[ct]at hI;refine YP ?_
    rcases Is.jr hI with⟨q,h1,h2⟩|⟨s,h1,h2⟩
    .refine hf _ _ _ _ _ _ _ _ (CG X.K0 Q) h1 (λE' H' g=>?_) (λ_ _ _ g=>(Is.fail g).elim) (λq' i e1 e2=>?_)
     .obtain⟨v,g1,g2⟩:=qP g;have:=Is.ret g2;cases this
     .cases e1;cases e2;obtain⟨i,e3,e4⟩:=Rv h2;exact(hr _ i e3 e4).cut
    .refine hf _ _ _ _ _ _ _ _ (CG X.K0 Q) h1 (λE' H' g=>?_) (λ_ _ _ g=>(Is.fail g).elim) (λq' i e1 e2=>?_)
     .obtain⟨v,g1,g2⟩:=qP g;have:=Is.ret g2;cases this;exact⟨_,_,vV hS g1,hn _ _ h2⟩
     .cases e1;cases e2
   |false =>
    rw[cf]at hI;refine YP ?_;obtain⟨s,h1,h2⟩:=Is.jn hI;refine hf _ _ _ _ _ _ _ _ (CG X.K0 Q) h1 (λE' H' g=>?_) (λ_ _ _ g=>(Is.fail g).elim) (λq' i e1 e2=>?_)
    .obtain⟨v,g1,g2⟩:=qP g;have:=Is.ret g2;cases this;exact⟨_,_,vV hS g1,hn _ _ h2⟩
    .cases e1
 .exact hf _ _ _ _ _ _ _ _ Q hI hn hx hr
def ztb(hS:S.OK){R:Type}{r:R}{f:td X}{a:Code}(hf:CT X c f a){T To:Tm}{C3:T.cs=To.cs}{id:Nat}{fn:HL S.T T.cs->Nat->HL S.T T.vs->Option (HL S.T To.vs)}{h:HT S X.rT.vs}{kx:Nat->AE S.T->AH S.T->Pg R}{E:AE S.T}{H:AH S.T}{Q:xE}
  (hI:(MK X f T To C3 id fn h kx E H).Is r) (hx:∀i E' H',(kx i E' H').Is r->Q (.exit i) (eV E') (hV H') []):l4 c X.P bh X.N (.loop a) Q (eV E) (hV H) []:=by
 unfold MK at hI;split at hI
 .exact(Is.fail hI).elim
 .rename_i xc _;obtain⟨v0,h1,h2⟩:=qP hI;obtain⟨h3,h4⟩:=Is.nW h2;obtain⟨h5,h6⟩:=Is.lp h4;obtain⟨z,h7,h8⟩:=Is.lD h6;refine YP ?_
  refine Uw (λq=>eV (T.pK xc q)) (λq=>hV (T.pf xc q)) (fn xc) (λq=>congrFun h3 q) X.kk v0 h7 (vV hS h1) λK q hq=>?_
  refine hf _ _ _ _ _ _ _ _ _ (h5 (K,q) z hq) (λE' H' g=>?_) (λi E' H' g=>?_) (λq' i e1 e2=>?_)
  .obtain⟨v,g1,g2⟩:=qP g;exact SF v (Is.ret g2) (vV hS g1)
  .cases hb:bk i id with
   |false=>rw[hb]at g;exact(Is.fail g).elim
   |true =>
    rw[hb,ct]at g;have:=eb hb;subst this;obtain⟨v,g1,g2⟩:=qP g;have:=Is.ret g2;cases this;exact Q_ ⟨_,_,vV hS g1,hx _ _ _ h8⟩
  .cases e1
def ztc(hS:S.OK){R:Type}{r:R}{f:td X}{a:Code}(hf:CT X c f a){T To:Tm}{C3:T.cs=To.cs}{id:Nat}{fn:HL S.T T.cs->Nat->HL S.T T.vs->Option (HL S.T X.rT.vs⊕HL S.T To.vs)}{h:HT S X.rT.vs}{inj:Option (HL S.T X.rT.vs->R)}{kx:Nat->AE S.T->AH S.T->Pg R}{E:AE S.T}{H:AH S.T}{Q:xE}
  (hI:(ML X f T To C3 id fn h inj kx E H).Is r) (hx:∀i E' H',(kx i E' H').Is r->Q (.exit i) (eV E') (hV H') [])
  (hr:∀q i,inj=aY i->i q=r->Fin X q Q):l4 c X.P bh X.N (.loop a) Q (eV E) (hV H) []:=by
 unfold ML at hI;split at hI
 .exact(Is.fail hI).elim
 .rename_i xc _;obtain⟨v0,h1,h2⟩:=qP hI;obtain⟨h3,h4⟩:=Is.nW h2;obtain⟨h5,h6⟩:=Is.lp h4
  have hz:∃z,fn xc X.kk v0=aY z/\((∃q,z=.inl q/\DI inj q=aY r)∨∃s,z=.inr s/\(kx id (To.pK (C3▸xc) s) (To.pf (C3▸xc) s)).Is r):=by
   rcases Is.jr h6 with⟨q,g1,g2⟩|⟨s,g1,g2⟩
   .exact⟨_,Is.ret g1,.inl ⟨q,rfl,g2⟩⟩
   .exact⟨_,Is.ret g1,.inr ⟨s,rfl,g2⟩⟩
  obtain⟨z,h7,h8⟩:=hz;refine YP ?_
  refine Uw (λq=>eV (T.pK xc q)) (λq=>hV (T.pf xc q)) (fn xc) (λq=>congrFun h3 q) X.kk v0 h7 (vV hS h1) λK q hq=>?_
  refine hf _ _ _ _ _ _ _ _ _ (h5 (K,q) z hq) (λE' H' g=>?_) (λi E' H' g=>?_) (λq' i e1 e2=>?_)
  .obtain⟨v,g1,g2⟩:=qP g;exact SF v (Is.ret g2) (vV hS g1)
  .cases hb:bk i id with
   |false=>rw[hb]at g;exact(Is.fail g).elim
   |true =>
    rw[hb,ct]at g;have:=eb hb;subst this;obtain⟨v,g1,g2⟩:=qP g;have:=Is.ret g2;cases this
    rcases h8 with⟨q,e,_⟩|⟨s,e,g3⟩
    .cases e
    .cases e;exact Q_ ⟨_,_,vV hS g1,hx _ _ _ g3⟩
  .cases e1;cases e2
   rcases h8 with⟨q,e,g3⟩|⟨s,e,_⟩
   .cases e;obtain⟨i,e3,e4⟩:=Rv g3;have hF:=(hr _ i e3 e4).cut (K0:=X.K0);exact zsq hF
   .cases e
def ztd(hS:S.OK)(hT:l7.OK X.P X.T)(hm:X.P.follows .mixedOrders=bg){R:Type}{r:R}{l:List Oper}{draw:Bool}{id:Nat}{kn:AE S.T->AH S.T->Pg R}{E:AE S.T}{H:AH S.T}{Q:xE}
  (hI:(MM X l draw kn E H).Is r) (hn:∀E' H',(kn E' H').Is r->Q .normal (eV E') (hV H') []):l4 c X.P bh X.N (.region id l.toArray draw) Q (eV E) (hV H) []:=by
 unfold MM at hI
 cases draw with
 |true =>
  rw[ct]at hI
  cases hb:YF l with
  |false=>rw[hb]at hI;exact(Is.fail hI).elim
  |true =>
   rw[hb]at hI;exact zA0 hm hb (zxi (K:=λρ' H'=>Q .normal ρ' H' []) hS hT hI λE' H' _ h=>hn E' H' h)
 |false =>rw[cf]at hI;exact zwk (zxh hS hT hI λE' H' _ h=>hn E' H' h)
def zxm(hS:S.OK)(hT:l7.OK X.P X.T)(hm:X.P.follows .mixedOrders=bg){R:Type}{r:R}{l:List Oper}{draw:Bool}{id:Nat}{kn:AE S.T->AH S.T->Pg R}{E:AE S.T}{H:AH S.T}{Q:xE}
  (hI:(XS X l draw kn E H).Is r) (hn:∀E' H',(kn E' H').Is r->Q .normal (eV E') (hV H') []):l4 c X.P bh X.N (.region id l.toArray draw) Q (eV E) (hV H) []:=YP (ztd hS hT hm (Q:=CG X.K0 Q) hI λE' H' h=>⟨_,_,zga hS (eV E') H' (VC h).1,hn _ _ (VC h).2⟩)
def Hz(hS:S.OK)(hT:l7.OK X.P X.T)(hm:X.P.follows .mixedOrders=bg):∀code:Code,CT X c (ev X code) code
 |.skip=>λh R inj kn kx E H r Q hI hn hx hr=>by
  simp only[ev]at hI;exact zAg (hn _ _ hI)
 |.exit id=>λh R inj kn kx E H r Q hI hn hx hr=>by
  simp only[ev]at hI;exact zAh (hx _ _ _ hI)
 |.ret=>λh R inj kn kx E H r Q hI hn hx hr=>by
  simp only[ev]at hI;obtain⟨i,v,e1,g1,e2⟩:=T2 hI;exact XY _ _ (vV hS g1) (aeT (hr v i e1 e2))
 |.seq a b=>λh R inj kn kx E H r Q hI hn hx hr=>by
  simp only[ev]at hI;refine aeU (vW hS (Hz hS hT hm a) _ _ _ _ _ _ _ _ _ hI (λE' H' g=>?_) (λi E' H' g=>?_) (λq i e1 e2=>?_))
  .exact zmj (vW hS (Hz hS hT hm b) _ _ _ _ _ _ _ _ Q g hn hx hr)
  .exact zjt (hx i E' H' g)
  .exact zmk (hr q i e1 e2)
 |.cond y a b=>λh R inj kn kx E H r Q hI hn hx hr=>by
  simp only[ev]at hI;split at hI
  .rename_i t ht;obtain⟨h1,h2⟩:=Is.rv hI;exact L2 t (by rw[zY,ht];rfl) (λe=>vW hS (Hz hS hT hm a) _ _ _ _ _ _ _ _ Q (h1 e) hn hx hr) (λe=>vW hS (Hz hS hT hm b) _ _ _ _ _ _ _ _ Q (h2 e) hn hx hr)
  .rename_i ht;exact L2 bg (by rw[zY,ht];simp only[A.v]) (λ_=>vW hS (Hz hS hT hm a) _ _ _ _ _ _ _ _ Q hI hn hx hr) (λe=>by cases e)
  .rename_i ht;exact L2 bf (by rw[zY,ht];simp only[A.v]) (λe=>by cases e) (λ_=>vW hS (Hz hS hT hm b) _ _ _ _ _ _ _ _ Q hI hn hx hr)
  .exact(Is.fail hI).elim
 |.block id a=>λh R inj kn kx E H r Q hI hn hx hr=>by
  simp only[ev]at hI;refine zv5 (vW hS (Hz hS hT hm a) _ _ _ _ _ _ _ _ _ hI (λE' H' g=>zr8 (hn _ _ g)) (λi E' H' g=>?_) (λq i e1 e2=>zr9 (hr q i e1 e2)))
  cases hb:bk i id with
  |true =>
   rw[hb]at g;have:=eb hb;subst this;exact zml (hn _ _ g)
  |false =>
   rw[hb]at g;exact Vg hb (hx _ _ _ g)
 |.region id ops draw=>λh R inj kn kx E H r Q hI hn hx hr=>by
  simp only[ev]at hI;exact zxm (l:=ops.toList) hS hT hm hI hn
 |.loop a=>λh R inj kn kx E H r Q hI hn hx hr=>by
  simp only[ev]at hI;split at hI
  .exact ztb hS (vW hS (Hz hS hT hm a)) hI hx
  .exact ztc hS (vW hS (Hz hS hT hm a)) hI hx hr
  .exact(Is.fail hI).elim
 |.rangeFunc ..=>λh R inj kn kx E H r Q hI hn hx hr=>by simp only[ev]at hI;exact(Is.fail hI).elim
 |.scope a=>λh R inj kn kx E H r Q hI hn hx hr=>by simp only[ev]at hI;exact(Is.fail hI).elim
 |.label _=>λh R inj kn kx E H r Q hI hn hx hr=>by simp only[ev]at hI;exact(Is.fail hI).elim
 |.goto _=>λh R inj kn kx E H r Q hI hn hx hr=>by simp only[ev]at hI;exact(Is.fail hI).elim
 |.refuse _=>λh R inj kn kx E H r Q hI hn hx hr=>by simp only[ev]at hI;exact(Is.fail hI).elim
end
def PM:List (Nat×Nat×Nat)->Nat->Option (Nat×Nat)
 |[],_=>bh
 |(t,k,off)::r,u=>bif bk u t then aY (k,off)else PM r u
def Gl:List (Nat×TO)->Nat->Option TO
 |[],_=>bh
 |(k,o)::r,j=>bif bk j k then aY o else Gl r j
def F6:Tp->Tp->Bool
 |.d c j,.d c' j'=>decide (c=c')&&bk j j'
 |.ptr k o,.ptr k' o'=>bk k k'&&bk o o'
 |.mp k,.mp k'=>bk k k'
 |.row s k,.row s' k'=>bk s s'&&bk k k'
 |.lF,.lF=>bg
 |.iO,.iO=>bg
 |.lZ,.lZ=>bg
 |.lP,.lP=>bg
 |.mn,.mn=>bg
 |_,_=>bf
def FN:List Tp->List Tp->Bool
 |[],[]=>bg
 |a::r,b::r'=>F6 a b&&FN r r'
 |_,_=>bf
def Rw{a b:Tp}(h:F6 a b=bg):a=b:=by
 unfold F6 at h
 split at h<;>first|(cases h;done)|rfl|skip
 .simp only[bn,aU]at h;rw[h.1,eb h.2]
 .simp only[bn]at h;rw[eb h.1,eb h.2]
 .rw[eb h]
 .simp only[bn]at h;rw[eb h.1,eb h.2]
def YQ:∀{a b:List Tp},FN a b=bg->a=b
 |[],[],_=>rfl
 |x::r,y::r',h=>by
  simp only[FN,bn]at h;rw[Rw h.1,YQ h.2]
 |[],_::_,h=>by cases h
 |_::_,[],h=>by cases h
def PN:Tp->Bool
 |.d (.st _) _=>bf
 |.d (.m _ _) _=>bf
 |.d _ _=>bg
 |.ptr _ _=>bg
 |.mp _=>bg
 |.row _ _=>bg
 |.lF=>bg
 |.iO=>bg
 |.lZ=>bg
 |.lP=>bg
 |.mn=>bg
 |_=>bf
def Gm(P:bl)(ty:Nat)(cs:List Tp)(off:Nat)(o:Tp):Bool:=match qs P ty with
 |none=>bf
 |some bh=>match cs[off]? with
  |some t=>F6 t o&&PN o
  |none=>bf
 |some (aY k)=>ck (off+k) cs.length&&(match o with|.ag l=>FN ((cs.drop off).take k) l|_=>bf)
def sA(P:bl)(rc:List (Nat×Nat×Nat))(lj:List (Nat×TO)):List ResultVar->List Tp->Option (List (Nat×Tp))
 |[],[]=>aY []
 |.tmp t::r,o::os=>match sA P rc lj r os with
  |some l=>aY ((t,o)::l)
  |none=>bh
 |.cell t ty::r,o::os=>match PM rc t with
  |some (k,off)=>match Gl lj k with
   |some (.box _ cs)=>bif Gm P ty cs off o then(match sA P rc lj r os with
    |some l=>aY ((t,.ptr k off)::l)
    |none=>bh)else bh
   |_=>bh
  |none=>bh
 |_,_=>bh
def MN(P:bl)(rc:List (Nat×Nat×Nat))(lj:List (Nat×TO))(l:List ResultVar)(out:Tp):Option (List (Nat×Tp)):=match l with
 |[]=>match out with
  |.ij []=>aY []
  |_=>bh
 |[x]=>sA P rc lj [x] [out]
 |x::y::r=>match out with
  |.ij os=>sA P rc lj (x::y::r) os
  |_=>bh
section
variable{S:lW}
def M6(n:Nat)(c:Ct S)(rs:List (Nat×Tp)):Bool:=nodupB (rs.map (·.1))&&(ck c.ins.length n&&(uT [c.out] c.lj&&(nodupB (c.lj.map (·.1))&&(c.hin.map (·.1)).all (c.lj.map (·.1)).contains)))
def Ex(P:bl)(N:Nat)(T:l7 S)(cd:Nat->Option TC)(kk:Nat)(nb:NB)(c:Ct S)(rs:List (Nat×Tp))(x:HL S.T c.ci)(K0:List Nat):Cx S:={ P:=P,N:=N,K0:=K0,T:=T,cd:=cd,kk:=kk,nb:=nb,rT:=⟨rs,c.lj,c.ci,c.co⟩,x:=x }
def MO(l:List (A S.T)):AE S.T:=l.zipIdx.map λp=>(p.2,p.1)
def zxp(l:List (A S.T)):eV (MO l)=Ck (A.vs l):=by
 simp only[MO,Ck,eV,cF,xp]
 suffices h:∀(l:List (A S.T))(j:Nat),cN ((λp:Nat×A S.T=>(p.1,p.2.v)) ∘ λp=>(p.2,p.1)) (l.zipIdx j)=cN (λp=>(p.2,p.1)) ((l.map A.v).zipIdx j) from h l 0
 intro l
 induction l with
 |nil=>intro j;rfl
 |cons a l ih=>intro j;simp only[List.zipIdx_cons,ig,ih (j+1)];rfl
def mV(P:bl)(fn:Func)(code:Code)(T:l7 S)(cd:Nat->Option TC)(kk:Nat)(nb:NB)(c:Ct S)(rc:List (Nat×Nat×Nat))(h:HT S c.co)(x:HL S.T c.ci):Pg (HL S.T c.co):=match MN P rc c.lj fn.results.toList c.out with
 |none=>.fail
 |some rs=>bif M6 fn.ntmps c rs then
   wrap (Ex P fn.ntmps T cd kk nb c rs x (c.hin.map (·.1))) h (ev (Ex P fn.ntmps T cd kk nb c rs x (c.hin.map (·.1))) code) (HL S.T c.co) (aY id) (λE H=>Fo (Ex P fn.ntmps T cd kk nb c rs x (c.hin.map (·.1))) (aY id) E H) (λ_ _ _=>.fail)
    (MO (Tp.lK c.hin (xN c.ci x) c.ins)) (K1 c.hin (xN c.ci x))
  else .fail
def S6{hp:List (Nat×TO)}{ds:List (Dy S.T)}:∀{sl:List (Nat×Tp)},(sl.map (·.1)).Nodup->∀{t:Nat}{tp:Tp},(t,tp)∈sl->(oP (S:=S) hp sl ds).get t=tp.put hp ds
 |(d,Pp)::r,hn,t,tp,h=>by
  simp only[ig,List.nodup_cons]at hn;simp only[oP,ig,AE.get]
  rcases bo.1 h with e|h2
  .cases e;rw[Nat.beq_refl];rfl
  .have:bk t d=bf:=by
    cases hb:bk t d with
    |false=>rfl
    |true =>
     have:=eb hb;subst this;have hm:t∈r.map (·.1):=List.mem_map_of_mem (f:=(·.1)) h2;exact aQ hm hn.1
   rw[this];exact S6 hn.2 h2
def zoo{hp ho:List (Nat×TO)}{ds:List (Dy S.T)}{k:Nat}:(hV (Fi (S:=S) hp ds ho)).get k=(Gl ho k).map λo=>(o.put (S:=S) hp ds).o:=by
 induction ho with
 |nil=>rfl
 |cons p r ih =>
  obtain⟨d,o⟩:=p;simp only[Fi,hV,ig,aw.get,Gl]at ih ⊢
  cases bk k d with
  |true=>rfl
  |false=>exact ih
def zxq{hp:List (Nat×TO)}{ds:List (Dy S.T)}:∀{o:Tp},PN o=bg->(o.put (S:=S) hp ds).v.one=bg
 |.d c j,h=>by
  cases c<;>first|(cases h;done)|(simp only[Tp.put,A.v,qM];rfl)|(simp only[Tp.put,A.v,qM];unfold M0;split<;>rfl)
 |.ptr ..,_=>by simp only[Tp.put,A.v];rfl
 |.mp _,_=>by simp only[Tp.put,A.v];rfl
 |.row ..,_=>by simp only[Tp.put,A.v];rfl
 |.lF,_=>by simp only[Tp.put,A.v];rfl
 |.iO,_=>by simp only[Tp.put,A.v];rfl
 |.lZ,_=>by simp only[Tp.put,A.v];rfl
 |.lP,_=>by simp only[Tp.put,A.v];rfl
 |.mn,_=>by simp only[Tp.put,A.v];rfl
 |.no,h=>by cases h
 |.Fh,h=>by cases h
 |.ag _,h=>by cases h
 |.ij _,h=>by cases h
 |.fn ..,h=>by cases h
 |.lN ..,h=>by cases h
def ztg{P:bl}{ty:Nat}{cs:List Tp}{off:Nat}{o:Tp}(h:Gm P ty cs off o=bg){hp:List (Nat×TO)}{ds:List (Dy S.T)}:mQ P ty (A.vs (Tp.lK (S:=S) hp ds cs)) off=aY (o.put hp ds).v:=by
 unfold Gm at h;split at h
 .cases h
 .rename_i hs;split at h
  .rename_i t ht;simp only[bn]at h;have:=Rw h.1;subst this;refine Part.at (k:=bh) hs ⟨?_,zxq h.2⟩;rw[xp,A3,cF,List.getElem?_map,ht];rfl
  .cases h
 .rename_i k hs;simp only[bn]at h;obtain⟨h1,h2⟩:=h;split at h2
  .rename_i l;have:=YQ h2;subst this;refine Part.at (k:=aY k) hs ⟨?_,?_⟩
   .rw[kV,A3,bM];exact lR h1
   .simp only[Tp.put,A.v,xp,A3,cF,List.map_take,List.map_drop]
  .cases h2
def FO{P:bl}{ρ:Env}{rc:List (Nat×Nat×Nat)}{hp:List (Nat×TO)}{ds:List (Dy S.T)}:∀{l:List ResultVar}{os:List Tp}{rs:List (Nat×Tp)},sA P rc hp l os=aY rs->(∀t tp,(t,tp)∈rs->ρ.get t=(tp.put hp ds).v)->su P ρ (hV (K1 hp ds)) l=aY (A.vs (Tp.lK (S:=S) hp ds os))/\os.length=l.length
 |[],[],rs,h,hg=>by simp[su,Tp.lK,A.vs]
 |.tmp t::r,o::os,rs,h,hg=>by
  simp only[sA]at h;split at h
  .rename_i l hl;cases h
   obtain⟨h1,h2⟩:=FO hl λt tp hm=>hg t tp (iT _ hm)
   simp only[su,DA,hg t o ak,h1,Tp.lK,A.vs,lX,h2];simp
  .cases h
 |.cell t ty::r,o::os,rs,h,hg=>by
  simp only[sA]at h;split at h
  .rename_i k off hk;split at h
   .rename_i bt cs hb
    cases II:Gm P ty cs off o with
    |false=>rw[II]at h;cases h
    |true =>
     rw[II]at h;dsimp only[ct]at h;split at h
     .rename_i l hl;cases h
      obtain⟨h1,h2⟩:=FO hl λt tp hm=>hg t tp (iT _ hm)
      have h3:=hg t (.ptr k off) ak
      have h4:(hV (K1 (S:=S) hp ds)).get k=aY (.box bt (A.vs (Tp.lK hp ds cs))):=by have:=zoo (S:=S) (hp:=hp) (ho:=hp) (ds:=ds) (k:=k);rw[hb]at this;exact this
      simp only[Tp.put,A.v]at h3;simp only[su,DA,h3,h4,ztg II,h1,Tp.lK,A.vs,lX,h2];simp
     .cases h
   .cases h
  .cases h
 |[],_::_,_,h,_=>by simp only[sA]at h;cases h
 |.tmp _::_,[],_,h,_=>by simp only[sA]at h;cases h
 |.cell ..::_,[],_,h,_=>by simp only[sA]at h;cases h
def zxr{P:bl}{fn:Func}{ρ:Env}{rc:List (Nat×Nat×Nat)}{hp:List (Nat×TO)}{ds:List (Dy S.T)}{out:Tp}{rs:List (Nat×Tp)}(h:MN P rc hp fn.results.toList out=aY rs)(hg:∀t tp,(t,tp)∈rs->ρ.get t=(tp.put hp ds).v):CD fn ρ (hV (K1 hp ds)) P=aY (out.put (S:=S) hp ds).v:=by
 unfold CD;generalize fn.results.toList=l at h ⊢;unfold MN at h;split at h
 .split at h
  .cases h;simp only[su,Tp.put,Tp.lK,A.v,A.vs]
  .cases h
 .rename_i x;obtain⟨h1,h2⟩:=FO h hg;rw[h1];simp only[Tp.lK,A.vs]
 .split at h
  .rename_i x y r os;obtain⟨h1,h2⟩:=FO h hg;rw[h1]
   match os,h2 with
   |a::b::r,_=>simp only[Tp.put,Tp.lK,A.v,A.vs]
  .cases h
def PO(hS:S.OK){P:bl}{f:Nat}{fn:Func}{code:Code}{T:l7 S}{cd:Nat->Option TC}{kk:Nat}{nb:NB}{c:Ct S}{rc:List (Nat×Nat×Nat)}{h:HT S c.co}(hf:P.funcs[f]?=aY fn)(hb:fn.body=aY code)(hm:P.follows .mixedOrders=bg)(hT:l7.OK P T)
  (mg:∀x,(mV P fn code T cd kk nb c rc h x).run=c.fn x) (htr:∀x,(mV P fn code T cd kk nb c rc h x).tr bg=(mV P fn code T cd kk nb c rc h x).tr bf):c.OK P f:=by
 intro x r hr
 have hI:(mV P fn code T cd kk nb c rc h x).Is r:=⟨(mg x).trans hr,wi _ (htr x)⟩
 unfold mV at hI;split at hI
 .exact(Is.fail hI).elim
 .rename_i rs hrs
  cases hc:M6 fn.ntmps c rs with
  |false=>rw[hc]at hI;exact(Is.fail hI).elim
  |true =>
   rw[hc,ct]at hI;simp only[M6,bn]at hc;obtain⟨c1,c2,c3,c4,c5⟩:=hc;simp only[uT,bn]at c3
   have o5:∀ds,keys (hV (K1 (S:=S) c.lj ds))=c.lj.map (·.1):=λds=>jd
   have s9:∀e:Exit,(e=.normal∨e=.ret)->FA P fn (c.hin.map (·.1)) (c.out.put c.lj (xN c.ci x++xN c.co r)).v (hV (K1 c.lj (xN c.ci x++xN c.co r))) e
     (eV (oP c.lj rs (xN c.ci x++xN c.co r))) (hV (K1 c.lj (xN c.ci x++xN c.co r))) []:=by
    have h1:CD fn (eV (oP c.lj rs (xN c.ci x++xN c.co r))) (hV (K1 c.lj (xN c.ci x++xN c.co r))) P=aY (c.out.put c.lj (xN c.ci x++xN c.co r)).v:=zxr hrs λt tp lg=>by rw[Ju,S6 (yn c1) lg]
    have h2:ua (keys (hV (K1 (S:=S) c.lj (xN c.ci x++xN c.co r)))) (hV (K1 c.lj (xN c.ci x++xN c.co r)))=aY (hV (K1 c.lj (xN c.ci x++xN c.co r))):=ZL λp hp=>get_of_mem (by rw[o5];exact yn c4) hp
    have h3:Fy (c.out.put (S:=S) c.lj (xN c.ci x++xN c.co r)).v (hV (K1 c.lj (xN c.ci x++xN c.co r))) (c.hin.map (·.1))=bg:=by have mR:=Kr (S:=S) hS (ins:=[c.out]) (hin:=c.lj) (ds:=xN c.ci x++xN c.co r) (by simp only[uT,bn];exact c3);simp only[EV.Kl,bn,Tp.lK,A.vs,y8,List.append_nil]at mR;simp only[Fy,bn,o5]at mR ⊢;exact⟨c4,c5,mR.1,mR.2⟩
    rintro e (rfl|rfl)<;>exact⟨rfl,h1,h2,h3⟩
   have key:∀(K0:List Nat),K0=c.hin.map (·.1)->∀cc:Ctx K0,l4 cc P bh fn.ntmps code (FA P fn K0 (c.out.put c.lj (xN c.ci x++xN c.co r)).v (hV (K1 c.lj (xN c.ci x++xN c.co r)))) (Ck (A.vs (Tp.lK c.hin (xN c.ci x) c.ins))) (hV (K1 c.hin (xN c.ci x))) []:=by
    intro K0 e cc;subst e;rw[<- zxp];refine YP (vW (X:=Ex P fn.ntmps T cd kk nb c rs x (c.hin.map (·.1))) hS (Hz hS hT hm code) _ _ _ _ _ _ _ _ _ hI (λE' H' g=>?_) (λ_ _ _ g=>(Is.fail g).elim) (λq i e1 e2=>?_))
    .obtain⟨i,v,e1,g1,e2⟩:=T2 g;cases e1;cases e2;exact⟨_,_,vV hS g1,s9 _ (.inl rfl)⟩
    .cases e1;cases e2;exact⟨_,_,Cut.refl,s9 _ (.inr rfl)⟩
   exact zmw hf hb rfl (by rw[kV,A3,bM];exact c2) (key _ jd)
end
end Go.EQ
namespace Go.Proofs.YtkmjhipiiifekaaGreatDoor
open Go Go.RowKit Go.lA Go.EV Go.EQ
def zxs(T:Nat)(s:aj)(mk:Nat->Option (Nat×Nat))(Z:ZM)(w:bG):Prop:=
 ∃b n p v,mk 0=aY (b,1)/\w.heap[b]?=aY (.cells #[p,v] T (0,0))/\Lib.IsBuilderF T 5 0 b (Lib.byteCells s) w/\(∀g,v.ownBlock=aY g->∃j,mk (j+1)=aY (g,1))/\(∀j,n<j->mk j=bh) /\
  (∀j loc,mk j=aY loc->loc.2=1/\∃cur u fr,w.heap[loc.1]?=aY (.cells cur u fr))/\∀a x,Z a=aY x->∀j,mk j≠aY (a.block,1)
def zth{T b:Nat}{bs:List bw}{w w':bG}{p v:bw}(h:Lib.IsBuilderF T 5 0 b bs w)(hb:w.heap[b]?=aY (.cells #[p,v] T (0,0)))(h1:w'.heap[b]?=w.heap[b]?)(h2:∀g,v.ownBlock=aY g->w'.heap[g]?=w.heap[g]?):Lib.IsBuilderF T 5 0 b bs w':=by
 have key:∀q,Lib.BuilderAtF T 5 0 b q bs w->Lib.BuilderAtF T 5 0 b q bs w':=λq ⟨hB,v',mB,mT,lE⟩=>by
  rw[hb]at mB;cases mB;refine⟨hB,v,h1.trans hb,⟨mT.1,?_⟩,lE⟩
  rcases mT.2 with h|⟨g,cap,cur,fz,e1,e2,e3,r⟩
  .exact .inl h
  .exact .inr ⟨g,cap,cur,fz,e1,e2,(h2 g (by rw[e1];rfl)).trans e3,r⟩
 exact h.elim (λh=>.inl (key _ h)) λh=>.inr (key _ h)
def sbG(T:Nat)(s:aj):Fu where
 holds:=zxs T s
 mO mk b:=∃j,mk j=aY (b,1)
 some_ mk b h:=by obtain⟨j,h⟩:=h;exact⟨j,1,h,ad⟩
 own mk Z w b h hb:=by obtain⟨b0,n,p,v,h1,h2,h3,h4,h5,h6,h7⟩:=h;obtain⟨j,hj⟩:=hb;obtain⟨_,cur,u,fr,e⟩:=h6 j _ hj;exact⟨_,e,rfl⟩
 keep mk Z Z' w w' h hZ hw:=by
  obtain⟨b0,n,p,v,h1,h2,h3,h4,h5,h6,h7⟩:=h;refine⟨b0,n,p,v,h1,(hw b0 ⟨0,h1⟩).1.trans h2,zth h3 h2 (hw b0 ⟨0,h1⟩).1 λg hg=>?_,h4,h5,λj loc e=>?_,λa x ha j e=>?_⟩
  .obtain⟨j,hj⟩:=h4 g hg;exact(hw g ⟨_,hj⟩).1
  .obtain⟨e1,cur,u,fr,e2⟩:=h6 j loc e
   have:loc=(loc.1,1):=by rw[<- e1]
   exact⟨e1,cur,u,fr,(hw loc.1 ⟨j,by rw[e,<- this]⟩).1.trans e2⟩
  .exact h7 a x ((hw a.block ⟨j,e⟩).2 a x ha rfl) j e
def sb(T:Nat)(s:aj):EV.Obj:=.gen (sbG T s)
def MP{T:Nat}{s:aj}{k:Nat}{m:M}{Z:ZM}{w:bG}(hs:kp m Z [(k,sb T s)] w):∃b,m k 0=aY (b,1)/\Lib.IsBuilderF T 5 0 b (Lib.byteCells s) w:=by obtain⟨b,n,p,v,h1,h2,h3,_⟩:=hs.holds _ (gX.2 rfl);exact⟨b,h1,h3⟩
def T3{T:Nat}{s s':aj}{k b:Nat}{m:M}{Z:ZM}{w w':bG}(hs:kp m Z [(k,sb T s)] w)(hb:m k 0=aY (b,1))(h:Lib.IsBuilderF T 5 0 b (Lib.byteCells s') w')(ht:Vf b w w'):
  ∃m',Step m Z [(k,sb T s)] w m' Z [(k,sb T s')] w':=by
 obtain⟨b0,n,p0,v0,h1,h2,h3,h4,h5,h6,h7⟩:=hs.holds _ (gX.2 rfl);rw[h1]at hb;cases hb;obtain⟨p,v,afk,p',v',t1,t2,t3,t4,t5,t6,t7,t8,t9⟩:=ht;rw[t1]at h2;cases h2
 have iB:∀{a x},Z a=aY x->a.block<w.heap.size:=λha=>xo hs.frozen ha
 have old:∀k',k'<w.heap.size->(∀j,m k j≠aY (k',1))->w'.heap[k']?=w.heap[k']?:=λk' hk hn=>t7 k' hk (λe=>hn 0 (e▸h1)) λe=>by obtain⟨j,hj⟩:=h4 k' e;exact hn _ hj
 let m':M:=λk' L=>if k'=k/\L=n+1 then v'.ownBlock.map λg=>(g,1)else m k' L
 have n9:∀L,L≠n+1->m' k L=m k L:=λL hL=>by simp[m',hL]
 have ET:m' k (n+1)=v'.ownBlock.map λg=>(g,1):=by simp[m']
 have OL:∀k',k'≠k->m' k'=m k':=λk' hk=>by funext L;simp[m',hk]
 have pI:m k (n+1)=bh:=h5 _ (Nat.lt_succ_self n);have aaM:(0:Nat)≠n+1:=ab
 have mT:∀g,v'.ownBlock=aY g->∃cur u fr,w'.heap[g]?=aY (.cells cur u fr):=λg hg=>by
  have:∀q,Lib.BuilderAtF T 5 0 b q (Lib.byteCells s') w'->∃cur u fr,w'.heap[g]?=aY (.cells cur u fr):=λq ⟨_,v2,e1,e2,_⟩=>by
   rw[t2]at e1;cases e1
   rcases e2.2 with⟨rfl,_⟩|⟨g2,cap,cur,fz,rfl,_,e3,_⟩
   .cases hg
   .simp only[Value.ownBlock,Option.some.injEq]at hg;subst hg;exact⟨_,_,_,e3⟩
  exact h.elim (this _) (this _)
 have Y_:∀j loc,m' k j=aY loc->loc.2=1/\∃cur u fr,w'.heap[loc.1]?=aY (.cells cur u fr):=λj loc e=>by
  by_cases hj:j=n+1
  .subst hj;rw[ET]at e;obtain⟨g,hg,rfl⟩:=bQ.1 e;exact⟨rfl,mT g hg⟩
  .rw[n9 j hj]at e;obtain⟨e1,cur,u,fr,e2⟩:=h6 j loc e;refine⟨e1,?_⟩;by_cases hb:loc.1=b
   .rw[hb];exact⟨_,_,_,t2⟩
   .by_cases pr:v0.ownBlock=aY loc.1
    .exact t9 _ pr hb
    .rw[t7 loc.1 (Array.getElem?_eq_some_iff.1 e2).1 hb pr];exact⟨_,_,_,e2⟩
 have hz:∀a x,Z a=aY x->∀j,m' k j≠aY (a.block,1):=λa x ha j e=>by
  by_cases hj:j=n+1
  .subst hj;rw[ET]at e;obtain⟨g,hg,e2⟩:=bQ.1 e;simp only[Prod.mk.injEq,and_true]at e2;subst e2
   rcases t8 _ hg with h9|h9
   .have:=iB ha;omega
   .obtain⟨j,hj⟩:=h4 _ h9;exact h7 a x ha _ hj
  .rw[n9 j hj]at e;exact h7 a x ha j e
 have np:∀a x,Z a=aY x->w'.cell? a=aY x:=λa x ha=>by
  have h8:=hs.frozen a x ha
  have h9:=old a.block (iB ha) λj=>h7 a x ha j
  simpa only[World.cell?,h9]using h8
 refine⟨m',⟨np,λq hq=>?_,hs.nodup,λq hq r hr c _ _=>?_⟩,λk' L loc e=>?_,λ_ _ e=>e,t3,t4,t5,t6,λc hc hn=>?_,λ_ h=>h,λk' hk=>?_,λq hq c hc=>?_,λ_ _ e=>.inl e⟩
 .cases gX.1 hq;refine⟨b,n+1,p',v',(n9 0 aaM).trans h1,t2,h,λg hg=>⟨n,by rw[ET,hg];rfl⟩,λj hj=>?_,Y_,hz⟩;rw[n9 j ab];exact h5 j ab
 .cases gX.1 hq;cases gX.1 hr;rfl
 .by_cases hk:k'=k
  .subst hk;by_cases hL:L=n+1
   .subst hL;rw[pI]at e;cases e
   .rw[n9 L hL];exact e
  .rw[OL k' hk];exact e
 .exact old c hc λj e=>hn _ (gX.2 rfl) ⟨j,e⟩
 .have:k'≠k:=λe=>hk (by subst e;exact gX.2 rfl)
  exact OL k' this
 .cases gX.1 hq;obtain⟨j,e⟩:=hc;by_cases hj:j=n+1
  .subst hj;rw[ET]at e;obtain⟨g,hg,e2⟩:=bQ.1 e;simp only[Prod.mk.injEq,and_true]at e2;subst e2
   rcases t8 _ hg with h9|h9
   .exact .inl h9
   .obtain⟨j,hj⟩:=h4 _ h9;exact .inr ⟨_,gX.2 rfl,_,hj⟩
  .rw[n9 j hj]at e;exact .inr ⟨_,gX.2 rfl,j,e⟩
def strCells_eq(t:aj):Lib.strCells ⟨t.toArray⟩=Lib.byteCells t:=by simp[Lib.strCells,Lib.byteCells]
def zad(a b:aj):Lib.byteCells (a++b)=Lib.byteCells a++Lib.byteCells b:=by simp[Lib.byteCells]
def size_mk(t:aj):(⟨t.toArray⟩:ByteArray).size=t.length:=by show t.toArray.size=_;simp
def Lm{m:M}{Z:ZM}{k:Nat}{vs:List V}{vals:List bw}{b:Nat}(hb:m k 0=aY (b,1))(h:zu (aY m) Z (.ptr k 0 0::vs) vals):∃r,vals=.pointer (aY ⟨b,0,bh⟩)::r/\zu (aY m) Z vs r:=by obtain⟨x,xs,rfl,⟨f,loc,e1,e2,rfl⟩,h2⟩:=h;cases e1;rw[hb]at e2;cases e2;exact⟨xs,rfl,h2⟩
def zxu{T:Nat}(hT:Ea T)(k:Nat)(s t:aj)(hl:s.length+t.length<=140737488355328):mN bj 35 [.ptr k 0 0,.str t] [(k,sb T s)] (.ij [.int .i64 (t.length:Nat),.mn]) [(k,sb T (s++t))]:=by intro w m Z vals hs hv _;obtain⟨b,h1,h2⟩:=MP hs;obtain⟨r,rfl,h3⟩:=Lm h1 hv;obtain⟨x,xs,rfl,rfl,h4⟩:=h3;cases h4;refine Calls.mono (zvy hT b _ ⟨t.toArray⟩ w h2 (by rw[Lib.byteCells_length,size_mk];exact hl)).1 ?_;rintro en w' ⟨rfl,h5,h6⟩;rw[strCells_eq,<- zad]at h5;obtain⟨m',st⟩:=T3 hs h1 h5 h6;exact⟨_,m',Z,rfl,st,_,rfl,_,_,rfl,by rw[size_mk];rfl,_,_,rfl,rfl,rfl⟩
def zks{T:Nat}(k:Nat)(s:aj):mN bj 37 [.ptr k 0 0] [(k,sb T s)] (.str s) [(k,sb T s)]:=by intro w m Z vals hs hv _;obtain⟨b,h1,h2⟩:=MP hs;obtain⟨r,rfl,h3⟩:=Lm h1 hv;cases h3;refine Calls.mono (zjr b s w h2) ?_;rintro en w' ⟨rfl,h5,h6⟩;obtain⟨m',st⟩:=T3 hs h1 h5 h6;exact⟨_,m',Z,rfl,st,rfl⟩
def zxv{T:Nat}(k:Nat)(s:aj):mN bj 36 [.ptr k 0 0] [(k,sb T s)] (.int .i64 (s.length:Nat)) [(k,sb T s)]:=by intro w m Z vals hs hv _;obtain⟨b,h1,h2⟩:=MP hs;obtain⟨r,rfl,h3⟩:=Lm h1 hv;cases h3;refine Calls.mono (zvz b _ w h2) ?_;rintro en w' ⟨rfl,rfl⟩;exact⟨_,m,Z,rfl,Step.refl hs,by rw[Lib.byteCells_length];rfl⟩
def UK{T k:Nat}{m:M}{Z:ZM}{w:bG}(h:Holds m Z w k (.box T [.lF,.iO])):Holds m Z w k (sb T [])/\∀b,gT m (k,sb T []) b->gT m (k,.box T [.lF,.iO]) b:=by
 obtain⟨b,cur,h1,h2,h3,h4,h5⟩:=h;obtain⟨x,xs,e1,hx,y,ys,e2,hy,e3⟩:=h3;subst e3;subst e2;have hx:x=.pointer bh:=hx;have hy:y=.slice bh 0 0:=hy;subst hx;subst hy
 have hc:cur=#[.pointer bh,.slice bh 0 0]:=by apply Array.ext';rw[e1]
 subst hc
 have only:∀j loc,m k j=aY loc->j=0/\loc=(b,1):=λj loc e=>by have h6:=h5 j loc e;have h7:j=0:=Nat.le_zero.1 h6;subst h7;rw[h1]at e;exact⟨rfl,(Option.some.inj e).symm⟩
 refine⟨⟨b,0,_,_,h1,h2,.inl ⟨cx _,_,h2,World.ownsRowF_nil _ _ _ _,by simp[Value.ownBlock]⟩,λg hg=>(by cases hg),λj hj=>?_,λj loc e=>?_,λa x ha j e=>?_⟩,λc hc=>?_⟩
 .cases e:m k j with
  |none=>rfl
  |some loc=>have:=(only j loc e).1;omega
 .obtain⟨_,rfl⟩:=only j loc e;exact⟨rfl,_,_,_,h2⟩
 .have:=(only j _ e).2;simp only[Prod.mk.injEq,and_true]at this;exact h4 a x ha this
 .obtain⟨j,e⟩:=hc;obtain⟨_,e2⟩:=only j _ e;simp only[Prod.mk.injEq,and_true]at e2;subst e2;simp[gT,qK,Obj.iZ,h1]
end Go.Proofs.YtkmjhipiiifekaaGreatDoor
namespace Go.Proofs
open Go.Shelf
def Tryz.afd:Go.Shelf.Ren:=⟨λ|125=>249|128=>276|129=>277|n=>n,λ|46=>334|3=>3|51=>318|53=>357|4=>4|5=>5|9=>9|n=>n,λ|n=>n⟩
def Tryz.ae7:Go.Proofs.Lays.n125 bj Tryz.afd:={
 mixed:=by kernel_rfl
 f125:=Tryz.func249.trans (aP aY (by kernel_rfl))
 f128:=Tryz.func276.trans (aP aY (by kernel_rfl))
 f129:=Tryz.func277.trans (aP aY (by kernel_rfl))
 t3:=cT
 a3:=Tryz.isAgg3
 z3:=Tryz.sizeOf3
 v3:=Tryz.zeroValue3
 t4:=db
 a4:=Tryz.isAgg4
 z4:=Tryz.sizeOf4
 v4:=Tryz.zeroValue4
 t5:=dy
 a5:=Tryz.isAgg5
 z5:=Tryz.sizeOf5
 v5:=Tryz.zeroValue5
 t9:=cL
 a9:=Tryz.isAgg9
 z9:=Tryz.sizeOf9
 v9:=Tryz.zeroValue9
 t46:=dM
 a46:=Tryz.isAgg334
 z46:=Tryz.sizeOf334
 v46:=Tryz.zeroValue334
 t51:=dO
 a51:=Tryz.isAgg318
 z51:=Tryz.sizeOf318
 v51:=Tryz.zeroValue318
 t53:=eo
 a53:=Tryz.isAgg357
 z53:=Tryz.sizeOf357
 v53:=Tryz.zeroValue357 }
def Tryz.bits_Len(x:Int)(w:bG)(h0:0<=x)(h1:x<=18446744073709551615):
  Calls bj 249 #[.int .u64 x] w λe w'=>e=.returned (.int .i64 (Lib.bitLen x.toNat))/\w'=w:=Any.bits_Len Tryz.ae7 x w h0 h1
def Tryz.afg:Go.Shelf.Ren:=⟨λ|171=>122|243=>205|246=>244|283=>260|284=>261|285=>262|286=>263|129=>277|317=>280|318=>281|319=>282|320=>283|337=>290|338=>291|n=>n,λ|3=>3|9=>9|2=>2|4=>4|171=>356|0=>0|53=>357|37=>96|5=>5|173=>360|212=>379|51=>318|20=>20|213=>380|46=>334|232=>396|233=>397|n=>n,λ|17=>6|18=>7|19=>8|n=>n⟩
def Tryz.ae':Go.Proofs.LaysM.n171 bj Tryz.afg:={
 mixed:=by kernel_rfl
 f129:=Tryz.func277.trans (aP aY (by kernel_rfl))
 f171:=Tryz.func122.trans (aP aY (by kernel_rfl))
 f243:=Tryz.func205.trans (aP aY (by kernel_rfl))
 f246:=Tryz.func244.trans (aP aY (by kernel_rfl))
 f283:=Tryz.func260.trans (aP aY (by kernel_rfl))
 f284:=Tryz.func261.trans (aP aY (by kernel_rfl))
 f285:=Tryz.func262.trans (aP aY (by kernel_rfl))
 f286:=Tryz.func263.trans (aP aY (by kernel_rfl))
 f317:=Tryz.func280.trans (aP aY (by kernel_rfl))
 f318:=Tryz.func281.trans (aP aY (by kernel_rfl))
 f319:=Tryz.func282.trans (aP aY (by kernel_rfl))
 f320:=Tryz.func283.trans (aP aY (by kernel_rfl))
 f337:=Tryz.func290.trans (aP aY (by kernel_rfl))
 f338:=Tryz.func291.trans (aP aY (by kernel_rfl))
 t0:=ee
 a0:=Tryz.isAgg0
 z0:=Tryz.sizeOf0
 v0:=Tryz.zeroValue0
 t2:=Tryz.underlying2
 a2:=Tryz.isAgg2
 z2:=Tryz.sizeOf2
 v2:=Tryz.zeroValue2
 t3:=cT
 a3:=Tryz.isAgg3
 z3:=Tryz.sizeOf3
 v3:=Tryz.zeroValue3
 t4:=db
 a4:=Tryz.isAgg4
 z4:=Tryz.sizeOf4
 v4:=Tryz.zeroValue4
 t5:=dy
 a5:=Tryz.isAgg5
 z5:=Tryz.sizeOf5
 v5:=Tryz.zeroValue5
 t9:=cL
 a9:=Tryz.isAgg9
 z9:=Tryz.sizeOf9
 v9:=Tryz.zeroValue9
 t20:=ft
 a20:=Tryz.isAgg20
 z20:=Tryz.sizeOf20
 v20:=Tryz.zeroValue20
 t37:=dE
 a37:=Tryz.isAgg96
 z37:=Tryz.sizeOf96
 v37:=Tryz.zeroValue96
 t46:=dM
 a46:=Tryz.isAgg334
 z46:=Tryz.sizeOf334
 v46:=Tryz.zeroValue334
 t51:=dO
 a51:=Tryz.isAgg318
 z51:=Tryz.sizeOf318
 v51:=Tryz.zeroValue318
 t53:=eo
 a53:=Tryz.isAgg357
 z53:=Tryz.sizeOf357
 v53:=Tryz.zeroValue357
 t171:=Tryz.underlying356
 a171:=Tryz.isAgg356
 z171:=Tryz.sizeOf356
 v171:=Tryz.zeroValue356
 t173:=Tryz.underlying360
 a173:=Tryz.isAgg360
 z173:=Tryz.sizeOf360
 v173:=Tryz.zeroValue360
 t212:=Tryz.underlying379
 a212:=Tryz.isAgg379
 z212:=Tryz.sizeOf379
 v212:=Tryz.zeroValue379
 t213:=Tryz.underlying380
 a213:=Tryz.isAgg380
 z213:=Tryz.sizeOf380
 t232:=Tryz.underlying396
 a232:=Tryz.isAgg396
 z232:=Tryz.sizeOf396
 v232:=Tryz.zeroValue396
 t233:=Tryz.underlying397
 a233:=Tryz.isAgg397
 z233:=Tryz.sizeOf397
 v233:=Tryz.zeroValue397
 g17:=by kernel_rfl
 g18:=by kernel_rfl
 g19:=by kernel_rfl
 i0:=by kernel_rfl
 i2:=by kernel_rfl
 i3:=by kernel_rfl
 i4:=by kernel_rfl
 i5:=by kernel_rfl
 i9:=by kernel_rfl
 i20:=by kernel_rfl
 i37:=by kernel_rfl
 i46:=by kernel_rfl
 i51:=by kernel_rfl
 i53:=by kernel_rfl
 i171:=by kernel_rfl
 i173:=by kernel_rfl
 i212:=by kernel_rfl
 i232:=by kernel_rfl
 i233:=by kernel_rfl
 m17:=by kernel_rfl
 m18:=by kernel_rfl
 m19:=by kernel_rfl }
open Go.RowKit Go.Sort Go.Lib in
theorem Tryz.strconv_Itoa (n : Int) (h0 : -9223372036854775808 <= n) (h1 : n <= 9223372036854775807) (w : bG) (Nq : Lib.TabIs bj w "internal/strconv.uint64pow10" .u64 Lib.pow10Tab):
  Calls bj 122 #[.int .i64 n] w λe w'=>e=.returned (.string ⟨(Lib.itoa n).toArray⟩)/\∃k os,w'=grow (w.drewN k) os:=Any.strconv_Itoa Tryz.ae' n h0 h1 w Nq
def Tryz.afe:Go.Shelf.Ren:=⟨λ|144=>156|143=>203|219=>242|217=>256|225=>257|224=>258|267=>259|266=>278|314=>279|n=>n,λ|9=>9|4=>4|3=>3|5=>5|46=>334|146=>376|51=>318|n=>n,λ|1=>3|n=>n⟩
def Tryz.ae8:Go.Proofs.Lays.n144 bj Tryz.afe:={
 mixed:=by kernel_rfl
 f143:=Tryz.func203.trans (aP aY (by kernel_rfl))
 f144:=Tryz.func156.trans (aP aY (by kernel_rfl))
 f217:=Tryz.func256.trans (aP aY (by kernel_rfl))
 f219:=Tryz.func242.trans (aP aY (by kernel_rfl))
 f224:=Tryz.func258.trans (aP aY (by kernel_rfl))
 f225:=Tryz.func257.trans (aP aY (by kernel_rfl))
 f266:=Tryz.func278.trans (aP aY (by kernel_rfl))
 f267:=Tryz.func259.trans (aP aY (by kernel_rfl))
 f314:=Tryz.func279.trans (aP aY (by kernel_rfl))
 t3:=cT
 a3:=Tryz.isAgg3
 z3:=Tryz.sizeOf3
 v3:=Tryz.zeroValue3
 t4:=db
 a4:=Tryz.isAgg4
 z4:=Tryz.sizeOf4
 v4:=Tryz.zeroValue4
 t5:=dy
 a5:=Tryz.isAgg5
 z5:=Tryz.sizeOf5
 v5:=Tryz.zeroValue5
 t9:=cL
 a9:=Tryz.isAgg9
 z9:=Tryz.sizeOf9
 v9:=Tryz.zeroValue9
 t46:=dM
 a46:=Tryz.isAgg334
 z46:=Tryz.sizeOf334
 v46:=Tryz.zeroValue334
 t51:=dO
 a51:=Tryz.isAgg318
 z51:=Tryz.sizeOf318
 v51:=Tryz.zeroValue318
 t146:=fV
 a146:=Tryz.isAgg376
 z146:=Tryz.sizeOf376
 v146:=Tryz.zeroValue376
 g1:=by kernel_rfl }
open Go.RowKit Go.Lib in
theorem Tryz.strings_Contains(s sub:ByteArray)(m:Int)(w:bG)(hs:s.size<4294967281)(hm:w.cell? ⟨3,0,bh⟩=aY (.int .i64 m)):
  Calls bj 156 #[.string s,.string sub] w λe w'=>e=.returned (.bool (Lib.contains s.data.toList sub.data.toList))/\w'=w:=Any.strings_Contains Tryz.ae8 s sub m w hs hm
def Tryz.aff:Go.Shelf.Ren:=⟨λ|189=>223|125=>249|257=>248|128=>276|129=>277|294=>267|295=>268|296=>269|297=>270|298=>271|299=>272|216=>273|300=>274|301=>275|328=>285|329=>286|330=>287|331=>288|332=>289|215=>222|343=>300|n=>n,λ|28=>51|3=>3|46=>334|0=>0|51=>318|53=>357|4=>4|183=>367|182=>366|131=>203|5=>5|9=>9|218=>382|222=>386|228=>393|229=>394|n=>n,λ|n=>n⟩
def Tryz.θ:Go.Proofs.Lays.n189 bj Tryz.aff:={
 mixed:=by kernel_rfl
 f125:=Tryz.func249.trans (aP aY (by kernel_rfl))
 f128:=Tryz.func276.trans (aP aY (by kernel_rfl))
 f129:=Tryz.func277.trans (aP aY (by kernel_rfl))
 f189:=Tryz.func223.trans (aP aY (by kernel_rfl))
 f215:=Tryz.func222.trans (aP aY (by kernel_rfl))
 f216:=Tryz.func273.trans (aP aY (by kernel_rfl))
 f257:=Tryz.func248.trans (aP aY (by kernel_rfl))
 f294:=Tryz.func267.trans (aP aY (by kernel_rfl))
 f295:=Tryz.func268.trans (aP aY (by kernel_rfl))
 f296:=Tryz.func269.trans (aP aY (by kernel_rfl))
 f297:=Tryz.func270.trans (aP aY (by kernel_rfl))
 f298:=Tryz.func271.trans (aP aY (by kernel_rfl))
 f299:=Tryz.func272.trans (aP aY (by kernel_rfl))
 f300:=Tryz.func274.trans (aP aY (by kernel_rfl))
 f301:=Tryz.func275.trans (aP aY (by kernel_rfl))
 f328:=Tryz.func285.trans (aP aY (by kernel_rfl))
 f329:=Tryz.func286.trans (aP aY (by kernel_rfl))
 f330:=Tryz.func287.trans (aP aY (by kernel_rfl))
 f331:=Tryz.func288.trans (aP aY (by kernel_rfl))
 f332:=Tryz.func289.trans (aP aY (by kernel_rfl))
 f343:=Tryz.func300.trans (aP aY (by kernel_rfl))
 t0:=ee
 a0:=Tryz.isAgg0
 z0:=Tryz.sizeOf0
 v0:=Tryz.zeroValue0
 t3:=cT
 a3:=Tryz.isAgg3
 z3:=Tryz.sizeOf3
 v3:=Tryz.zeroValue3
 t4:=db
 a4:=Tryz.isAgg4
 z4:=Tryz.sizeOf4
 v4:=Tryz.zeroValue4
 t5:=dy
 a5:=Tryz.isAgg5
 z5:=Tryz.sizeOf5
 v5:=Tryz.zeroValue5
 t9:=cL
 a9:=Tryz.isAgg9
 z9:=Tryz.sizeOf9
 v9:=Tryz.zeroValue9
 t28:=gq
 a28:=Tryz.isAgg51
 z28:=Tryz.sizeOf51
 v28:=Tryz.zeroValue51
 t46:=dM
 a46:=Tryz.isAgg334
 z46:=Tryz.sizeOf334
 v46:=Tryz.zeroValue334
 t51:=dO
 a51:=Tryz.isAgg318
 z51:=Tryz.sizeOf318
 v51:=Tryz.zeroValue318
 t53:=eo
 a53:=Tryz.isAgg357
 z53:=Tryz.sizeOf357
 v53:=Tryz.zeroValue357
 t131:=Tryz.underlying203
 a131:=Tryz.isAgg203
 z131:=Tryz.sizeOf203
 v131:=Tryz.zeroValue203
 t182:=Tryz.underlying366
 a182:=Tryz.isAgg366
 z182:=Tryz.sizeOf366
 v182:=Tryz.zeroValue366
 t183:=Tryz.underlying367
 a183:=Tryz.isAgg367
 z183:=Tryz.sizeOf367
 v183:=Tryz.zeroValue367
 t218:=Tryz.underlying382
 a218:=Tryz.isAgg382
 z218:=Tryz.sizeOf382
 v218:=Tryz.zeroValue382
 t222:=Tryz.underlying386
 a222:=Tryz.isAgg386
 z222:=Tryz.sizeOf386
 v222:=Tryz.zeroValue386
 t228:=Tryz.underlying393
 a228:=Tryz.isAgg393
 z228:=Tryz.sizeOf393
 v228:=Tryz.zeroValue393
 t229:=Tryz.underlying394
 a229:=Tryz.isAgg394
 z229:=Tryz.sizeOf394
 v229:=Tryz.zeroValue394 }
open Go.Sort Go.RowKit in
theorem Tryz.slices_Sort_int(gT off cap:Nat)(zs:List Int)(w:bG)(hH:Holds (Value.int .i64) w gT off zs.toArray)(nf:gT<w.heap.size)(iz:zs.length<4611686018427387904):
  Calls bj 223 #[.slice (aY ⟨gT,off,bh⟩) zs.length cap] w λe w' =>
   e=.returned (.tuple #[])/\∃n os,w'=grow (putRow (Value.int .i64) (Sort.ahead w n) gT off (zs.mergeSort λx y=>decide (x<=y)).toArray) os:=Any.slices_Sort_int Tryz.θ gT off cap zs w hH nf iz
def Tryz.afc:Go.Shelf.Ren:=⟨λ|99=>178|206=>225|n=>n,λ|9=>9|4=>4|3=>3|n=>n,λ|n=>n⟩
def Tryz.ae3:Go.Proofs.Lays.n99 bj Tryz.afc:={
 mixed:=by kernel_rfl
 f99:=Tryz.func178.trans (aP aY (by kernel_rfl))
 f206:=Tryz.func225.trans (aP aY (by kernel_rfl))
 t3:=cT
 a3:=Tryz.isAgg3
 z3:=Tryz.sizeOf3
 v3:=Tryz.zeroValue3
 t4:=db
 a4:=Tryz.isAgg4
 z4:=Tryz.sizeOf4
 v4:=Tryz.zeroValue4
 t9:=cL
 a9:=Tryz.isAgg9
 z9:=Tryz.sizeOf9
 v9:=Tryz.zeroValue9 }
open Go.RowKit Go.Lib in
theorem Tryz.strings_HasPrefix(s p:ByteArray)(w:bG):
  Calls bj 178 #[.string s,.string p] w λe w'=>e=.returned (.bool (Lib.hasPrefix s.data.toList p.data.toList))/\w'=w:=Any.strings_HasPrefix Tryz.ae3 s p w
def Tryz.π:Go.Shelf.Ren:=⟨λ|154=>121|138=>201|165=>202|143=>203|166=>35|197=>204|169=>37|195=>239|218=>240|240=>123|241=>241|219=>242|260=>243|276=>206|277=>255|217=>256|225=>257|224=>258|267=>259|266=>278|314=>279|n=>n,λ|9=>9|3=>3|4=>4|72=>98|0=>0|76=>105|105=>286|21=>21|5=>5|70=>95|20=>20|37=>96|75=>104|127=>217|164=>288|46=>334|119=>281|139=>355|138=>354|146=>376|51=>318|80=>108|n=>n,λ|1=>3|3=>4|4=>5|n=>n⟩
def Tryz.ae9:Go.Proofs.Lays.n154 bj Tryz.π:={
 mixed:=by kernel_rfl
 f138:=Tryz.func201.trans (aP aY (by kernel_rfl))
 f143:=Tryz.func203.trans (aP aY (by kernel_rfl))
 f154:=Tryz.func121.trans (aP aY (by kernel_rfl))
 f165:=Tryz.func202.trans (aP aY (by kernel_rfl))
 f166:=Tryz.func35.trans (aP aY (by kernel_rfl))
 f169:=Tryz.func37.trans (aP aY (by kernel_rfl))
 f195:=Tryz.func239.trans (aP aY (by kernel_rfl))
 f197:=Tryz.func204.trans (aP aY (by kernel_rfl))
 f217:=Tryz.func256.trans (aP aY (by kernel_rfl))
 f218:=Tryz.func240.trans (aP aY (by kernel_rfl))
 f219:=Tryz.func242.trans (aP aY (by kernel_rfl))
 f224:=Tryz.func258.trans (aP aY (by kernel_rfl))
 f225:=Tryz.func257.trans (aP aY (by kernel_rfl))
 f240:=Tryz.func123.trans (aP aY (by kernel_rfl))
 f241:=Tryz.func241.trans (aP aY (by kernel_rfl))
 f260:=Tryz.func243.trans (aP aY (by kernel_rfl))
 f266:=Tryz.func278.trans (aP aY (by kernel_rfl))
 f267:=Tryz.func259.trans (aP aY (by kernel_rfl))
 f276:=Tryz.func206.trans (aP aY (by kernel_rfl))
 f277:=Tryz.func255.trans (aP aY (by kernel_rfl))
 f314:=Tryz.func279.trans (aP aY (by kernel_rfl))
 t0:=ee
 a0:=Tryz.isAgg0
 z0:=Tryz.sizeOf0
 v0:=Tryz.zeroValue0
 t3:=cT
 a3:=Tryz.isAgg3
 z3:=Tryz.sizeOf3
 v3:=Tryz.zeroValue3
 t4:=db
 a4:=Tryz.isAgg4
 z4:=Tryz.sizeOf4
 v4:=Tryz.zeroValue4
 t5:=dy
 a5:=Tryz.isAgg5
 z5:=Tryz.sizeOf5
 v5:=Tryz.zeroValue5
 t9:=cL
 a9:=Tryz.isAgg9
 z9:=Tryz.sizeOf9
 v9:=Tryz.zeroValue9
 t20:=ft
 a20:=Tryz.isAgg20
 z20:=Tryz.sizeOf20
 v20:=Tryz.zeroValue20
 t21:=Tryz.underlying21
 a21:=Tryz.isAgg21
 z21:=Tryz.sizeOf21
 v21:=Tryz.zeroValue21
 t37:=dE
 a37:=Tryz.isAgg96
 z37:=Tryz.sizeOf96
 v37:=Tryz.zeroValue96
 t46:=dM
 a46:=Tryz.isAgg334
 z46:=Tryz.sizeOf334
 v46:=Tryz.zeroValue334
 t51:=dO
 a51:=Tryz.isAgg318
 z51:=Tryz.sizeOf318
 v51:=Tryz.zeroValue318
 t70:=Tryz.underlying95
 a70:=Tryz.isAgg95
 z70:=Tryz.sizeOf95
 v70:=Tryz.zeroValue95
 t72:=Tryz.underlying98
 a72:=Tryz.isAgg98
 z72:=Tryz.sizeOf98
 v72:=Tryz.zeroValue98
 t75:=Tryz.underlying104
 a75:=Tryz.isAgg104
 z75:=Tryz.sizeOf104
 v75:=Tryz.zeroValue104
 t76:=Tryz.underlying105
 a76:=Tryz.isAgg105
 z76:=Tryz.sizeOf105
 v76:=Tryz.zeroValue105
 t105:=Tryz.underlying286
 a105:=Tryz.isAgg286
 z105:=Tryz.sizeOf286
 v105:=Tryz.zeroValue286
 t119:=Tryz.underlying281
 a119:=Tryz.isAgg281
 z119:=Tryz.sizeOf281
 t127:=Tryz.underlying217
 a127:=Tryz.isAgg217
 z127:=Tryz.sizeOf217
 v127:=Tryz.zeroValue217
 t138:=Tryz.underlying354
 a138:=Tryz.isAgg354
 z138:=Tryz.sizeOf354
 v138:=Tryz.zeroValue354
 t139:=Tryz.underlying355
 a139:=Tryz.isAgg355
 z139:=Tryz.sizeOf355
 v139:=Tryz.zeroValue355
 t146:=fV
 a146:=Tryz.isAgg376
 z146:=Tryz.sizeOf376
 v146:=Tryz.zeroValue376
 t164:=Tryz.underlying288
 a164:=Tryz.isAgg288
 z164:=Tryz.sizeOf288
 v164:=Tryz.zeroValue288
 g1:=by kernel_rfl
 g3:=by kernel_rfl
 g4:=by kernel_rfl }
def Tryz.afi:Builder.Extra bj Tryz.π:={
 sizeBuilder:=by kernel_rfl
 liesBuilder:=by kernel_rfl
 t5:=dy
 a5:=Tryz.isAgg5
 z5:=Tryz.sizeOf5
 v5:=Tryz.zeroValue5
 infoByte:=by kernel_rfl
 cellsByte:=by kernel_rfl
 sizeByte:=by kernel_rfl
 neB5:=by decide }
open Go.RowKit Go.Lib in
theorem Tryz.strings_Replace(s old new:ByteArray)(n:Int)(m:Int)(w:bG)(hs:s.size<4294967281)(hm:w.cell? ⟨3,0,bh⟩=aY (.int .i64 m))(h1:1<=old.size)(hlen:s.size+Lib.countB s old*new.size<=140737488355328):
  Calls bj 121 #[.string s,.string old,.string new,.int .i64 n] w λe w' =>
   e=.returned (.string ⟨(Lib.replace s.data.toList old.data.toList new.data.toList n).toArray⟩)/\Below w.heap.size w w':=Any.strings_Replace Tryz.ae9 Tryz.afi s old new n m w hs hm h1 hlen
def Tryz.afh:Go.Shelf.Ren:=⟨λ|20=>224|n=>n,λ|22=>51|3=>3|4=>4|0=>0|n=>n,λ|n=>n⟩
def Tryz.ξ:Go.Proofs.Lays2.n20 bj Tryz.afh:={
 mixed:=by kernel_rfl
 f20:=Tryz.func224.trans (aP aY (by kernel_rfl))
 t0:=ee
 a0:=Tryz.isAgg0
 z0:=Tryz.sizeOf0
 v0:=Tryz.zeroValue0
 t3:=cT
 a3:=Tryz.isAgg3
 z3:=Tryz.sizeOf3
 v3:=Tryz.zeroValue3
 t4:=db
 a4:=Tryz.isAgg4
 z4:=Tryz.sizeOf4
 v4:=Tryz.zeroValue4
 t22:=gq
 a22:=Tryz.isAgg51
 z22:=Tryz.sizeOf51
 v22:=Tryz.zeroValue51
 i3:=by kernel_rfl }
open Go.RowKit Go.Lib Go.Sort in
theorem Tryz.slices_Compact_int(gT off cap:Nat)(zs:List Int)(w:bG)(hH:Holds (Value.int .i64) w gT off zs.toArray)(iz:zs.length<=9223372036854775807)(Bv:zs.length<=cap):
  Calls bj 224 #[.slice (aY ⟨gT,off,bh⟩) zs.length cap] w λe w'=>e=.returned (.slice (aY ⟨gT,off,bh⟩) (Lib.compact zs).length cap)/\∃q,w'=putRow (Value.int .i64) (Sort.ahead w q) gT off (Lib.compact zs++List.replicate (zs.length-(Lib.compact zs).length) 0).toArray:=Any.slices_Compact_int Tryz.ξ gT off cap zs w hH iz Bv
open Go.RowKit Go.Lib Go.Sort in
theorem Tryz.slices_Compact_int_empty(a:Option Addr)(cap:Nat)(w:bG):
  Calls bj 224 #[.slice a 0 cap] w λe w'=>e=.returned (.slice a 0 cap)/\w'=w:=Any.slices_Compact_int_empty Tryz.ξ a cap w
open Go.RowKit Go.Sort in
theorem Tryz.slices_Sort_int_none(p:Option Addr)(cap:Nat)(w:bG):
  Calls bj 223 #[.slice p 0 cap] w λe w'=>e=.returned (.tuple #[])/\w'=w:=Any.slices_Sort_int_none Tryz.θ p cap w
end Go.Proofs
set_option maxRecDepth 100000
namespace Go.Proofs.YtkmjhipiiifekaaGreatDoor
open Go Go.RowKit Go.lA Go.EV Go.EQ
def YR:List aj:=[[60,61],[61,61],[59],[44],[58],[61],[60],[43],[45],[42],[47],[37],[40],[41]]
def EA(ob:Go.Obj):EV.Obj:=.my 0 ob (YR.map V.str)
def EC(ob:Go.Obj):EV.Obj:=.my 1 ob (Lib.asciiSpaceTab.map (V.int .u8))
def B3(ob:Go.Obj)(m:Int):EV.Obj:=.my 3 ob [.int .i64 m]
def CY(ob:Go.Obj):EV.Obj:=.my 6 ob (Lib.pow10Tab.map (V.int .u64))
class Jg where
 Ba:Go.Obj
 Bb:Go.Obj
 Bc:Go.Obj
 m2:Int
 tB:Go.Obj
variable[Jg]
def gl:aw:=[(900000000,EA Jg.Ba),(900000001,EC Jg.Bb),(900000002,B3 Jg.Bc Jg.m2),(900000003,CY Jg.tB)]
def Q1{α:Type}{f:α->V}(h:∀a,(f a).bare=bg):∀l:List α,Jr (l.map f)=bg
 |[]=>rfl
 |a::l=>by simp only[ig,Jr,h a,Q1 h l,Bool.and_self]
def ED:D2 gl=bg:=by have h0:=Q1 (f:=V.str) (λ_=>rfl) YR;have h1:=Q1 (f:=V.int .u8) (λ_=>rfl) Lib.asciiSpaceTab;have h3:=Q1 (f:=V.int .u64) (λ_=>rfl) Lib.pow10Tab;simp only[D2,gl,cZ,List.all_nil,EA,EC,B3,CY,h0,h1,h3];rfl
def AU{α:Type}{enc:α->V}{f:α->bw}{m:Option M}{Z:ZM}(h:∀a x,dQ m Z (enc a) x->x=f a):∀{l:List α}{xs:List bw},zu m Z (l.map enc) xs->xs=l.map f
 |[],xs,hx=>hx
 |a::l,xs,hx=>by obtain⟨x,r,rfl,h1,h2⟩:=hx;rw[h a x h1,AU h h2];rfl
def bind_some{α β:Type}{o:Option α}{f:α->Option β}{r:β}(h:o.bind f=aY r):∃a,o=aY a/\f a=aY r:=cQ.1 h
def zkt(w:bG)(k:Nat)(os:Array Go.Obj):Below w.heap.size w (Sort.grow (w.drewN k) os):=
 ⟨rfl,rfl,rfl,by show w.heap.size<=(w.heap++os).size;simp,λj hj=>by
  show(w.heap++os)[j]?=_
  rw[Array.getElem?_append_left hj]⟩
def Mg(n:Int):Option aj:=(fN (-9223372036854775808<=n/\n<=9223372036854775807)).bind λ_=>aY (Lib.itoa n)
def zBs(n:Int)(r:aj)(hs:Mg n=aY r):mN bj 122 [.int .i64 n] gl (.str r) gl:=by
 unfold Mg at hs;obtain⟨_,h,hs⟩:=bind_some hs;obtain⟨h0,h1⟩:=yL h;obtain rfl:=Option.some.inj hs
 refine QV ED rfl λw Z vals hf hg hv=>?_
 obtain⟨x,xs,rfl,e1,e2⟩:=hv;cases e2;cases e1;obtain⟨cur,u,fr,g1,g2⟩:=hg (900000003,CY Jg.tB) (by simp[gl]) 6 _ _ rfl;have hc:cur.toList=Lib.pow10Tab.map (Value.int .u64):=AU (enc:=V.int .u64) (f:=Value.int .u64) (λa x h=>h) g2
 have Nq : Lib.TabIs bj w "internal/strconv.uint64pow10" .u64 Lib.pow10Tab := by
  unfold Lib.TabIs World.var?
  rw [show Tryz.prog.globalNamed "internal/strconv.uint64pow10" = aY 6 by kernel_rfl]
  simp only[aH,g1];rw[<- hc]
 refine Calls.mono (Tryz.strconv_Itoa n h0 h1 w Nq) ?_;rintro e w' ⟨rfl,k,os,rfl⟩;exact⟨_,rfl,λ_=>rfl,zkt w k os⟩
def o7:aj->aj->Bool
 |[],sub=>sub.isEmpty
 | b::l,sub=>sub.isPrefixOf (b::l)||o7 l sub
def Ry:∀s sub:aj,Lib.contains s sub=o7 s sub
 |[],sub=>by
  unfold Lib.contains Lib.index o7;cases sub<;>rfl
 |b::l,sub=>by
  have ih:=Ry l sub;have hg:=Lib.index_ge l sub;unfold Lib.contains at ih ⊢
  have ab4:Lib.index (b::l) sub=if sub.isPrefixOf (b::l)then 0 else if Lib.index l sub==-1 then -1 else Lib.index l sub+1:=by rw[Lib.index]
  unfold o7;rw[<- ih,ab4]
  cases sub.isPrefixOf (b::l)with
  |true=>simp
  |false =>
   simp only[cu,if_false,Bool.false_or];by_cases h:Lib.index l sub=-1
   .simp[h]
   .have h2:(Lib.index l sub==-1)=bf:=by simpa using h
    simp only[h2,cu,if_false];simp only[decide_eq_decide];constructor<;>intro h3<;>omega
def A5(s sub:aj):Option Bool:=(fN (List.length s<4294967281)).bind λ_=>aY (o7 s sub)
def T4{s:aj}{n:Nat}(h:s.length<n):(⟨s.toArray⟩:ByteArray).size<n:=by rw[size_mk];exact h
def zku(s sub:aj)(r:Bool)(hs:A5 s sub=aY r):mN bj 156 [.str s,.str sub] gl (.bool r) gl:=by
 unfold A5 at hs;obtain⟨_,h,hs⟩:=bind_some hs;have h0:=yL h;obtain rfl:=Option.some.inj hs
 refine QV ED rfl λw Z vals hf hg hv=>?_
 obtain⟨x,xs,rfl,e1,x2,Pr,rfl,e2,e3⟩:=hv;cases e3;cases e1;cases e2;obtain⟨cur,u,fr,g1,g2⟩:=hg (900000002,B3 Jg.Bc Jg.m2) (by simp[gl]) 3 _ _ rfl;obtain⟨y,ys,g3,rfl,rfl⟩:=g2
 have hm:w.cell? ⟨3,0,bh⟩=aY (.int .i64 Jg.m2):=by rw[cell_of_row w 3 0 cur u fr g1,<- Array.getElem?_toList,g3];rfl
 refine Calls.mono (Tryz.strings_Contains ⟨s.toArray⟩ ⟨sub.toArray⟩ Jg.m2 w (T4 h0) hm) ?_;rintro e w' ⟨rfl,rfl⟩;exact⟨_,rfl,λ_=>by rw[<- Ry];rfl,Below.refl _ _⟩
def VD(s p:aj):Option Bool:=aY (p.isPrefixOf s)
def zgd(s p:aj)(r:Bool)(hs:VD s p=aY r):mN bj 178 [.str s,.str p] [] (.bool r) []:=by
 obtain rfl:=Option.some.inj hs
 refine QV rfl rfl λw Z vals hf hg hv=>?_
 obtain⟨x,xs,rfl,e1,x2,Pr,rfl,e2,e3⟩:=hv;cases e3;cases e1;cases e2;refine Calls.mono (Tryz.strings_HasPrefix ⟨s.toArray⟩ ⟨p.toArray⟩ w) ?_;rintro e w' ⟨rfl,rfl⟩;exact⟨_,rfl,λ_=>rfl,Below.refl _ _⟩
end Go.Proofs.YtkmjhipiiifekaaGreatDoor
namespace Go.EV
open Go Go.ChangeShapes Go.WideShapes Go.ChangeAt Go.RowKit Go.Deep Go.Joins Go.lA
def DP(P:bl):List Field->Nat->Option Nat
 |[],off=>aY off
 |f::r,off=>if bk f.offset off then DP P r (off+P.cellsOf f.type)else bh
def Cy(P:bl)(t:bu):Bool:=match P.underlying t with
 |some (.struct fs)=>match DP P fs.toList 0 with|some n=>bk n (P.cellsOf t)|none=>bf
 |some (.array m e)=>bk (m*P.cellsOf e) (P.cellsOf t)
 |_=>bg
def DQ(P:bl)(t:bu):Bool:=match P.underlying t with
 |some (.struct fs)=>fs.toList.all λf=>ck (f.type+1) P.types.size
 |some (.array _ e)|some (.slice e)=>ck (e+1) P.types.size
 |_=>bg
def zBt(P:bl):Bool:=(List.range P.types.size).all λt=>Cy P t&&DQ P t
def o8(P:bl)(t:bu):Bool:=match P.underlying t with
 |some .bool|some (.int _)|some .string|some (.slice _)|some (.struct _)|some (.array ..)=>bg
 |_=>bf
inductive zn(P:bl):bu->List V->Prop
 |bool {t:bu} {b:Bool} (h:P.underlying t=aY .bool):zn P t [.bool b]
 |int {t:bu} {k:IntKind} {n:Int} (h:P.underlying t=aY (.int k)) (hw:(Lit.int k n).wf=bg):zn P t [.int k n]
 |str {t:bu} {s:aj} (h:P.underlying t=aY .string) (hl:s.length<=maxLen):zn P t [.str s]
 |slice {t e:bu} {els:List (List V)} (h:P.underlying t=aY (.slice e)) (hl:els.length<=maxLen) (hx:∀x∈els,zn P e x):zn P t [.vs (P.cellsOf e) els]
 |struct {t:bu} {fs:Array Field} {cs:List V} (h:P.underlying t=aY (.struct fs)) (hc:cs.length=P.cellsOf t) (hx:∀f∈fs.toList,zn P f.type ((cs.drop f.offset).take (P.cellsOf f.type))):zn P t cs
 |array {t e:bu} {m:Nat} {cs:List V} (h:P.underlying t=aY (.array m e)) (hc:cs.length=P.cellsOf t) (hx:∀i,i<m->zn P e ((cs.drop (i*P.cellsOf e)).take (P.cellsOf e))):zn P t cs
 |other {t:bu} {cs:List V} (h:o8 P t=bf):zn P t cs
def S7{α:Type}[Inhabited α]{p:Nat->α->Prop}:∀n:Nat,(∀i,i<n->∃x,p i x)->∃l:List α,l.length=n/\∀i x,l[i]?=aY x->p i x
 |0,_=>⟨[],rfl,λi x h=>by simp at h⟩
 |n+1,h=>by
  obtain⟨l,hl,hp⟩:=S7 n (λi hi=>h i ab);obtain⟨x,hx⟩:=h n ab;refine⟨l++[x],by simp[hl],λi y hy=>?_⟩;rw[List.getElem?_append]at hy;split at hy
  .exact hp i y hy
  .rename_i iB
   have:i=n:=by have:=(bq.1 hy).1;simp at this;omega
   subst this;rw[hl,eS]at hy;simp at hy;subst hy;exact hx
def Ks{Z:ZM}:∀cs:List bw,zu bh Z (cs.map λ_=>V.undef) cs
 |[]=>rfl
 |c::cs=>⟨c,cs,rfl,trivial,Ks cs⟩
def VE{P:bl}{Z:ZM}(cs:List bw):∀(fs:List Field)(off n:Nat),DP P fs off=aY n->n<=cs.length ->
  (∀f∈fs,∃vs,zn P f.type vs/\zu bh Z vs ((cs.drop f.offset).take (P.cellsOf f.type))) ->
  off<=n/\∃vs,vs.length=n-off/\zu bh Z vs ((cs.drop off).take (n-off))/\∀f∈fs,off<=f.offset/\zn P f.type ((vs.drop (f.offset-off)).take (P.cellsOf f.type))
 |[],off,n,h,hn,_=>by
  simp only[DP,Option.some.injEq]at h;subst h;exact⟨al,[],ae,by simp[zu],λf hf=>by cases hf⟩
 |f::fs,off,n,h,hn,hx=>by
  simp only[DP]at h;split at h
  .rename_i hb;have hb:=eb hb;obtain⟨h1,vs,h2,h3,h4⟩:=VE cs fs _ n h hn (λg hg=>hx g (iT _ hg));obtain⟨us,h5,h6⟩:=hx f ak;rw[hb]at h6
   have IQ:us.length=P.cellsOf f.type:=by have:=h6.length;rw[cD,cS]at this;omega
   refine⟨ab,us++vs,by rw[pa];omega,?_,λg hg=>?_⟩
   .have e:(cs.drop off).take (n-off)=(cs.drop off).take (P.cellsOf f.type)++(cs.drop (off+P.cellsOf f.type)).take (n-(off+P.cellsOf f.type)):=by rw[<- dW,show n-off=P.cellsOf f.type+(n-(off+P.cellsOf f.type)) by omega,gL]
    rw[e];exact h6.append h3
   .rcases bo.1 hg with rfl|hg
    .refine⟨ab,?_⟩;rw[hb,eS,dJ,<- IQ,dH];exact h5
    .obtain⟨h7,h8⟩:=h4 g hg;refine⟨ab,?_⟩;rw[show g.offset-off=us.length+(g.offset-(off+P.cellsOf f.type)) by omega,eI];rw[dx ab,cq,show us.length+(g.offset-(off+P.cellsOf f.type))-us.length=g.offset-(off+P.cellsOf f.type) by omega];exact h8
  .cases h
def YS{P:bl}{Z:ZM}(cs:List bw)(e:bu):∀(m off:Nat),off+m*P.cellsOf e<=cs.length ->
  (∀i,i<m->∃vs,zn P e vs/\zu bh Z vs ((cs.drop (off+i*P.cellsOf e)).take (P.cellsOf e))) ->
  ∃vs,vs.length=m*P.cellsOf e/\zu bh Z vs ((cs.drop off).take (m*P.cellsOf e))/\∀i,i<m->zn P e ((vs.drop (i*P.cellsOf e)).take (P.cellsOf e))
 |0,off,hn,_=>⟨[],ae,by simp[zu],λi hi=>ab⟩
 |m+1,off,hn,hx=>by
  rw[cU]at hn
  obtain⟨vs,h2,h3,h4⟩:=YS (P:=P) cs e m (off+P.cellsOf e) ab (λi hi=>by
   have:=hx (i+1) ab;rw[cU,show off+(i*P.cellsOf e+P.cellsOf e)=off+P.cellsOf e+i*P.cellsOf e by omega]at this
   exact this)
  obtain⟨us,h5,h6⟩:=hx 0 ab;rw[dw,Nat.add_zero]at h6
  have IQ:us.length=P.cellsOf e:=by have:=h6.length;rw[cD,cS]at this;omega
  refine⟨us++vs,by rw[pa,cU];omega,?_,λi hi=>?_⟩
  .have e1:(cs.drop off).take ((m+1)*P.cellsOf e)=(cs.drop off).take (P.cellsOf e)++(cs.drop (off+P.cellsOf e)).take (m*P.cellsOf e):=by rw[<- dW,cU,Nat.add_comm,gL]
   rw[e1];exact h6.append h3
  .cases i with
   |zero=>rw[dw,dJ,<- IQ,dH];exact h5
   |succ i =>
    have:=h4 i ab;rw[cU,show i*P.cellsOf e+P.cellsOf e=us.length+i*P.cellsOf e by omega,eI];rw[dx ab,cq,show us.length+i*P.cellsOf e-us.length=i*P.cellsOf e by omega];exact this
section
variable{H:Type}{enc:bu×bw->H}{P:bl}{w:bG}{base:Nat}{spare:Nat->Bool}{held:Bool}
def FQ(hP:∀t,t<P.types.size->Cy P t=bg/\DQ P t=bg):∀(fuel:Nat)(t:bu)(cs:List bw)(x:DataW H×List MemPlace),t<P.types.size->DataW.trod enc P w base spare held fuel t cs=aY x->∃vs,zn P t vs/\zu bh w.cell? vs cs
 |0,t,cs,x,_,h=>by simp[DataW.trod]at h
 |fuel+1,t,cs,x,iB,h=>by
  obtain⟨X7,Bw⟩:=hP t iB;unfold DQ at Bw
  cases ht:P.underlying t with
  |none=>exact⟨_,.other (by unfold o8;rw[ht]),Ks cs⟩
  |some d =>
   have ae0:o8 P t=bf->∃vs,zn P t vs/\zu bh w.cell? vs cs:=λhp=>⟨_,.other hp,Ks cs⟩
   cases d with
   |bool =>
    obtain⟨b,rfl,_⟩:=DataW.trod_bool ht h;exact⟨[.bool b],.bool ht,_,_,rfl,rfl,rfl⟩
   |int k =>
    obtain⟨n,rfl,_,hw⟩:=DataW.trod_int ht h;exact⟨[.int k n],.int ht hw,_,_,rfl,rfl,rfl⟩
   |string =>
    obtain⟨s,rfl,_,hs⟩:=DataW.trod_string ht h;exact⟨[.str s.data.toList],.str ht (by simpa using hs),_,_,rfl,rfl,rfl⟩
   |slice e =>
    rcases DataW.trod_slice ht h with⟨rfl,_⟩|⟨a,len,cap,elems,rest,n,hn,rfl,_,_,hl,hm,hlen,OB,_⟩
    .exact⟨[.vs (P.cellsOf e) []],.slice ht (cx _) (λ_ h=>by cases h),_,_,rfl,⟨bh,0,rfl,al,cx _,.inl rfl⟩,rfl⟩
    .have hn:n=fuel:=ab;subst hn
     obtain⟨els,he,hp⟩:=S7 (α:=List V) (p:=λi vs=>zn P e vs/\vs.length=P.cellsOf e/\qJ w.cell? (a.add (i*P.cellsOf e)) 0 vs) len (λi hi=>by
      have h1:=OB i hi;rw[bx ab]at h1;obtain⟨ly,h2,h3⟩:=cQ.1 h1;obtain⟨_,h4,h5⟩:=World.cells?_some h2;rw[ht]at Bw;obtain⟨vs,h6,h7⟩:=FQ hP n e ly _ (lR Bw) h3;have h8:=h7.length;refine⟨vs,h6,ab,qJ.nu λj v hj=>?_⟩;obtain⟨u,h9,sG⟩:=h7.get hj;rw[cj,h5 j (by have:=(bq.1 hj).1;omega)]
      exact⟨u,h9,sG⟩)
     refine⟨[.vs (P.cellsOf e) els],.slice ht ab (λx hx=>?_),_,_,rfl,⟨aY a,cap,by rw[he],ab,hm,.inr ⟨a,rfl,yT.nu λi ly hi=>?_⟩⟩,rfl⟩
     .obtain⟨i,hi,rfl⟩:=dn hx;exact(hp i _ (bx hi)).1
     .obtain⟨_,h2,h3⟩:=hp i ly hi;rw[cj];exact⟨h2,h3⟩
   |struct fs =>
    obtain⟨xs,n,hn,_,hc,hlen,hg⟩:=DataW.trod_struct ht h;have hn:n=fuel:=ab;subst hn;have n_:=X7;unfold Cy at n_;rw[ht]at n_ Bw;simp only at n_;split at n_
    .rename_i m hm;have n_:=eb n_
     obtain⟨_,vs,h2,h3,h4⟩:=VE (P:=P) (Z:=w.cell?) cs fs.toList 0 m hm ab (λf hf=>by
      obtain⟨i,hi,rfl⟩:=dn hf;have h1:=hg i _ (by rw[<- Array.getElem?_toList];exact bx hi);rw[bx (by rw[hlen];simpa using hi)]at h1
      exact FQ hP n _ _ _ (lR ((bm.1 Bw) _ (List.getElem_mem _))) h1)
     rw[dJ,fI,dk ab]at h3;exact⟨vs,.struct ht ab (λf hf=>by have:=(h4 f hf).2;rwa [fI]at this),h3⟩
    .cases n_
   |array m e =>
    obtain⟨xs,n,hn,_,hc,hlen,hg⟩:=DataW.trod_array ht h;have hn:n=fuel:=ab;subst hn;have n_:=X7;unfold Cy at n_;rw[ht]at n_ Bw;have n_:=eb n_
    obtain⟨vs,h2,h3,h4⟩:=YS (P:=P) (Z:=w.cell?) cs e m 0 ab (λi hi=>by
     have h1:=hg i hi;rw[bx ab]at h1;rw[cj]
     exact FQ hP n _ _ _ (lR Bw) h1)
    rw[dJ,dk ab]at h3;exact⟨vs,.array ht ab h4,h3⟩
   |_=>exact ae0 (by unfold o8;rw[ht])
end
def zti{P:bl}(h:zBt P=bg):∀t,t<P.types.size->Cy P t=bg/\DQ P t=bg:=λt ht=>by
 have:=(bm.1 h) t (List.mem_range.2 ht)
 rwa [bn]at this
section
variable{P:bl}{t e m:Nat}{fs:Array Field}{cs:List V}{k:IntKind}
def zos(ht:P.underlying t=aY .bool)(h:zn P t cs):∃b,cs=[.bool b]:=by
 cases h with
 |bool=>exact⟨_,rfl⟩
 |int h|str h|slice h|struct h|array h=>rw[ht]at h;cases h
 |other h=>unfold o8 at h;rw[ht]at h;cases h
def ztj(ht:P.underlying t=aY (.int k))(h:zn P t cs):∃n,cs=[.int k n]/\(Lit.int k n).wf=bg:=by
 cases h with
 |int h hw=>rw[ht]at h;cases h;exact⟨_,rfl,hw⟩
 |bool h|str h|slice h|struct h|array h=>rw[ht]at h;cases h
 |other h=>unfold o8 at h;rw[ht]at h;cases h
def ztk(ht:P.underlying t=aY .string)(h:zn P t cs):∃s,cs=[.str s]/\s.length<=maxLen:=by
 cases h with
 |str h hl=>exact⟨_,rfl,hl⟩
 |bool h|int h|slice h|struct h|array h=>rw[ht]at h;cases h
 |other h=>unfold o8 at h;rw[ht]at h;cases h
def xB(ht:P.underlying t=aY (.slice e))(h:zn P t cs):∃els,cs=[.vs (P.cellsOf e) els]/\els.length<=maxLen/\∀x∈els,zn P e x:=by
 cases h with
 |slice h hl hx=>rw[ht]at h;cases h;exact⟨_,rfl,hl,hx⟩
 |bool h|int h|str h|struct h|array h=>rw[ht]at h;cases h
 |other h=>unfold o8 at h;rw[ht]at h;cases h
def z7(ht:P.underlying t=aY (.struct fs))(h:zn P t cs):cs.length=P.cellsOf t/\∀f∈fs.toList,zn P f.type ((cs.drop f.offset).take (P.cellsOf f.type)):=by
 cases h with
 |struct h hc hx=>rw[ht]at h;cases h;exact⟨hc,hx⟩
 |bool h|int h|str h|slice h|array h=>rw[ht]at h;cases h
 |other h=>unfold o8 at h;rw[ht]at h;cases h
def xS{α:Type}{enc:α->List V}{ok:α->Prop}(h1:∀c,zn P e c->∃a,c=enc a/\ok a):∀{els:List (List V)},(∀x∈els,zn P e x)->∃l:List α,els=l.map enc/\∀a∈l,ok a
 |[],_=>⟨[],rfl,λ_ h=>by cases h⟩
 |c::els,h=>by
  obtain⟨a,rfl,ha⟩:=h1 c (h c ak);obtain⟨l,rfl,hl⟩:=xS h1 (λx hx=>h x (iT _ hx))
  exact⟨a::l,rfl,λb hb=>by
   rcases bo.1 hb with rfl|hb
   .exact ha
   .exact hl b hb⟩
end
def ma(k:IntKind)(n:Int):Prop:=(Lit.int k n).wf=bg
def pw(s:aj):Prop:=s.length<=maxLen
def Qi{α:Type}(ok:α->Prop)(l:List α):Prop:=l.length<=maxLen/\∀a∈l,ok a
def zkw{m m':M}{Z Z':ZM}{G:aw}{w w':bG}(hG:D2 G=bg)(hs:kp m Z G w)(h:Step m Z G w m' Z' G w'):Below w.heap.size w w':=by
 refine⟨h.os,h.tape,h.output,h.size,λb hb=>?_⟩;by_cases hx:∃p∈G,gT m p b
 .obtain⟨p,hp,e⟩:=hx;obtain⟨g,ob,cs,hl,_⟩:=zwn hG hp;have h1:=hs.holds p hp;have h2:=h.iV.holds p hp;rw[hl]at h1 h2;obtain⟨h3,⟨h4,_⟩,_⟩:=h1;obtain⟨_,⟨h5,_⟩,_⟩:=h2
  have:g=b:=by obtain⟨k,o⟩:=p;simp only at hl h3;subst hl;simpa[gT,qK,Obj.iZ,h3]using e
  subst this;rw[h4,h5]
 .exact h.frame b hb λp hp e=>hx ⟨p,hp,e⟩
section
variable{H:Type}{enc:bu×bw->H}{P:bl}
def YT(hl:laidOutB P=bg){W W':bG}(hb:Below W.heap.size W W'):∀(ts:List bu)(vs:List bw)(ds:List (DataW H))(ps:List MemPlace),(ts.all λt=>P.readableRec t&&decide (t<P.types.size))=bg ->
  DataW.TrodAll enc P W 0 (λ_=>bg) bg ts vs ds ps->(∀x∈ps,x.block<W.heap.size)->DataW.TrodAll enc P W' 0 (λb=>decide (b<W.heap.size)) bg ts vs ds ps
 |[],[],[],ps,_,h,_=>h
 |t::ts,v::vs,d::ds,ps,ht,h,iB=>by
  obtain⟨p,q,h1,h2,rfl⟩:=h;simp only[cZ,bn,aU]at ht;exact⟨p,q,Below.trod hl ht.1.1 ht.1.2 h1 hb (λx hx=>iB x (List.mem_append_left _ hx)),YT hl hb ts vs ds q ht.2 h2 (λx hx=>iB x (List.mem_append_right _ hx)),rfl⟩
 |[],[],_::_,_,_,h,_=>h.elim
 |[],_::_,_,_,_,h,_=>h.elim
 |_::_,[],_,_,_,h,_=>h.elim
 |_::_,_::_,[],_,_,h,_=>h.elim
end
end Go.EV
