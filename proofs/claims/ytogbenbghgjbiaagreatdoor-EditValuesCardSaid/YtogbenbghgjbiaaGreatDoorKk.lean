/- texts that the proof reaches, part 11 -/
import Derived.Test.YtogbenbghgjbiaaGreatDoorKj
set_option linter.all false
open Bool renaming false->bf,true->bh,not_true->bU,true_and->cE,not_false->cJ,false_and->eS,and_false->gh,false_or->gK,not_eq_false->iC
open Int renaming toNat->bj,toNat_natCast->cx,fdiv->cP,tmod->ew,tmod_nonneg->fS,le_refl->iV,tdiv->iZ,fmod->lz
open List renaming length->ba,all_eq_true->bl,replicate->bp,getElem?_eq_some_iff->bq,mem_cons->bu,getElem?_eq_getElem->bA,getD_eq_getElem?_getD->bB,mem_append->bJ,mem_map->bL,length_map->bM,mem_append_left->bQ,mem_of_getElem?->bW,length_take->bY,length_set->cb,nil_append->cw,nodup_cons->cA,set->cD,nodup_append->cK,length_singleton->cM,isEmpty->cO,nodup_nil->cZ,cons_append->dj,range->dn,length_nil->dw,all_cons->dA,pairwise_cons->dG,getElem?_set->dH,getElem?_eq_none->dQ,getElem_mem->dS,take_append_of_le_length->dX,getElem?_replicate->dY,take_length->eh,foldl_cons->eu,isPrefixOf->er,take_append_getElem->fc,set_cons_succ->fq,take_zero->fA,find?_cons->fR,length_filterMap_le->gL,pairwise_singleton->gP,getElem?_set_self->gT,countP_le_length->gV,takeWhile->ig,mem_iff_getElem->ic,zip_cons_cons->iB,foldlM_cons->iU,isEmpty_nil->iQ,set_set->ly
open Nat renaming zero_le->cH,le_trans->cY,mod_eq_of_lt->gN,le_of_lt->iK,mod_lt->lk
open Option renaming some->aY,bind->aM,none->bg,map_eq_some_iff->ca,bind_assoc->cV,map_some->de,getD_some->dB,isSome_some->fm,isNone_none->gz,isNone_some->gq,isSome_map->iI
open Sum renaming inr->bN,inl->bO
set_option maxRecDepth 100000
namespace Go.Proofs.YtogbenbghgjbiaaGreatDoor
open Go Go.RowKit Go.lG Go.EV Go.EQ
variable[Fuel]
def zy{p:Prop}{i:Decidable p}(h:p):@bD p i=aY ():=aO h
def uP{n:Int}(h0:-9223372036854775808<=n)(h1:n<=9223372036854775807):EV.aD n=n:=zsg h0 h1
def wM{α:Type}[Inhabited α]{l:List α}{i:Nat}(h:i<l.length):idx l (i:Int)=aY (l.getD i default):=by unfold idx;rw[aO ⟨ab,ab⟩];rfl
def yP{α:Type}[Inhabited α]{l:List α}{i:Nat}{x:α}(h:l[i]?=aY x):idx l (i:Int)=aY x:=by obtain⟨h1,h2⟩:=bq.1 h;rw[wM h1,bB,h];rfl
def yQ{n:Nat}(h:n<9223372036854775807):aD ((n:Int)+1)=((n+1:Nat):Int):=by rw[uP ab ab];rfl
def Jy{n:Nat}(h:n<18446744073709551616):n<KK:=Nat.lt_of_lt_of_le h Fuel.pN
def jV{α:Type}{l:List α}{i:Nat}{x:α}{r:List α}(h:l.drop i=x::r):l[i]?=aY x/\l.drop (i+1)=r/\i<l.length:=by
 have h0:l[i]?=aY x:=by have:=List.getElem?_drop (xs:=l) (i:=i) (j:=0);rw[h]at this;simpa using this.symm
 refine⟨h0,?_,(bq.1 h0).1⟩;rw[<- List.drop_drop,h];rfl
def drop_nil{α:Type}{l:List α}{i:Nat}(h:l.drop i=[])(hi:i<=l.length):i=l.length:=by have:=aP ba h;simp at this;omega
-- bytes
def VZ(c:UInt8):Bool:=decide (97<=c.toNat)&&decide (c.toNat<=122)
def St(c:UInt8):Bool:=decide (48<=c.toNat)&&decide (c.toNat<=57)
def AB(c:UInt8):Bool:=VZ c||St c
def jW(a b:Bool):(bif a then aY b else aY bf)=aY (a&&b):=by cases a<;>rfl
def Su(a b:Bool):(bif a then aY bh else aY b)=aY (a||b):=by cases a<;>rfl
def jb{p q:Prop}{i:Decidable p}{j:Decidable q}(h:p↔q):@decide p i=@decide q j:=by
 by_cases hq:q
 .rw[dt hq,dt (h.2 hq)]
 .rw[df hq,df (λhp=>hq (h.1 hp))]
def Xg(n m:Nat){a:Int}(h:a=(m:Int)):decide ((n:Int)>=a)=decide (m<=n):=jb ab
def IT(n m:Nat){a:Int}(h:a=(m:Int)):decide ((n:Int)<=a)=decide (n<=m):=jb ab
def Rb(c:UInt8):kd ((c.toNat:Nat):Int)=aY (VZ c):=by unfold kd;rw[jW,VZ,Xg _ 97 (a:=97) rfl,IT _ 122 (a:=122) rfl]
def zFc(c:UInt8):uS ((c.toNat:Nat):Int)=aY (St c):=by unfold uS;rw[jW,St,Xg _ 48 (a:=48) rfl,IT _ 57 (a:=57) rfl]
def zFd(c:UInt8):Ah ((c.toNat:Nat):Int)=aY (AB c):=by unfold Ah;rw[Rb,aC,zFc,aC,Su,AB]
-- runs of bytes
def zz2(l:aj)(f:UInt8->Bool)(G:UInt8->Option Bool)(F:Nat->Int->Option Int)(hG:∀b,G b=aY (f b))
  (hF:∀K q,F (K+1) q=((bif (decide (q<((ba l:Nat):Int)))then(idx l q).bind G else aY bf)).bind λx1=>(bif x1 then F K (aD (q+1))else aY q)) (hl:l.length<4611686018427387904):
  ∀(r:aj)(i K:Nat),l.drop i=r->i<=l.length->r.length<K->F K (i:Int)=aY ((i+(r.takeWhile f).length:Nat):Int):=by
 intro r
 induction r with
 |nil =>
  intro i K hr hi hK
  obtain⟨K,rfl⟩:∃k,K=k+1:=⟨K-1,ab⟩
  have:=drop_nil hr hi;rw[hF,df ab];simp
 |cons c r ih =>
  intro i K hr hi hK
  obtain⟨K,rfl⟩:∃k,K=k+1:=⟨K-1,ab⟩
  obtain⟨h1,h2,h3⟩:=jV hr;simp only[lc]at hK;rw[hF,dt ab,ct,yP h1,aC,hG,aC]
  cases hc:f c with
  |false=>simp[ig,hc]
  |true =>
   rw[ct,yQ ab,ih (i+1) K h2 ab ab];simp only[ig,hc,lc]
   congr 2;omega
def Gf(f:UInt8->Bool)(l:aj):Nat:=(l.takeWhile f).length
def zwn{α:Type}(o:Option α):(o.bind λx=>aY x)=o:=by cases o<;>rfl
def zFe{s:aj}(h:s.length<4611686018427387904):JX s=aY ((Gf AB s:Nat):Int):=by unfold JX;rw[zwn,show((0:Int))=((0:Nat):Int) from rfl,zz2 s AB (λx2=>aM (Ah ((x2.toNat:Nat):Int)) λx3=>aY x3) (ua s) (λb=>by rw[zFd];rfl) (λK q=>rfl) h s 0 KK rfl ab (Jy ab)];simp[Gf]
def zz3{f:UInt8->Bool}{l:aj}:Gf f l=l.length↔l.all f=bh:=by
 induction l with
 |nil=>simp[Gf]
 |cons c l ih =>
  simp only[Gf,ig,dA]at ih ⊢
  cases f c with
  |false=>simp
  |true=>simp only[lc,cE,<- ih];omega
-- words
def BB(s:aj):Bool:=match s with
 |[]=>bf
 |c::r=>VZ c&&(decide (s.length<=20)&&r.all AB)
def zFf{s:aj}(h:s.length<4611686018427387904):AY s=aY (BB s):=by
 unfold AY
 cases s with
 |nil=>rfl
 |cons c r =>
  rw[df ae,cf,show((0:Int))=((0:Nat):Int) from rfl,yP (x:=c) rfl,aC,Rb,aC,Su,aC,zFe h,aC]
  have e:decide ((Gf AB (c::r):Int)=(((c::r).length:Nat):Int))=(AB c&&r.all AB):=by rw[<- dA,Bool.eq_iff_iff,decide_eq_true_iff,<- zz3];omega
  rw[e,BB]
  cases hc:VZ c with
  |false=>simp
  |true =>
   have:AB c=bh:=by rw[AB,hc];rfl
   rw[this];by_cases nC:(c::r).length<=20
   .rw[dt nC,df ab];simp
   .rw[df nC,dt ab];simp
def zK8{s:aj}(h:0<=s.length):AY s=aY (BB s):=by
 by_cases hs:s.length<4611686018427387904
 .exact zFf hs
 .unfold AY
  cases s with
  |nil=>rfl
  |cons c r =>
   rw[df ae,cf,show((0:Int))=((0:Nat):Int) from rfl,yP (x:=c) rfl,aC,Rb,aC,Su,aC];rw[dt (by omega:(((c::r).length:Nat):Int)>20),Bool.or_true,ct,BB,df (by omega:¬(c::r).length<=20)];cases VZ c<;>rfl
noncomputable def pd(p:Prop):Bool:=@decide p (Classical.propDecidable p)
def vH{p:Prop}:pd p=bh↔p:=by unfold pd;exact @decide_eq_true_iff p (Classical.propDecidable p)
def og{p:Prop}[Decidable p]:decide p=pd p:=jb Iff.rfl
def qB{b:Bool}{p:Prop}(h:b=bh↔p):b=pd p:=by
 cases b with
 |true=>exact(vH.2 (h.1 rfl)).symm
 |false =>
  cases hp:pd p with
  |false=>rfl
  |true=>exact aQ (h.2 (vH.1 hp)) ad
def vF{p q:Prop}(h:p↔q):pd p=pd q:=qB (vH.trans h)
def zju{α β:Type}[Inhabited α][Inhabited β](a:List α)(b:List β)(G:α->β->Option Bool)(g:α->β->Bool)(L:Nat->Int->Option (Bool⊕Unit))
  (hL:∀K q,L (K+1) q=(bif (decide (q<((ba a:Nat):Int)))then(idx a q).bind λx=>aM (idx b q) λy=>aM (G x y) λr=>(bif (!r)then aY (bO bf)else L K (aD (q+1)))else aY (bN ())))
  (hs:a.length<4611686018427387904) (hl:b.length=a.length):
  ∀(r:List α)(t:List β)(i K:Nat),a.drop i=r->b.drop i=t->i<=a.length->r.length<K->(∀x∈r,∀y∈t,G x y=aY (g x y))->L K (i:Int)=aY (bif (r.zip t).all (λp=>g p.1 p.2)then bN ()else bO bf)
 |[],t,i,K,hr,ht,hi,hK,_=>by
  obtain⟨K,rfl⟩:∃k,K=k+1:=⟨K-1,by simp at hK;omega⟩
  have:=drop_nil hr hi;rw[hL,df ab];simp
 |x::r,[],i,K,hr,ht,hi,hK,_=>by
  have h1:=drop_nil ht ab;obtain⟨_,_,h3⟩:=jV hr;omega
 |x::r,y::t,i,K,hr,ht,hi,hK,hG=>by
  obtain⟨K,rfl⟩:∃k,K=k+1:=⟨K-1,by simp at hK;omega⟩
  obtain⟨h1,h2,h3⟩:=jV hr;obtain⟨k1,k2,k3⟩:=jV ht;simp only[lc]at hK;rw[hL,dt ab,ct,yP h1,aC,yP k1,aC,hG x ak y ak,aC];simp only[iB,dA]
  cases hg:g x y with
  |false=>rfl
  |true =>
   simp only[bU,cf,cE];rw[yQ ab]
   exact zju a b G g L hL hs hl r t (i+1) K h2 k2 ab ab λx hx y hy=>hG x (iO _ hx) y (iO _ hy)
def zwo{α:Type}{g:α->α->Bool}:∀{a b:List α},a.length=b.length->(∀x∈a,∀y∈b,(g x y=bh↔x=y))->((a.zip b).all (λp=>g p.1 p.2)=bh↔a=b)
 |[],[],_,_=>ae
 |[],_::_,h,_=>by simp at h
 |_::_,[],h,_=>by simp at h
 |x::a,y::b,h,hg=>by simp only[lc,Nat.add_right_cancel_iff]at h;simp only[iB,dA,bn,List.cons.injEq];rw[hg x ak y ak,zwo h λx hx y hy=>hg x (iO _ hx) y (iO _ hy)]
def vr{α:Type}[Inhabited α](a b:List α)(G:α->α->Option Bool)(L:Nat->Int->Option (Bool⊕Unit))
  (hL:∀K q,L (K+1) q=(bif (decide (q<((ba a:Nat):Int)))then(idx a q).bind λx=>aM (idx b q) λy=>aM (G x y) λr=>(bif (!r)then aY (bO bf)else L K (aD (q+1)))else aY (bN ())))
  (hs:a.length<4611686018427387904) (hG:∀x∈a,∀y∈b,G x y=aY (pd (x=y))):
  (bif (!(decide (((ba a:Nat):Int)=((ba b:Nat):Int))))then aY bf else(L KK 0).bind (y9 aY λ_=>aY bh))=aY (pd (a=b)):=by
 by_cases hl:a.length=b.length
 .rw[dt ab];simp only[bU,cf];have:=zju a b G (λx y=>pd (x=y)) L hL hs hl.symm a b 0 KK rfl rfl (cH _) (Jy ab) hG;rw[show((0:Int))=((0:Nat):Int) from rfl,this]
  have hz:=zwo (g:=λx y=>pd (x=y)) hl λx _ y _=>vH
  have e:=qB hz;rw[<- e];cases (a.zip b).all (λp=>pd (p.1=p.2))<;>rfl
 .rw[df ab];simp only[cJ,ct];exact aP aY (qB ⟨λh=>(by cases h),λh=>aQ (aP ba h) hl⟩)
-- levels
mutual
def V1:Expr->Nat
 |⟨_,_,_,_,az⟩=>tw az+1
def tw:List Expr->Nat
 |[]=>0
 |e::r=>V1 e+tw r
end
def RJ:∀e:Expr,0<V1 e
 |⟨_,_,_,_,az⟩=>by rw[V1];omega
def Yt:∀l:List Expr,l.length<=tw l
 |[]=>Nat.le_refl _
 |e::r=>by rw[tw,lc];have:=Yt r;have:=RJ e;omega
def Yu:∀{l:List Expr}{e:Expr},e∈l->V1 e<=tw l
 |x::r,e,h=>by
  rw[tw]
  rcases bu.1 h with rfl|h
  .omega
  .have:=Yu h;omega
def zwp:∀(n:Nat)(a b:Expr)(K:Nat),V1 a<=n->2*n<=K->n<=1000000000->vA K a b=aY (pd (a=b)):=by
 intro n
 induction n with
 |zero=>intro a b K h;have:=RJ a;omega
 |succ n ih =>
  intro a b K h hK hn
  obtain⟨K,rfl⟩:∃k,K=k+2:=⟨K-2,ab⟩
  obtain⟨o1,n1,s1,k1,z1⟩:=a;obtain⟨o2,n2,s2,k2,z2⟩:=b;rw[V1]at h;have hz:=Yt z1
  have hl:wW (K+1) z1 z2=aY (pd (z1=z2)):=by
   rw[wW]
   refine vr z1 z2 (λx y=>vA K (Expr.mk x.Op x.N x.S x.Key x.aH) (Expr.mk y.Op y.N y.S y.Key y.aH)) _ (λK q=>rfl) ab λx hx y hy=>?_
   have h1:=Yu hx;have:=ih x y K ab ab ab;cases x;cases y;exact this
  rw[vA];simp only[hl,aC];simp only[og]
  have e:pd ((⟨o1,n1,s1,k1,z1⟩:Expr)=⟨o2,n2,s2,k2,z2⟩)=(pd (o1=o2)&&(pd (n1=n2)&&(pd (s1=s2)&&(pd (k1=k2)&&pd (z1=z2))))):=by refine(qB ?_).symm;simp only[bn,vH,Expr.mk.injEq]
  rw[e];cases pd (o1=o2)<;>cases pd (n1=n2)<;>cases pd (s1=s2)<;>cases pd (k1=k2)<;>rfl
def AD(e:Expr):Prop:=V1 e<=1000000000
def zda{a b:Expr}(h:AD a):vA KK a b=aY (pd (a=b)):=zwp 1000000000 a b KK h (iK (Jy ab)) ab
def zD(e:Expr):Expr.mk e.Op e.N e.S e.Key e.aH=e:=by cases e;rfl
def wY{p q:Prop}:pd (p/\q)=(pd p&&pd q):=(qB (by simp only[bn,vH])).symm
def zwq{a b:List Def}(hs:a.length<4611686018427387904)(hE:∀d∈a,AD d.Body):xH a b=aY (pd (a=b)):=by
 unfold xH
 refine vr a b (λx y=>Yl (Def.mk x.aK (Expr.mk x.Body.Op x.Body.N x.Body.S x.Body.Key x.Body.aH)) (Def.mk y.aK (Expr.mk y.Body.Op y.Body.N y.Body.S y.Body.Key y.Body.aH))) _ (λK q=>rfl) hs λx hx y hy=>?_
 have h:=hE x hx;simp only[zD];obtain⟨n1,e1⟩:=x;obtain⟨n2,e2⟩:=y;unfold Yl;simp only[zD,zda h,aC,og,Def.mk.injEq,wY];cases pd (n1=n2)<;>rfl
def zdb{a b:List aj}(hs:a.length<4611686018427387904):ja a b=aY (pd (a=b)):=by
 unfold ja
 refine vr a b (λx y=>aY (decide (x=y))) _ (λK q=>rfl) hs λx _ y _=>?_
 rw[og]
def zjv{a b:List av}(hs:a.length<4611686018427387904):je a b=aY (pd (a=b)):=by
 unfold je
 refine vr a b (λx y=>aY (decide (x.aK=y.aK)&&(decide (x.N=y.N)))) _ (λK q=>rfl) hs λx _ y _=>?_
 obtain⟨n1,m1⟩:=x;obtain⟨n2,m2⟩:=y;simp only[og,av.mk.injEq,wY]
def KU{a b:List zK}(hs:a.length<4611686018427387904):y8 a b=aY (pd (a=b)):=by
 unfold y8
 refine vr a b (λx y=>aY (decide (x.X=y.X)&&(decide (x.Y=y.Y)))) _ (λK q=>rfl) hs λx _ y _=>?_
 obtain⟨n1,m1⟩:=x;obtain⟨n2,m2⟩:=y;simp only[og,zK.mk.injEq,wY]
def Ws{a b:List zj}(hs:a.length<4611686018427387904):wE a b=aY (pd (a=b)):=by
 unfold wE
 refine vr a b (λx y=>aY (decide (x.X=y.X)&&(decide (x.Y=y.Y)&&(decide (x.Z_=y.Z_))))) _ (λK q=>rfl) hs λx _ y _=>?_
 obtain⟨n1,m1,k1⟩:=x;obtain⟨n2,m2,k2⟩:=y;simp only[og,zj.mk.injEq,wY]
def zme{a b:List ar}(hs:a.length<4611686018427387904)(hE:∀d∈a,d.Rows.length<4611686018427387904):xI a b=aY (pd (a=b)):=by
 unfold xI
 refine vr a b Ym _ (λK q=>rfl) hs λx hx y hy=>?_
 have h:=hE x hx;obtain⟨n1,r1,e1⟩:=x;obtain⟨n2,r2,e2⟩:=y;unfold Ym;simp only[zjv h,aC,og,ar.mk.injEq,wY];cases pd (n1=n2)<;>cases pd (e1=e2)<;>cases pd (r1=r2)<;>rfl
def Xh{a b:Bool}:(a==b)=pd (a=b):=qB beq_iff_eq
def zrt{a b:List zF}(hs:a.length<4611686018427387904)(hE:∀d∈a,d.ay.length<4611686018427387904):xK a b=aY (pd (a=b)):=by
 unfold xK
 refine vr a b Yn _ (λK q=>rfl) hs λx hx y hy=>?_
 have h:=hE x hx;obtain⟨n1,r1,e1⟩:=x;obtain⟨n2,r2,e2⟩:=y;unfold Yn;simp only[KU h,aC,og,Xh,zF.mk.injEq,wY];cases pd (n1=n2)<;>cases pd (r1=r2)<;>rfl
def zwr{a b:List a_}(hs:a.length<4611686018427387904)(hE:∀d∈a,d.ay.length<4611686018427387904):xL a b=aY (pd (a=b)):=by
 unfold xL
 refine vr a b Yo _ (λK q=>rfl) hs λx hx y hy=>?_
 have h:=hE x hx;obtain⟨n1,r1,l1,e1⟩:=x;obtain⟨n2,r2,l2,e2⟩:=y;unfold Yo;simp only[KU h,aC,og,a_.mk.injEq,wY];cases pd (n1=n2)<;>cases pd (r1=r2)<;>cases pd (l1=l2)<;>rfl
def zru{a b:List au}(hs:a.length<4611686018427387904)(hE:∀d∈a,d.mK.length<4611686018427387904):xM a b=aY (pd (a=b)):=by
 unfold xM
 refine vr a b Yp _ (λK q=>rfl) hs λx hx y hy=>?_
 have h:=hE x hx;obtain⟨n1,⟨x1,y1,z1⟩,l1,e1⟩:=x;obtain⟨n2,⟨x2,y2,z2⟩,l2,e2⟩:=y;unfold Yp;simp only[Ws h,aC,og,au.mk.injEq,zj.mk.injEq,wY];cases pd (n1=n2)<;>cases pd (x1=x2)<;>cases pd (y1=y2)<;>cases pd (z1=z2)<;>cases pd (l1=l2)<;>rfl
def zjw{a b:za}(h1:a.aA.length<4611686018427387904)(h2:a.Except.length<4611686018427387904)(h3:AD a.Test):kj a b=aY (pd (a=b)):=by
 obtain⟨a1,a2,a3,a4,a5,a6,a7,a8,a9,⟨p1,p2,p3,p4⟩,T7,T8,a12⟩:=a;obtain⟨b1,b2,b3,b4,b5,b6,b7,b8,b9,⟨q1,q2,q3,q4⟩,adM,adN,ajI⟩:=b;unfold kj;simp only[zdb h1,zdb h2,zD,zda h3,aC,og,Xh,za.mk.injEq,zh.mk.injEq,wY]
 cases pd (a2=b2)<;>cases pd (a3=b3)<;>cases pd (a9=b9)<;>simp only[bU,cJ,ct,cf,aC,eS,gh,cE] <;>
 cases pd (a1=b1)<;>cases pd (a4=b4)<;>cases pd (a5=b5)<;>cases pd (a6=b6)<;>simp only[aC,ct,cf,eS,gh,cE] <;>
 cases pd (a7=b7)<;>cases pd (a8=b8)<;>simp only[aC,ct,cf,eS,gh,cE] <;>
 cases (pd (p1=q1)&&(pd (p2=q2)&&(pd (p3=q3)&&pd (p4=q4))))<;>cases pd (T7=adM)<;>cases pd (T8=adN)<;>rfl
def zrv{a b:List za}(hs:a.length<4611686018427387904)(hE:∀d∈a,d.aA.length<4611686018427387904/\d.Except.length<4611686018427387904/\AD d.Test):xJ a b=aY (pd (a=b)):=by
 unfold xJ
 refine vr a b (λx1 x2=>kj (za.mk x1.aK x1.aA x1.Except x1.lA x1.j_ x1.lN x1.lU x1.aL (Expr.mk x1.Test.Op x1.Test.N x1.Test.S x1.Test.Key x1.Test.aH) x1.zh x1.Uses x1.lK x1.N) (za.mk x2.aK x2.aA x2.Except x2.lA x2.j_ x2.lN x2.lU x2.aL (Expr.mk x2.Test.Op x2.Test.N x2.Test.S x2.Test.Key x2.Test.aH) x2.zh x2.Uses x2.lK x2.N)) _ (λK q=>rfl) hs λx hx y hy=>?_
 obtain⟨h1,h2,h3⟩:=hE x hx;simp only[zD];exact zjw h1 h2 h3
def aaa(p:yp):Prop:=
 (p.aE.length<4611686018427387904/\∀d∈p.aE,AD d.Body)/\(p.Tables.length<4611686018427387904/\∀d∈p.Tables,d.Rows.length<4611686018427387904)/\(p.aA.length<4611686018427387904/\∀d∈p.aA,d.ay.length<4611686018427387904) /\
 (p.aB.length<4611686018427387904/\∀d∈p.aB,d.aA.length<4611686018427387904/\d.Except.length<4611686018427387904/\AD d.Test)/\(p.aI.length<4611686018427387904/\∀d∈p.aI,d.ay.length<4611686018427387904)/\(p.aF.length<4611686018427387904/\∀d∈p.aF,d.mK.length<4611686018427387904)/\p.aJ.length<4611686018427387904
def zws{a b:yp}(h:aaa a):IN a b=aY (pd (a=b)):=by obtain⟨⟨d1,d2⟩,⟨t1,t2⟩,⟨z1,z2⟩,⟨r1,r2⟩,⟨c1,c2⟩,⟨v1,v2⟩,s1⟩:=h;obtain⟨adf,adi,adk,adg,ade,adj,adh,ajy⟩:=a;obtain⟨adm,ado,adq,adn,adl,adp,bS,ajA⟩:=b;unfold IN;simp only[zwq d1 d2,zme t1 t2,zrt z1 z2,zrv r1 r2,zwr c1 c2,zru v1 v2,Ws s1,aC,og,yp.mk.injEq,wY];cases pd (adf=adm)<;>cases pd (adi=ado)<;>cases pd (adk=adq)<;>cases pd (adg=adn)<;>cases pd (ade=adl)<;>cases pd (adj=adp)<;>cases pd (adh=bS)<;>rfl
def Rc{α sc:Type}(l:List α)(g:α->Bool)(ok bad:sc)(L:Nat->Int->sc)
  (hL:∀K (i:Nat) x,l[i]?=aY x->L (K+1) (i:Int)=bif g x then L K ((i+1:Nat):Int)else bad) (hE:∀K,L (K+1) (l.length:Int)=ok):
  ∀(r:List α)(i K:Nat),l.drop i=r->i<=l.length->r.length<K->L K (i:Int)=bif r.all g then ok else bad
 |[],i,K,hr,hi,hK=>by
  obtain⟨K,rfl⟩:∃k,K=k+1:=⟨K-1,by simp at hK;omega⟩
  have:=drop_nil hr hi;subst this;rw[hE];rfl
 |x::r,i,K,hr,hi,hK=>by
  obtain⟨K,rfl⟩:∃k,K=k+1:=⟨K-1,by simp at hK;omega⟩
  obtain⟨h1,h2,h3⟩:=jV hr;simp only[lc]at hK;rw[hL K i x h1,dA]
  cases g x with
  |false=>rfl
  |true=>exact Rc l g ok bad L hL hE r (i+1) K h2 ab ab
def Yv{α sc:Type}(l:List α)(g:α->Bool)(ok bad:sc)(L:Nat->Int->sc)(hs:l.length<=9223372036854775807)
  (hL:∀K (i:Nat) x,l[i]?=aY x->L (K+1) (i:Int)=bif g x then L K ((i+1:Nat):Int)else bad) (hE:∀K,L (K+1) (l.length:Int)=ok):
  L KK 0=bif l.all g then ok else bad:=Rc l g ok bad L hL hE l 0 KK rfl (cH _) (Jy ab)
def zjx{α σ sc:Type}(l:List α)(f:σ->α->σ)(fin:σ->sc)(I:Nat->σ->Prop)(L:Nat->Int->σ->sc)
  (hL:∀K (i:Nat) x s,l[i]?=aY x->I i s->L (K+1) (i:Int) s=L K ((i+1:Nat):Int) (f s x)/\I (i+1) (f s x)) (hE:∀K s,I l.length s->L (K+1) (l.length:Int) s=fin s):
  ∀(r:List α)(i K:Nat)(s:σ),l.drop i=r->i<=l.length->r.length<K->I i s->L K (i:Int) s=fin (r.foldl f s)/\I l.length (r.foldl f s)
 |[],i,K,s,hr,hi,hK,hI=>by
  obtain⟨K,rfl⟩:∃k,K=k+1:=⟨K-1,by simp at hK;omega⟩
  have:=drop_nil hr hi;subst this;exact⟨hE K s hI,hI⟩
 |x::r,i,K,s,hr,hi,hK,hI=>by
  obtain⟨K,rfl⟩:∃k,K=k+1:=⟨K-1,by simp at hK;omega⟩
  obtain⟨h1,h2,h3⟩:=jV hr;simp only[lc]at hK;obtain⟨e1,e2⟩:=hL K i x s h1 hI;rw[e1,eu];exact zjx l f fin I L hL hE r (i+1) K (f s x) h2 ab ab e2
def zjy{α σ sc:Type}(l:List α)(f:σ->α->σ)(fin:σ->sc)(I:Nat->σ->Prop)(L:Nat->Int->σ->sc)(s:σ)(hs:l.length<4611686018427387904)(h0:I 0 s)
  (hL:∀K (i:Nat) x s,l[i]?=aY x->I i s->L (K+1) (i:Int) s=L K ((i+1:Nat):Int) (f s x)/\I (i+1) (f s x)) (hE:∀K s,I l.length s->L (K+1) (l.length:Int) s=fin s):
  L KK 0 s=fin (l.foldl f s)/\I l.length (l.foldl f s):=zjx l f fin I L hL hE l 0 KK s rfl (cH _) (Jy ab) h0
def jZ{α:Type}{l:List α}{i:Nat}{x:α}(h:l[i]?=aY x):decide ((i:Int)<(ba l:Nat))=bh:=dt (by have:=(bq.1 h).1;omega)
def xy{α:Type}{l:List α}:decide (((ba l:Nat):Int)<(ba l:Nat))=bf:=df ab
def jc{α:Type}{l:List α}{i:Nat}{x:α}(h:l[i]?=aY x):i<l.length:=(bq.1 h).1
def zFg{o:Option (Bool⊕Unit)}{g r:Bool}{f:Unit->Option Bool}(h:o=aY (bif g then bN ()else bO bf))(hr:g=bh->f ()=aY r):o.bind (y9 aY f)=aY (g&&r):=by
 subst h
 cases g with
 |false=>rfl
 |true=>rw[ct,aC,y9,hr rfl,cE]
def zz4{o:Option Bool}{f:Option Bool}{g r:Bool}(h:o=aY g)(hr:g=bh->f=aY (!r)):(o.bind λx=>bif (!x)then aY bh else f)=aY (!(g&&r)):=by
 subst h
 cases g with
 |false=>rfl
 |true=>rw[aC,bU,cf,hr rfl,cE]
def zFh{a:Nat}{m:Int}(n:Nat){f:Option Bool}{r:Bool}(hm:m=(n:Int))(hr:a<=n->f=aY (!r)):(bif decide ((a:Int)>m)then aY bh else f)=aY (!(decide (a<=n)&&r)):=by
 by_cases h:a<=n
 .rw[df ab,dt h,cf,hr h,cE]
 .rw[dt ab,df h];rfl
def V2{a:Nat}{m:Int}(n:Nat)(hm:m=(n:Int)):aY (decide ((a:Int)>m))=aY (!(decide (a<=n))):=by
 by_cases h:a<=n
 .rw[df ab,dt h];rfl
 .rw[dt ab,df h];rfl
def Re{α:Type}(l:List α)(g:α->Bool)(L:Nat->Int->Option (Bool⊕Unit))(B:Int->Option Bool)(hs:l.length<=9223372036854775807)
  (hL:∀K q,L (K+1) q=(bif (decide (q<((ba l:Nat):Int)))then(B q).bind λr=>(bif r then aY (bO bf)else L K (aD (q+1)))else aY (bN ())))
  (hB:∀(i:Nat) x,l[i]?=aY x->B (i:Int)=aY (!(g x))):L KK 0=aY (bif l.all g then bN ()else bO bf):=by
 have:=Yv l g (aY (bN ())) (aY (bO bf)) L hs (λK i x h=>?_) (λK=>by rw[hL,xy];rfl)
 .rw[this];cases l.all g<;>rfl
 .have hi:=jc h;rw[hL,jZ h,ct,hB i x h,aC,yQ ab];cases g x<;>rfl
mutual
def Hq:Expr->Bool
 |⟨_,_,s,k,az⟩=>Z4 az&&(decide (0<=s.length)&&decide (0<=k.length))
def Z4:List Expr->Bool
 |[]=>bh
 |e::r=>Hq e&&Z4 r
end
def zdc:∀l:List Expr,Z4 l=l.all Hq
 |[]=>by rw[Z4];rfl
 |e::r=>by rw[Z4,zdc r,dA]
def rY(e:Expr):Bool:=decide (V1 e<=5000)&&Hq e
def Iv(l:List aj):Bool:=l.all (λx=>decide (0<=x.length))&&decide (l.length<=3000)
def sG(r:za):Bool:=decide (0<=r.aK.length)&&(Iv r.aA&&(Iv r.Except&&rY r.Test))
def Xi{sc:Type}(n lo:Nat)(g:Nat->Bool)(ok bad:sc)(L:Nat->Int->sc)(hL:∀K (i:Nat),lo<=i->i<n->L (K+1) (i:Int)=bif g i then L K ((i+1:Nat):Int)else bad)(hE:∀K (i:Nat),n<=i->L (K+1) (i:Int)=ok):
  ∀(m a K:Nat),lo<=a->n-a<=m->m<K->L K (a:Int)=bif pd (∀k,a<=k->k<n->g k=bh)then ok else bad
 |0,a,K,tJ,h,hK=>by
  obtain⟨K,rfl⟩:∃k,K=k+1:=⟨K-1,ab⟩
  rw[hE K a ab,vH.2 (λk h1 h2=>ab)];rfl
 |m+1,a,K,tJ,h,hK=>by
  obtain⟨K,rfl⟩:∃k,K=k+1:=⟨K-1,ab⟩
  by_cases ha:n<=a
  .rw[hE K a ha,vH.2 (λk h1 h2=>ab)];rfl
  .rw[hL K a tJ ab]
   cases hg:g a with
   |false =>
    have:pd (∀k,a<=k->k<n->g k=bh)=bf:=by
     cases hp:pd (∀k,a<=k->k<n->g k=bh)with
     |false=>rfl
     |true=>rw[vH.1 hp a al ab]at hg;cases hg
    rw[this];rfl
   |true =>
    rw[ct,Xi n lo g ok bad L hL hE m (a+1) K ab ab ab]
    have:pd (∀k,a+1<=k->k<n->g k=bh)=pd (∀k,a<=k->k<n->g k=bh):=vF ⟨λh k h1 h2=>by
     by_cases hk:k=a
     .rw[hk];exact hg
     .exact h k ab h2,λh k h1 h2=>h k ab h2⟩
    rw[this]
def lS(p:List zK)(i:Nat):zK:=p.getD (i % p.length) default
def Nc(a b c:zK):Bool:=
 (decide (0<=a.X)&&(decide (a.X<=1048576)&&(decide (0<=a.Y)&&decide (a.Y<=1048576)))) &&
 (!(decide (a.X=b.X)==decide (a.Y=b.Y))&&!(decide (a.X=b.X)==decide (b.X=c.X)))
def Nd(p:List zK)(i:Nat):Bool:=Nc (lS p i) (lS p (i+1)) (lS p (i+2))
def zFi{α β:Type}{o:Option α}{v:α}{f:α->Option β}{r:Option β}(h:o=aY v)(h2:f v=r):o.bind f=r:=by rw[h,aC,h2]
def zwt(a b c:zK):(aM (VJ a) λx5=>(bif (!x5)then aY bh else(bif ((decide (a.X=b.X))==(decide (a.Y=b.Y)))then aY bh else(y6 ⟨a,b⟩).bind λx6=>aM (y6 ⟨b,c⟩) λx7=>aY (x6==x7))))=aY (!(Nc a b c)):=by
 show(aM (bif (decide (0<=a.X))then(bif (decide (a.X<=1048576))then(bif (decide (0<=a.Y))then aY (decide (a.Y<=1048576))else aY bf)else aY bf)else aY bf) λx5=>(bif (!x5)then aY bh else(bif ((decide (a.X=b.X))==(decide (a.Y=b.Y)))then aY bh else(aY ((decide (a.X=b.X))==(decide (b.X=c.X)))))))=_
 unfold Nc;cases decide (0<=a.X)
 .rfl
 cases decide (a.X<=1048576)
 .rfl
 cases decide (0<=a.Y)
 .rfl
 cases decide (a.Y<=1048576)
 .rfl
 cases (decide (a.X=b.X)==decide (a.Y=b.Y))<;>cases (decide (a.X=b.X)==decide (b.X=c.X))<;>rfl
def Nf(a b:zK):Bool:=decide (a.X<b.X)||(decide (a.X=b.X)&&decide (a.Y<b.Y))
def Mv(p:List zK)(i:Nat):Bool:=!(decide (0<i))||Nf (lS p 0) (lS p i)
def XQ(a b c d:zK):Bool:=decide (max (min a.X b.X) (min c.X d.X)<=min (max a.X b.X) (max c.X d.X))&&decide (max (min a.Y b.Y) (min c.Y d.Y)<=min (max a.Y b.Y) (max c.Y d.Y))
def FC(p:List zK)(i k:Nat):Bool:=decide ((k+1) % p.length=i)||!(XQ (lS p i) (lS p (i+1)) (lS p k) (lS p (k+1)))
def BC(p:List zK):Prop:=(4<=p.length/\p.length<=60)/\(∀i,0<=i->i<p.length->(Nd p i&&Mv p i)=bh)/\(∀i,0<=i->i<p.length->pd (∀k,i+2<=k->k<p.length->FC p i k=bh)=bh)/\¬(lS p 0).X=(lS p 1).X
def Xj{p:List zK}{i:Nat}(h:0<p.length):idx p (((i % p.length:Nat)):Int)=aY (lS p i):=wM (lk _ h)
def Sv{p:List zK}{i:Nat}(h:i<p.length):idx p ((i:Nat):Int)=aY (lS p i):=by
 have:=Xj (p:=p) (i:=i) ab
 rwa [gN h]at this
def zo6{i n:Nat}:ew (i:Int) (n:Int)=((i % n:Nat):Int):=rfl
def zLb{p:List zK}{i:Nat}:lS p (i % p.length)=lS p i:=by unfold lS;rw[Nat.mod_mod]
def zFj{p:List zK}{i:Nat}:lS p (i % p.length+1)=lS p (i+1):=by unfold lS;rw[Nat.mod_add_mod]
def Dl(p:List zK)(i:Nat):zw:=⟨lS p i,lS p (i+1)⟩
def zwv{p:List zK}(h0:0<p.length)(h1:p.length<=60):∃l,J5 p=aY l/\l.length=p.length/\∀j<p.length,l[j]?=aY (Dl p j):=by
 have hr:(dn p.length).length=p.length:=List.length_range
 have key:=zjy (dn p.length) (λs i=>cD s i (Dl p i)) (λs=>aY s) (λi s=>s.length=p.length/\∀j<i,s[j]?=aY (Dl p j)) (λK q s=>wo p ((ba p:Nat):Int) K (q,s))
  (bp (bj ((ba p:Nat):Int)) (zw.mk (zK.mk 0 0) (zK.mk 0 0))) ab ⟨ae,λj hj=>ab⟩ (λK i x s hx hs=>?_) (λK s hs=>?_)
 .refine⟨_,?_,key.2.1,λj hj=>key.2.2 j ab⟩;unfold J5;rw[zy ab,aC,key.1];rfl
 .have hi:=jc hx;rw[hr]at hi
  have hxi:x=i:=by simpa[List.getElem?_range,hi]using hx.symm
  subst hxi;obtain⟨s1,s2⟩:=hs;refine⟨?_,by rw[cb];exact s1,λj hj=>?_⟩
  .show wo p ((ba p:Nat):Int) (K+1) ((x:Int),s)=_
   rw[wo];simp only[dt (show(x:Int)<((ba p:Nat):Int) by omega),ct,Sv hi,aC];rw[zy ab,aC,yQ ab,zo6,Xj h0,aC,zy ab,aC];simp only[cx];rw[bA ab,aC];rfl
  .by_cases UK:j=x
   .subst UK;rw[gT ab]
   .rw[List.getElem?_set_ne (Ne.symm UK)];exact s2 j ab
 .rw[hr,wo];simp only[xy,cf]
def zrw(a b:zK):(A2 a b).bind (λx=>aY (decide (x>=0)))=aY (!(Nf a b)):=by
 have hc:∀x y:Int,yC x y=aY (if x<y then -1 else if x>y then 1 else 0):=λx y=>by
  unfold yC xl;simp only[aC,decide_true,bU,cf];by_cases h:x<y
  .rw[dt h,aO h];rfl
  .rw[df h,aN h];by_cases h2:x>y
   .rw[dt h2,aO h2];rfl
   .rw[df h2,aN h2];rfl
 have ho:∀x y:Int,Yk [x,y]=aY (if x=0 then y else x):=λx y=>by
  unfold Yk
  have e:KK=(KK-3)+3:=by have:=Jy (n:=10) ab;omega
  rw[e,kg];simp only[show decide ((0:Int)<((ba [x,y]:Nat):Int))=bh from rfl,ct,show idx [x,y] 0=aY x from rfl,aC];by_cases h:x=0
  .rw[dt h,aO h];simp only[bU,cf];rw[show aD (0+1)=1 from rfl,kg];simp only[show decide ((1:Int)<((ba [x,y]:Nat):Int))=bh from rfl,ct,show idx [x,y] 1=aY y from rfl,aC];by_cases h2:y=0
   .rw[dt h2,h2];simp only[bU,cf];rw[show aD (1+1)=2 from rfl,kg];rfl
   .rw[df h2];rfl
  .rw[df h,aN h];rfl
 unfold A2;simp only[hc,ho,aC];unfold Nf;refine aP aY ?_;by_cases h1:a.X<b.X
 .simp[h1]
 .by_cases h2:a.X>b.X
  .have:¬a.X=b.X:=ab;simp[h1,h2,this]
  .have:a.X=b.X:=ab;by_cases h3:a.Y<b.Y
   .simp[this,h3]
   .by_cases h4:a.Y>b.Y
    .simp[this,h3,h4]
    .simp[this,h3,h4]
def Hd{p:Prop}(h:¬p):pd p=bf:=(qB (b:=bf) ⟨λh=>(by cases h),λh2=>aQ h2 h⟩).symm
def RL(n:Nat)(g:Nat->Bool)(L:Nat->Int->Option (Bool⊕Unit))(a:Nat)(hn:n<4611686018427387904)(hL:∀K (i:Nat),a<=i->i<n->L (K+1) (i:Int)=bif g i then L K ((i+1:Nat):Int)else aY (bO bf))(hE:∀K (i:Nat),n<=i->L (K+1) (i:Int)=aY (bN ())):
  L KK (a:Int)=aY (bif pd (∀k,a<=k->k<n->g k=bh)then bN ()else bO bf):=by rw[Xi n a g _ _ L hL hE n a KK al ab (Jy ab)];cases pd (∀k,a<=k->k<n->g k=bh)<;>rfl
def u6{o:Option (Bool⊕Unit)}{g r:Prop}{f:Unit->Option Bool}(h:o=aY (bif pd g then bN ()else bO bf))(hr:g->f ()=aY (pd r)):o.bind (y9 aY f)=aY (pd (g/\r)):=by
 rw[wY]
 exact zFg h λhg=>hr (vH.1 hg)
def zww{p:List zK}:A3 p=aY (pd (BC p)):=by
 unfold A3 Zf;by_cases hh:4<=p.length/\p.length<=60
 .obtain⟨h4,Up⟩:=hh;obtain⟨l,e1,e2,e3⟩:=zwv (p:=p) ab Up
  have hl:∀j<p.length,idx l (j:Int)=aY (Dl p j):=λj hj=>yP (e3 j hj)
  rw[df (show ¬((ba p:Nat):Int)<4 by omega),df (show ¬((ba p:Nat):Int)>60 by omega),cf,aC,cf,e1,aC,zwn];have hp:pd (BC p)=pd ((∀i,0<=i->i<p.length->(Nd p i&&Mv p i)=bh)/\(∀i,0<=i->i<p.length->pd (∀k,i+2<=k->k<p.length->FC p i k=bh)=bh)/\¬(lS p 0).X=(lS p 1).X):=vF ⟨λh=>h.2,λh=>⟨⟨h4,Up⟩,h⟩⟩;rw[hp,e2]
  refine u6 ?_ λ_=>u6 ?_ λ_=>?_
  .refine RL p.length (λi=>Nd p i&&Mv p i) (jv p l (ba p:Nat)) 0 ab (λK i _ hi=>?_) (λK i hi=>?_)
   .rw[jv];simp only[dt (show(i:Int)<((ba p:Nat):Int) by omega),ct,hl i hi,aC,e2];rw[zy ab,aC,yQ ab,zo6,hl _ (lk _ ab)];rw[show Dl p ((i+1) % p.length)=Dl p (i+1) by unfold Dl;rw[zLb,zFj],aC];have h0:idx p 0=aY (lS p 0):=Sv (p:=p) (i:=0) ab;refine zFi (zwt (lS p i) (lS p (i+1)) (lS p (i+2))) ?_;unfold Nd Mv;cases Nc (lS p i) (lS p (i+1)) (lS p (i+2))
    .rfl
    simp only[bU,cf,cE];by_cases DW:0<i
    .rw[dt (show(i:Int)>0 by omega),dt DW,ct,h0,Sv hi];simp only[aC,zrw,bU,gK];cases Nf (lS p 0) (lS p i)<;>rfl
    .rw[df (show ¬(i:Int)>0 by omega),df DW];rfl
   .rw[jv,df ab];rfl
  .refine RL p.length (λi=>pd (∀k,i+2<=k->k<p.length->FC p i k=bh)) (jx l (ba p:Nat)) 0 ab (λK i _ hi=>?_) (λK i hi=>?_)
   .rw[jx,dt (show(i:Int)<((ba p:Nat):Int) by omega),ct,uP ab ab,show((i:Int)+2)=((i+2:Nat):Int) by omega];rw[RL p.length (λk=>FC p i k) (jw l (i:Int) (ba p:Nat)) (i+2) ab (λK k tJ hk=>?_) (λK k hk=>?_),yQ ab]
    .cases pd (∀k,i+2<=k->k<p.length->FC p i k=bh)<;>rfl
    .rw[jw,e2,dt (show(k:Int)<((ba p:Nat):Int) by omega),ct,uP (n:=(i:Int)+_) ab ab,uP ab ab,hl i hi,hl k hk]
     have hm:decide ((i:Int)+((ba p:Nat):Int)-(k:Int)>1)=!(decide ((k+1) % p.length=i)):=by
      by_cases l6:k+1=p.length
      .rw[l6,Nat.mod_self];by_cases DW:0=i
       .rw[dt DW,df ab];rfl
       .rw[df DW,dt ab];rfl
      .rw[gN ab];rw[df (show ¬k+1=i by omega),dt ab];rfl
     rw[hm];unfold FC;cases decide ((k+1) % p.length=i)
     .simp only[cJ,ct,aC,gK]
      show(aM (bif (decide (max (min (lS p i).X (lS p (i+1)).X) (min (lS p k).X (lS p (k+1)).X)<=min (max (lS p i).X (lS p (i+1)).X) (max (lS p k).X (lS p (k+1)).X)))then aY (decide (max (min (lS p i).Y (lS p (i+1)).Y) (min (lS p k).Y (lS p (k+1)).Y)<=min (max (lS p i).Y (lS p (i+1)).Y) (max (lS p k).Y (lS p (k+1)).Y)))else aY bf) λx4=>aY x4).bind _=_
      rw[jW,aC,aC,yQ ab];unfold XQ;cases (decide (max (min (lS p i).X (lS p (i+1)).X) (min (lS p k).X (lS p (k+1)).X)<=min (max (lS p i).X (lS p (i+1)).X) (max (lS p k).X (lS p (k+1)).X))&&decide (max (min (lS p i).Y (lS p (i+1)).Y) (min (lS p k).Y (lS p (k+1)).Y)<=min (max (lS p i).Y (lS p (i+1)).Y) (max (lS p k).Y (lS p (k+1)).Y)))<;>rfl
     .rw[yQ ab];rfl
    .rw[jw,e2,df ab];rfl
   .rw[jx,df ab];rfl
  .have:=hl 0 ab;rw[show((0:Nat):Int)=0 from rfl]at this;rw[this,aC,y6,aC];exact aP aY (qB (by simp[Dl]))
 .rw[Hd (λh=>hh h.1)];by_cases h4:p.length<4
  .rw[dt (show((ba p:Nat):Int)<4 by omega)];rfl
  .rw[df (show ¬((ba p:Nat):Int)<4 by omega),dt (show((ba p:Nat):Int)>60 by omega)];rfl
def aiR:aj:=[97,110,100]
def zFk:aj:=[97,112,97,114,116]
def zLc:aj:=[98,97,115,101]
def aiS:aj:=[99,97,112]
def zLd:aj:=[101,108,115,101]
def zz8:aj:=[101,120,99,101,112,116]
def zLe:aj:=[102,114,111,109]
def zFl:aj:=[103,114,97,99,101]
def zFm:aj:=[104,111,117,114,115]
def agJ:aj:=[105,102]
def agK:aj:=[105,110]
def zFn:aj:=[108,101,97,115,116]
def aiT:aj:=[110,111,116]
def agL:aj:=[111,114]
def zFo:aj:=[112,108,97,110,101]
def zFp:aj:=[115,108,111,112,101]
def aiU:aj:=[115,117,110]
def zFq:aj:=[116,97,98,108,101]
def zLf:aj:=[116,104,101,110]
def zFr:aj:=[117,110,116,105,108]
def zLg:aj:=[117,115,101,115]
def zLh:aj:=[118,97,114,121]
def zLi:aj:=[118,105,101,119]
def xC:Option Nat->Int
 |some i=>(i:Int)
 |none=>-1
def Kd:List aj:=[aiR,zFk,zLc,aiS,P6,zLd,zz8,zLe,zFl,zFm,agJ,agK,zFn,aiT,agL,zh0,zFo,IH,zFp,aiU,zFq,zLf,zFr,zLg,zLh,zLi,R7]
def wi(s:aj):Bool:=BB s&&!(decide (s∈Kd))
def EE:List aj->aj
 |[]=>[32]
 |w::r=>32::(w++EE r)
def zz9:∀l,∃t,EE l=32::t
 |[]=>⟨[],rfl⟩
 |w::r=>⟨_,rfl⟩
def Xk{t:aj}:∀{s w:aj},(∀b∈s,b≠32)->(∀b∈w,b≠32)->(s++[32]).isPrefixOf (w++32::t)=decide (s=w)
 |[],[],_,_=>by simp[er]
 |[],b::w,_,h=>by
  have:=h b ak;simp[er,Ne.symm this]
 |a::s,[],h,_=>by
  have:=h a ak;simp[er,this]
 |a::s,b::w,h,h'=>by
  have ih:=Xk (t:=t) (s:=s) (w:=w) (λx hx=>h x (iO _ hx)) (λx hx=>h' x (iO _ hx));simp only[dj,er,ih];by_cases e:a=b
  .subst e;simp
  .simp[e]
def zo7{x y:aj}:∀{w:aj},(∀b∈w,b≠32)->HQ (w++x) (32::y)=HQ x (32::y)
 |[],_=>rfl
 |b::w,h=>by have h1:=h b ak;rw[dj,HQ,zo7 λc hc=>h c (iO _ hc)];simp[er,Ne.symm h1]
def zj0{s:aj}(hs:∀b∈s,b≠32):∀{l:List aj},(∀w∈l,∀b∈w,b≠32)->HQ (EE l) (32::(s++[32]))=decide (s∈l)
 |[],_=>by cases s<;>simp[EE,HQ,er]
 |w::r,h=>by
  obtain⟨t,ht⟩:=zz9 r;have hw:=h w ak;rw[EE,HQ,zo7 hw,zj0 hs λx hx=>h x (iO _ hx)]
  have:(32::(s++[32])).isPrefixOf (32::(w++EE r))=decide (s=w):=by rw[ht];simp only[er,beq_self_eq_true,cE];exact Xk hs hw
  rw[this];by_cases e:s=w
  .simp[e]
  .simp[e]
def zAa{c:UInt8}(h:AB c=bh):c≠32:=by rintro rfl;revert h;decide
def zrx{s:aj}(h:BB s=bh):s.all AB=bh:=by
 cases s with
 |nil=>cases h
 |cons c r =>simp only[BB,bn]at h;simp only[dA,AB,h.1,Bool.true_or,cE];exact h.2.2
def zAb{s:aj}(h:BB s=bh):s.length<=20/\s≠[]:=by
 cases s with
 |nil=>cases h
 |cons c r =>simp only[BB,bn,aU]at h;exact⟨h.2.1,ae⟩
def yG{s:aj}(h:0<=s.length):Qp s=aY (wi s):=by
 unfold Qp wi;rw[zK8 h,aC]
 cases hw:BB s with
 |false=>rfl
 |true =>
  have nC:=(zAb hw).1
  have hs:∀b∈s,b≠32:=λb hb=>zAa (bl.1 (zrx hw) b hb)
  have e:=zj0 hs (l:=Kd) ad;have e2:EE Kd=zf:=ad;rw[e2]at e;rw[ct,zy (by simp[nX];omega),aC,zy (by simp[nX];omega),aC]
  have:JY zf ((nX++s)++nX)=aY (decide (s∈Kd)):=by unfold JY JV;rw[zy ad,aC,<- e];rfl
  rw[this];rfl
def jB(u:Bool):List aj->List aj->Bool
 |_,[]=>bh
 |seen,s::r=>wi s&&(!(u&&decide (s∈seen))&&jB u (seen++[s]) r)
def Wt:∀(l seen:List aj),jB bf seen l=l.all wi
 |[],_=>rfl
 |s::r,seen=>by rw[jB,Wt r,dA,eS,cJ,cE]
def zdd:∀(l seen:List aj),jB bh seen l=bh->l.all wi=bh
 |[],_,_=>rfl
 |s::r,seen,h=>by simp only[jB,bn]at h;rw[dA,h.1,zdd r _ h.2.2];rfl
def KM(m:List (aj×Bool))(L:List aj):Prop:=∀x,(zr x m).getD bf=decide (x∈L)
def zj1{α β:Type}[DecidableEq α](a x:α)(b:β):∀l:List (α×β),zr x (vW a b l)=if x=a then aY b else zr x l
 |[]=>by simp[vW,zr]
 |(k,c)::r=>by
  have ih:=zj1 a x b r;simp only[vW];by_cases h:a=k
  .rw[aO h];subst h;by_cases h2:x=a
   .simp[zr,h2]
   .simp[zr,h2]
  .rw[aN h];simp only[zr,ih];by_cases h2:x=k
   .subst h2;simp[Ne.symm h]
   .simp[h2]
def KM.add{m:List (aj×Bool)}{L:List aj}(h:KM m L)(s:aj):KM (vW s bh m) (L++[s]):=λx=>by
 rw[zj1];by_cases hx:x=s
 .rw[aO hx];simp[hx]
 .rw[aN hx,h x];exact jb (by simp[hx])
def zwx(u:Bool)(l:List aj)(hs:l.length<4611686018427387904)(hn:∀s∈l,0<=s.length):
  ∀(r:List aj)(i K:Nat)(m:List (aj×Bool))(seen:List aj),l.drop i=r->i<=l.length->r.length<K->KM m seen ->
   uq u l (l.length:Nat) K ((i:Int),m)=aY (bif jB u seen r then .inr ()else .inl bf)
 |[],i,K,m,seen,hr,hi,hK,hm=>by
  obtain⟨K,rfl⟩:∃k,K=k+1:=⟨K-1,by simp at hK;omega⟩
  have:=drop_nil hr hi;subst this;rw[uq,xy];rfl
 |x::r,i,K,m,seen,hr,hi,hK,hm=>by
  obtain⟨K,rfl⟩:∃k,K=k+1:=⟨K-1,by simp at hK;omega⟩
  obtain⟨h1,h2,h3⟩:=jV hr;simp only[lc]at hK;rw[uq,jZ h1,ct,jB];simp only[yP h1,aC,yG (hn x (bW h1)),hm x]
  cases wi x with
  |false=>rfl
  |true =>
   simp only[bU,cf,cE]
   cases hu:(u&&decide (x∈seen))with
   |true =>
    simp only[bn]at hu;rw[hu.1,hu.2];rfl
   |false =>
    have:(bif u then aY (decide (x∈seen))else aY bf)=aY bf:=by
     cases u
     .rfl
     .simpa using hu
    rw[this];simp only[aC,cf,cJ,cE];rw[yQ ab];exact zwx u l hs hn r (i+1) K _ _ h2 ab ab (hm.add x)
def Rf{u:Bool}{l:List aj}(hs:l.length<4611686018427387904)(hn:∀s∈l,0<=s.length):ke l u=aY (jB u [] l):=by unfold ke;rw[show(0:Int)=((0:Nat):Int) from rfl,zwx u l hs hn l 0 KK [] [] rfl (cH _) (Jy ab) (λx=>by simp[zr])];cases jB u [] l<;>rfl
def zde{α β:Type}(g:α->β):∀(l:List α)(s:List β),l.foldl (λs x=>s++[g x]) s=s++l.map g
 |[],s=>ae
 |x::l,s=>by rw[eu,zde g l];simp
def zry{α sc:Type}(l:List α)(g:α->aj)(L:Nat->(Int×List aj)->sc)(fin:List aj->sc)(hs:l.length<=1000)
  (hL:∀K (i:Nat) x s,l[i]?=aY x->ba s<=1000->L (K+1) ((i:Int),s)=L K (((i+1:Nat):Int),s++[g x])) (hE:∀K s,L (K+1) ((l.length:Int),s)=fin s):L KK (0,[])=fin (l.map g):=by have:=(zjy l (λs x=>s++[g x]) fin (λi s=>s.length=i/\i<=l.length) (λK q s=>L K (q,s)) [] ab ⟨rfl,cH _⟩ (λK i x s h hi=>⟨hL K i x s h ab,by have:=jc h;simp;omega⟩) (λK s _=>hE K s)).1;rw[zde]at this;simpa using this
def ky{α:Type}[Inhabited α](l:List α)(g:α->aj)(m:Nat)(L:Nat->(Int×List aj)->Option (List aj))(B:α->Option aj)(hs:l.length<=1000)(hn:∀x∈l,0<=(g x).length)
  (hL:∀K q,L (K+1) q=(bif (decide (q.1<((ba l:Nat):Int)))then(idx l q.1).bind λx1=>aM (B x1) λx2=>aM (bD (ba (q.2++([x2]:List aj))*16<=140737488355328)) λ_=>L K ((aD (q.1+1)),(q.2++([x2]:List aj)))else aY q.2))
  (hB:∀x,B x=aY (g x)):(L KK (0,[])).bind (λx1=>(bif (decide (((ba l:Nat):Int)<=(m:Int)))then(ke x1 bh).bind λx2=>aY x2 else aY bf))=aY (decide (l.length<=m)&&jB bh [] (l.map g)):=by
 rw[zry l g L aY hs (λK i x s h h2=>?_) (λK s=>by rw[hL];simp only[xy,cf]),aC,Rf (by simp;omega) (λs h=>?_),IT _ m rfl]
 .cases decide (l.length<=m)<;>rfl
 .obtain⟨x,h1,rfl⟩:=bL.1 h;exact hn x h1
 .have:=jc h;rw[hL];simp only[jZ h,ct,yP h,aC,hB];rw[zy (by rw[la,cM];omega),aC,yQ ab]
-- expressions
def Ck(op:Int):Int:=if op<=3 then 0 else if op=9∨op=15 then 1 else if op=16 then 3 else 2
def wC(e:Expr):Bool:=decide (0<=e.Op/\e.Op<17/\((e.aH.length:Nat):Int)=Ck e.Op)&&(decide (if e.Op=0 then 0<=e.N/\e.N<=1099511627776 else e.N=0) &&
 ((if e.Op=1∨e.Op=2∨e.Op=3 then wi e.S else decide (e.S=[]))&&(if e.Op=2 then wi e.Key else decide (e.Key=[]))))
def sN:Nat->Expr->Bool
 |0,_=>bf
 |d+1,e=>wC e&&e.aH.all (sN d)
def zAc{n:Int}(h0:0<=n)(h1:n<17):n=0∨n=1∨n=2∨n=3∨n=9∨n=15∨n=16∨(¬n=0/\¬n=1/\¬n=2/\¬n=3/\¬n=9/\¬n=15/\¬n=16/\¬n<=3):=ab
def Jz{n:Int}:decide ((min (max n 0) 1099511627776)=n)=decide (0<=n/\n<=1099511627776):=jb ab
def oD{s:aj}:decide ([]=s)=decide (s=[]):=jb ⟨Eq.symm,Eq.symm⟩
def jX{n:Int}:decide (0=n)=decide (n=0):=jb ⟨Eq.symm,Eq.symm⟩
def zLj{n:Int}{s k:aj}{az:List Expr} :wC ⟨0,n,s,k,az⟩=(decide (((az.length:Nat):Int)=0)&&(decide (0<=n/\n<=1099511627776)&&(decide (s=[])&&decide (k=[])))):=by simp[wC,Ck]
def aeR{RK:Nat}{d n:Int}{s k:aj}{az:List Expr}{r:Bool}(hd:¬d=0)(hS:0<=s.length)(hK:0<=k.length)(h:wC ⟨0,n,s,k,az⟩=bh->xe (yc RK) d az ((ba az:Nat):Int) KK 0=aY (bif r then bN ()else bO bf)):yc (RK+1) ⟨0,n,s,k,az⟩ d=aY (wC ⟨0,n,s,k,az⟩&&r):=by
 rw[zLj ]at h ⊢;rw[yc];simp only[df hd,Jz,oD,jX,yG hS,yG hK,bU,cJ,cf,ct,aC,y9,Int.reduceEq,Int.reduceLT,Int.reduceGE,Int.reduceLE,decide_true,decide_false,ge_iff_le]
 cases ha:decide (((az.length:Nat):Int)=0)<;>cases hb:decide (0<=n/\n<=1099511627776)<;>cases hc:decide (s=[])<;>cases he:decide (k=[])<;>(first|rfl|(rw[ha,hb,hc,he]at h;rw[h rfl];cases r<;>rfl))
def zLk{n:Int}{s k:aj}{az:List Expr} :wC ⟨1,n,s,k,az⟩=(decide (((az.length:Nat):Int)=0)&&(decide (n=0)&&(wi s&&decide (k=[])))):=by simp[wC,Ck]
def aeS{RK:Nat}{d n:Int}{s k:aj}{az:List Expr}{r:Bool}(hd:¬d=0)(hS:0<=s.length)(hK:0<=k.length)(h:wC ⟨1,n,s,k,az⟩=bh->xe (yc RK) d az ((ba az:Nat):Int) KK 0=aY (bif r then bN ()else bO bf)):yc (RK+1) ⟨1,n,s,k,az⟩ d=aY (wC ⟨1,n,s,k,az⟩&&r):=by
 rw[zLk ]at h ⊢;rw[yc];simp only[df hd,Jz,oD,jX,yG hS,yG hK,bU,cJ,cf,ct,aC,y9,Int.reduceEq,Int.reduceLT,Int.reduceGE,Int.reduceLE,decide_true,decide_false,ge_iff_le]
 cases ha:decide (((az.length:Nat):Int)=0)<;>cases hb:decide (n=0)<;>cases hc:wi s<;>cases he:decide (k=[])<;>(first|rfl|(rw[ha,hb,hc,he]at h;rw[h rfl];cases r<;>rfl))
def zLl{n:Int}{s k:aj}{az:List Expr} :wC ⟨2,n,s,k,az⟩=(decide (((az.length:Nat):Int)=0)&&(decide (n=0)&&(wi s&&wi k))):=by simp[wC,Ck]
def aeT{RK:Nat}{d n:Int}{s k:aj}{az:List Expr}{r:Bool}(hd:¬d=0)(hS:0<=s.length)(hK:0<=k.length)(h:wC ⟨2,n,s,k,az⟩=bh->xe (yc RK) d az ((ba az:Nat):Int) KK 0=aY (bif r then bN ()else bO bf)):yc (RK+1) ⟨2,n,s,k,az⟩ d=aY (wC ⟨2,n,s,k,az⟩&&r):=by
 rw[zLl ]at h ⊢;rw[yc];simp only[df hd,Jz,oD,jX,yG hS,yG hK,bU,cJ,cf,ct,aC,y9,Int.reduceEq,Int.reduceLT,Int.reduceGE,Int.reduceLE,decide_true,decide_false,ge_iff_le]
 cases he:wi k with
 |false=>simp only[gh,eS];rfl
 |true =>
  simp only[bU,cf,aC,y9,jX,decide_true]
  cases ha:decide (((az.length:Nat):Int)=0)<;>cases hb:decide (n=0)<;>cases hc:wi s<;>(first|rfl|(rw[ha,hb,hc,he]at h;rw[h rfl];cases r<;>rfl))
def zLm{n:Int}{s k:aj}{az:List Expr} :wC ⟨3,n,s,k,az⟩=(decide (((az.length:Nat):Int)=0)&&(decide (n=0)&&(wi s&&decide (k=[])))):=by simp[wC,Ck]
def aeU{RK:Nat}{d n:Int}{s k:aj}{az:List Expr}{r:Bool}(hd:¬d=0)(hS:0<=s.length)(hK:0<=k.length)(h:wC ⟨3,n,s,k,az⟩=bh->xe (yc RK) d az ((ba az:Nat):Int) KK 0=aY (bif r then bN ()else bO bf)):yc (RK+1) ⟨3,n,s,k,az⟩ d=aY (wC ⟨3,n,s,k,az⟩&&r):=by
 rw[zLm ]at h ⊢;rw[yc];simp only[df hd,Jz,oD,jX,yG hS,yG hK,bU,cJ,cf,ct,aC,y9,Int.reduceEq,Int.reduceLT,Int.reduceGE,Int.reduceLE,decide_true,decide_false,ge_iff_le]
 cases ha:decide (((az.length:Nat):Int)=0)<;>cases hb:decide (n=0)<;>cases hc:wi s<;>cases he:decide (k=[])<;>(first|rfl|(rw[ha,hb,hc,he]at h;rw[h rfl];cases r<;>rfl))
def zLn{n:Int}{s k:aj}{az:List Expr} :wC ⟨9,n,s,k,az⟩=(decide (((az.length:Nat):Int)=1)&&(decide (n=0)&&(decide (s=[])&&decide (k=[])))):=by simp[wC,Ck]
def aeV{RK:Nat}{d n:Int}{s k:aj}{az:List Expr}{r:Bool}(hd:¬d=0)(hS:0<=s.length)(hK:0<=k.length)(h:wC ⟨9,n,s,k,az⟩=bh->xe (yc RK) d az ((ba az:Nat):Int) KK 0=aY (bif r then bN ()else bO bf)):yc (RK+1) ⟨9,n,s,k,az⟩ d=aY (wC ⟨9,n,s,k,az⟩&&r):=by
 rw[zLn ]at h ⊢;rw[yc];simp only[df hd,Jz,oD,jX,yG hS,yG hK,bU,cJ,cf,ct,aC,y9,Int.reduceEq,Int.reduceLT,Int.reduceGE,Int.reduceLE,decide_true,decide_false,ge_iff_le]
 cases ha:decide (((az.length:Nat):Int)=1)<;>cases hb:decide (n=0)<;>cases hc:decide (s=[])<;>cases he:decide (k=[])<;>(first|rfl|(rw[ha,hb,hc,he]at h;rw[h rfl];cases r<;>rfl))
def zFs{n:Int}{s k:aj}{az:List Expr} :wC ⟨15,n,s,k,az⟩=(decide (((az.length:Nat):Int)=1)&&(decide (n=0)&&(decide (s=[])&&decide (k=[])))):=by simp[wC,Ck]
def agF{RK:Nat}{d n:Int}{s k:aj}{az:List Expr}{r:Bool}(hd:¬d=0)(hS:0<=s.length)(hK:0<=k.length)(h:wC ⟨15,n,s,k,az⟩=bh->xe (yc RK) d az ((ba az:Nat):Int) KK 0=aY (bif r then bN ()else bO bf)):yc (RK+1) ⟨15,n,s,k,az⟩ d=aY (wC ⟨15,n,s,k,az⟩&&r):=by
 rw[zFs ]at h ⊢;rw[yc];simp only[df hd,Jz,oD,jX,yG hS,yG hK,bU,cJ,cf,ct,aC,y9,Int.reduceEq,Int.reduceLT,Int.reduceGE,Int.reduceLE,decide_true,decide_false,ge_iff_le]
 cases ha:decide (((az.length:Nat):Int)=1)<;>cases hb:decide (n=0)<;>cases hc:decide (s=[])<;>cases he:decide (k=[])<;>(first|rfl|(rw[ha,hb,hc,he]at h;rw[h rfl];cases r<;>rfl))
def zFt{n:Int}{s k:aj}{az:List Expr} :wC ⟨16,n,s,k,az⟩=(decide (((az.length:Nat):Int)=3)&&(decide (n=0)&&(decide (s=[])&&decide (k=[])))):=by simp[wC,Ck]
def agG{RK:Nat}{d n:Int}{s k:aj}{az:List Expr}{r:Bool}(hd:¬d=0)(hS:0<=s.length)(hK:0<=k.length)(h:wC ⟨16,n,s,k,az⟩=bh->xe (yc RK) d az ((ba az:Nat):Int) KK 0=aY (bif r then bN ()else bO bf)):yc (RK+1) ⟨16,n,s,k,az⟩ d=aY (wC ⟨16,n,s,k,az⟩&&r):=by
 rw[zFt ]at h ⊢;rw[yc];simp only[df hd,Jz,oD,jX,yG hS,yG hK,bU,cJ,cf,ct,aC,y9,Int.reduceEq,Int.reduceLT,Int.reduceGE,Int.reduceLE,decide_true,decide_false,ge_iff_le]
 cases ha:decide (((az.length:Nat):Int)=3)<;>cases hb:decide (n=0)<;>cases hc:decide (s=[])<;>cases he:decide (k=[])<;>(first|rfl|(rw[ha,hb,hc,he]at h;rw[h rfl];cases r<;>rfl))
def zLo{op n:Int}{s k:aj}{az:List Expr}(tJ:0<=op)(CP:op<17)(h0:¬op=0)(h1:¬op=1)(h2:¬op=2)(h3:¬op=3)(h9:¬op=9)(uQ:¬op=15)(tc:¬op=16)(E4:¬op<=3):wC ⟨op,n,s,k,az⟩=(decide (((az.length:Nat):Int)=2)&&(decide (n=0)&&(decide (s=[])&&decide (k=[])))):=by simp[wC,Ck,h0,h1,h2,h3,h9,uQ,tc,E4,tJ,CP]
def aeY{RK:Nat}{op d n:Int}{s k:aj}{az:List Expr}{r:Bool}(tJ:0<=op)(CP:op<17)(h0:¬op=0)(h1:¬op=1)(h2:¬op=2)(h3:¬op=3)(h9:¬op=9)(uQ:¬op=15)(tc:¬op=16)(E4:¬op<=3)(hd:¬d=0)(hS:0<=s.length)(hK:0<=k.length)(h:wC ⟨op,n,s,k,az⟩=bh->xe (yc RK) d az ((ba az:Nat):Int) KK 0=aY (bif r then bN ()else bO bf)):yc (RK+1) ⟨op,n,s,k,az⟩ d=aY (wC ⟨op,n,s,k,az⟩&&r):=by
 rw[zLo tJ CP h0 h1 h2 h3 h9 uQ tc E4]at h ⊢;rw[yc];simp only[df h0,df h1,df h2,df h3,df h9,df uQ,df tc,df E4,df (Int.not_lt.2 tJ),df (Int.not_le.2 CP),df hd,Jz,oD,jX,yG hS,yG hK,bU,cJ,cf,ct,aC,y9,Int.reduceEq,Int.reduceLT,Int.reduceGE,Int.reduceLE,decide_true,decide_false,ge_iff_le]
 cases ha:decide (((az.length:Nat):Int)=2)<;>cases hb:decide (n=0)<;>cases hc:decide (s=[])<;>cases he:decide (k=[])<;>(first|rfl|(rw[ha,hb,hc,he]at h;rw[h rfl];cases r<;>rfl))
def zLp{RK:Nat}{d:Int}{e:Expr}{r:Bool}(hd:¬d=0)(hS:0<=e.S.length)(hK:0<=e.Key.length)(h:wC e=bh->xe (yc RK) d e.aH ((ba e.aH:Nat):Int) KK 0=aY (bif r then bN ()else bO bf)):yc (RK+1) e d=aY (wC e&&r):=by
 obtain⟨op,n,s,k,az⟩:=e;by_cases tJ:0<=op
 .by_cases CP:op<17
  .obtain rfl|rfl|rfl|rfl|rfl|rfl|rfl|⟨h0,h1,h2,h3,h9,uQ,tc,E4⟩:=zAc tJ CP
   .exact aeR hd hS hK h
   .exact aeS hd hS hK h
   .exact aeT hd hS hK h
   .exact aeU hd hS hK h
   .exact aeV hd hS hK h
   .exact agF hd hS hK h
   .exact agG hd hS hK h
   .exact aeY tJ CP h0 h1 h2 h3 h9 uQ tc E4 hd hS hK h
  .have:wC ⟨op,n,s,k,az⟩=bf:=by simp[wC,CP]
   rw[this,yc];simp only[df hd,df (show ¬op<0 by omega),dt (show op>=17 by omega)];rfl
 .have:wC ⟨op,n,s,k,az⟩=bf:=by simp[wC,tJ]
  rw[this,yc];simp only[df hd,dt (show op<0 by omega)];rfl
def zFu{e:Expr}(h:Hq e=bh):0<=e.S.length/\0<=e.Key.length:=by obtain⟨op,n,s,k,az⟩:=e;rw[Hq]at h;simp only[bn,aU]at h;exact h.2
def zrz{e x:Expr}(h:Hq e=bh)(hx:x∈e.aH):Hq x=bh:=by obtain⟨op,n,s,k,az⟩:=e;rw[Hq,zdc]at h;simp only[bn]at h;exact bl.1 h.1 x hx
def zAd{e:Expr}{n:Nat}(h:V1 e<=n):e.aH.length<n:=by
 obtain⟨op,m,s,k,az⟩:=e;rw[V1]at h;have:=Yt az
 show az.length<n
 omega
def zAe{e x:Expr}{n:Nat}(h:V1 e<=n)(hx:x∈e.aH):V1 x<=n:=by obtain⟨op,m,s,k,az⟩:=e;rw[V1]at h;have:=Yu (show x∈az from hx);omega
def zAf:∀(d:Nat)(e:Expr)(K:Nat),d<K->d<=1000->V1 e<=5000->Hq e=bh->yc K e (d:Int)=aY (sN d e):=by
 intro d
 induction d with
 |zero =>
  intro e K hK _ _ _
  obtain⟨K,rfl⟩:∃k,K=k+1:=⟨K-1,ab⟩
  rw[yc];rfl
 |succ d ih =>
  intro e K hK hd hn hs
  obtain⟨K,rfl⟩:∃k,K=k+1:=⟨K-1,ab⟩
  have h1:=zFu hs;have hz:=zAd hn;rw[sN]
  refine zLp ab ab ab λ_=>?_
  refine Re e.aH (sN d) _ (λq=>aM (idx e.aH q) λx1=>aM (yc K (Expr.mk x1.Op x1.N x1.S x1.Key x1.aH) (aD (((d+1:Nat):Int)-1))) λx2=>aY (!x2)) ab (λK q=>?_) λi x hx=>?_
  .rw[xe];simp only[cV,aC]
  .have B_:=bW hx;rw[yP hx,aC,zD,uP ab ab,show(((d+1:Nat):Int)-1)=(d:Int) by omega,ih x K ab ab (zAe hn B_) (zrz hs B_)];rfl
def Yw{e:Expr}(h:rY e=bh):V1 e<=5000/\Hq e=bh:=by unfold rY at h;simp only[bn,aU]at h;exact h
def Wu{e:Expr}(h:rY e=bh):kf e=aY (sN 12 e):=by unfold kf;obtain⟨h1,h2⟩:=Yw h;rw[zD,show(12:Int)=((12:Nat):Int) from rfl,zAf 12 e KK (Jy ab) ab ab h2];rfl
def Z5{a b:Int}{l:List Int}(h:l.length<1000):zR a b l=aY (l.all λn=>decide (a<=n)&&decide (n<=b)):=by
 unfold zR;rw[Re l (λn=>decide (a<=n)&&decide (n<=b)) (uT a b l (ba l:Nat)) (λq=>aM (idx l q) λx1=>(bif (decide (x1<a))then aY bh else aY (decide (x1>b)))) ab (λK q=>?_) λi x hx=>?_]
 .cases l.all λn=>decide (a<=n)&&decide (n<=b)<;>rfl
 .rw[uT];simp only[cV]
 .rw[yP hx,aC];by_cases h1:a<=x
  .rw[df (show ¬x<a by omega),dt h1,cf,cE];by_cases h2:x<=b
   .rw[dt h2,df (show ¬x>b by omega)];rfl
   .rw[df h2,dt (show x>b by omega)];rfl
  .rw[dt (show x<a by omega),df h1];rfl
def u7{a b x:Int}:zR a b [x]=aY (pd (a<=x/\x<=b)):=by rw[Z5 ae];exact aP aY (qB ae)
def V3{a b x y:Int}:zR a b [x,y]=aY (pd ((a<=x/\x<=b)/\(a<=y/\y<=b))):=by rw[Z5 ae];exact aP aY (qB ae)
def zFv{a b x y z:Int}:zR a b [x,y,z]=aY (pd ((a<=x/\x<=b)/\(a<=y/\y<=b)/\(a<=z/\z<=b))):=by rw[Z5 ae];exact aP aY (qB ae)
def uj:Expr:=⟨0,0,[],[],[]⟩
def Z6(r:za):Prop:=
 (0<=r.aL/\r.aL<=3)/\(r.aL=0->sN 12 r.Test=bh)/\(¬r.aL=0->r.Test=uj) /\
 (r.aL=1->(0<=r.zh.nL/\r.zh.nL<=3)/\(0<=r.zh.nK/\r.zh.nK<=4096)/\(0<=r.zh.nG/\r.zh.nG<=4096)/\(1<=r.zh.Den/\r.zh.Den<=4096))/\(¬r.aL=1->r.zh=⟨0,0,0,0⟩) /\
 (r.aL=2->1<=r.Uses/\r.Uses<=63)/\(r.aL=3->(0<=r.Uses/\r.Uses<=5)/\(0<=r.lK/\r.lK<=5)/\(0<=r.N/\r.N<=1048576)) /\
 (¬r.aL=2->¬r.aL=3->r.Uses=0)/\(¬r.aL=3->r.lK=0/\r.N=0)
def XR(r:za):Prop:=(0<=r.lA/\r.lA<=1073741824)/\(0<=r.lN/\r.lN<=1073741824)/\(0<=r.j_/\r.j_<=1073741824)/\(r.j_=0∨r.lA<r.j_)
def Z7(r:za):Prop:=((r.aA.all wi=bh/\r.Except.all wi=bh)/\XR r)/\Z6 r
def zj2{l:List aj}(h:Iv l=bh):l.length<=3000/\∀s∈l,0<=s.length:=by unfold Iv at h;simp only[bn,aU,bl]at h;exact⟨h.2,h.1⟩
def Yx{r:za}(h:sG r=bh):0<=r.aK.length/\(r.aA.length<=3000/\∀s∈r.aA,0<=s.length)/\(r.Except.length<=3000/\∀s∈r.Except,0<=s.length)/\rY r.Test=bh:=by unfold sG at h;simp only[bn,aU]at h;exact⟨h.1,zj2 h.2.1,zj2 h.2.2.1,h.2.2.2⟩
def AF{e:Expr}(h:rY e=bh):AD e:=by have:=(Yw h).1;unfold AD;omega
def zwy{A B C:Bool}{un fr:Int}:((bif (!A)then aY bh else(bif (!B)then aY bh else(bif (!C)then aY bh else(bif (!(decide (un=0)))then aY (decide (un<=fr))else aY bf)))):Option Bool)=aY (!(A&&(B&&(C&&pd (un=0∨fr<un))))):=by
 have:pd (un=0∨fr<un)=(decide (un=0)||decide (fr<un)):=(qB ae).symm;rw[this]
 have lt:decide (un<=fr)=!(decide (fr<un)):=by
  by_cases h:un<=fr
  .rw[dt h,df ab];rfl
  .rw[df h,dt ab];rfl
 rw[lt];cases A<;>cases B<;>cases C<;>cases decide (un=0)<;>rfl
def Z8{p:Prop}(h:p):pd p=bh:=vH.2 h
def zwz{r:za}(h:sG r=bh):uU r=aY (pd (Z7 r)):=by
 obtain⟨_,⟨z1,z2⟩,⟨x1,x2⟩,te⟩:=Yx h;obtain⟨nm,zs,ex,fr,un,gr,va,ki,t,⟨ps,pb,pn,rI⟩,us,ot,n⟩:=r;simp only at z1 z2 x1 x2 te;have n1:=Rf (u:=bf) (l:=zs) ab (λs hs=>by have:=z2 s hs;omega);have n2:=Rf (u:=bf) (l:=ex) ab (λs hs=>by have:=x2 s hs;omega);rw[Wt]at n1 n2
 have sm:∀x,kj ⟨nm,zs,ex,fr,un,gr,va,ki,t,⟨ps,pb,pn,rI⟩,us,ot,n⟩ x=aY (pd ((⟨nm,zs,ex,fr,un,gr,va,ki,t,⟨ps,pb,pn,rI⟩,us,ot,n⟩:za)=x)):=λx=>zjw (a:=⟨nm,zs,ex,fr,un,gr,va,ki,t,⟨ps,pb,pn,rI⟩,us,ot,n⟩) (by show zs.length<_;omega) (by show ex.length<_;omega) (AF te)
 have hp:pd (Z7 ⟨nm,zs,ex,fr,un,gr,va,ki,t,⟨ps,pb,pn,rI⟩,us,ot,n⟩)=((zs.all wi&&(ex.all wi&&(pd ((0<=fr/\fr<=1073741824)/\(0<=gr/\gr<=1073741824)/\(0<=un/\un<=1073741824))&&pd (un=0∨fr<un))))&&pd (Z6 ⟨nm,zs,ex,fr,un,gr,va,ki,t,⟨ps,pb,pn,rI⟩,us,ot,n⟩)):=by
  refine(qB ?_).symm;simp only[bn,vH,Z7,XR];constructor
  .rintro⟨⟨a,b,⟨c,d,e⟩,f⟩,g⟩;exact⟨⟨⟨a,b⟩,c,d,e,f⟩,g⟩
  .rintro⟨⟨⟨a,b⟩,c,d,e,f⟩,g⟩;exact⟨⟨a,b,⟨c,d,e⟩,f⟩,g⟩
 rw[hp];unfold uU;simp only[n1,n2,zFv,aC];rw[zwy,aC];cases hh:(zs.all wi&&(ex.all wi&&(pd ((0<=fr/\fr<=1073741824)/\(0<=gr/\gr<=1073741824)/\(0<=un/\un<=1073741824))&&pd (un=0∨fr<un))))
 .rfl
 simp only[bU,cf,cE];by_cases k0:ki=0
 .subst k0;simp only[decide_true,ct,zD,Wu te,aC]
  have hb:pd (Z6 ⟨nm,zs,ex,fr,un,gr,va,0,t,⟨ps,pb,pn,rI⟩,us,ot,n⟩)=(sN 12 t&&pd ((⟨nm,zs,ex,fr,un,gr,va,0,t,⟨ps,pb,pn,rI⟩,us,ot,n⟩:za)=⟨nm,zs,ex,fr,un,gr,va,0,t,⟨0,0,0,0⟩,0,0,0⟩)):=by refine(qB ?_).symm;simp only[bn,vH,Z6,za.mk.injEq,zh.mk.injEq];simp
  rw[hb,sm];cases sN 12 t<;>rfl
 .by_cases k1:ki=1
  .subst k1;simp only[df k0,decide_true,ct,cf,zD,u7,V3,aC]
   have hb:pd (Z6 ⟨nm,zs,ex,fr,un,gr,va,1,t,⟨ps,pb,pn,rI⟩,us,ot,n⟩)=(pd (0<=ps/\ps<=3)&&(pd ((0<=pb/\pb<=4096)/\(0<=pn/\pn<=4096))&&(pd (1<=rI/\rI<=4096)&&pd ((⟨nm,zs,ex,fr,un,gr,va,1,t,⟨ps,pb,pn,rI⟩,us,ot,n⟩:za)=⟨nm,zs,ex,fr,un,gr,va,1,⟨0,0,[],[],[]⟩,⟨ps,pb,pn,rI⟩,0,0,0⟩)))):=by
    refine(qB ?_).symm;simp only[bn,vH,Z6,za.mk.injEq,zh.mk.injEq,uj];simp
    grind
   rw[hb];cases pd (0<=ps/\ps<=3)
   .rfl
   cases pd ((0<=pb/\pb<=4096)/\(0<=pn/\pn<=4096))
   .rfl
   cases pd (1<=rI/\rI<=4096)
   .rfl
   simp only[ct,aC,sm,cE]
  .by_cases k2:ki=2
   .subst k2;simp only[df k0,df k1,decide_true,ct,cf,zD,u7,V3,aC]
    have hb:pd (Z6 ⟨nm,zs,ex,fr,un,gr,va,2,t,⟨ps,pb,pn,rI⟩,us,ot,n⟩)=(pd (1<=us/\us<=63)&&pd ((⟨nm,zs,ex,fr,un,gr,va,2,t,⟨ps,pb,pn,rI⟩,us,ot,n⟩:za)=⟨nm,zs,ex,fr,un,gr,va,2,⟨0,0,[],[],[]⟩,⟨0,0,0,0⟩,us,0,0⟩)):=by
     refine(qB ?_).symm;simp only[bn,vH,Z6,za.mk.injEq,zh.mk.injEq,uj];simp
     grind
    rw[hb];cases pd (1<=us/\us<=63)
    .rfl
    simp only[ct,aC,sm,cE]
   .by_cases k3:ki=3
    .subst k3;simp only[df k0,df k1,df k2,decide_true,ct,cf,zD,u7,V3,aC]
     have hb:pd (Z6 ⟨nm,zs,ex,fr,un,gr,va,3,t,⟨ps,pb,pn,rI⟩,us,ot,n⟩)=(pd ((0<=us/\us<=5)/\(0<=ot/\ot<=5))&&(pd (0<=n/\n<=1048576)&&pd ((⟨nm,zs,ex,fr,un,gr,va,3,t,⟨ps,pb,pn,rI⟩,us,ot,n⟩:za)=⟨nm,zs,ex,fr,un,gr,va,3,⟨0,0,[],[],[]⟩,⟨0,0,0,0⟩,us,ot,n⟩))):=by
      refine(qB ?_).symm;simp only[bn,vH,Z6,za.mk.injEq,zh.mk.injEq,uj];simp
      grind
     rw[hb];cases pd ((0<=us/\us<=5)/\(0<=ot/\ot<=5))
     .rfl
     cases pd (0<=n/\n<=1048576)
     .rfl
     simp only[ct,aC,sm,cE]
    .simp only[df k0,df k1,df k2,df k3,cf,aC]
     have hb:pd (Z6 ⟨nm,zs,ex,fr,un,gr,va,ki,t,⟨ps,pb,pn,rI⟩,us,ot,n⟩)=bf:=by refine(qB (b:=bf) ⟨λh=>(by cases h),λh=>?_⟩).symm;obtain⟨⟨h1,h2⟩,_⟩:=h;simp only at h1 h2;omega
     rw[hb]
def kz{α:Type}(l:List α)(P:α->Prop)(L:Nat->Int->Option (Bool⊕Unit))(B:Int->Option Bool)(hs:l.length<4611686018427387904)
  (hL:∀K q,L (K+1) q=(bif (decide (q<((ba l:Nat):Int)))then(B q).bind λr=>(bif r then aY (bO bf)else L K (aD (q+1)))else aY (bN ())))
  (hB:∀(i:Nat) x,l[i]?=aY x->B (i:Int)=aY (!(pd (P x)))):L KK 0=aY (bif pd (∀x∈l,P x)then bN ()else bO bf):=by rw[Re l (λx=>pd (P x)) L B ab hL hB];have:l.all (λx=>pd (P x))=pd (∀x∈l,P x):=qB (by simp only[bl,vH]);rw[this]
def IQ(p:zj):Prop:=(0<=p.X/\p.X<=1048576)/\(0<=p.Y/\p.Y<=1048576)/\(0<=p.Z_/\p.Z_<=4096)
def Mw(p:zj):Prop:=(-4096<=p.X/\p.X<=4096)/\(-4096<=p.Y/\p.Y<=4096)/\(1<=p.Z_/\p.Z_<=4096)
def JA(t:ar):Prop:=(t.Rows.length<=60/\jB bh [] (t.Rows.map av.aK)=bh)/\(-1099511627776<=t.nU/\t.nU<=1099511627776)/\∀x∈t.Rows,-1099511627776<=x.N/\x.N<=1099511627776
def FD(c:a_):Prop:=(0<=c.sH/\c.sH<=2)/\(0<=c.pB/\c.pB<=1099511627776)/\BC c.ay
def Dk(v:au):Prop:=(0<=v.sJ/\v.sJ<=20)/\(1<=((v.mK.length:Nat):Int)/\((v.mK.length:Nat):Int)<=20)/\IQ v.nq/\∀x∈v.mK,IQ x
def wT{α:Type}(l:List α)(g:α->aj)(m:Nat):Prop:=l.length<=m/\jB bh [] (l.map g)=bh
def MO(p:yp):Prop:=(∀d∈p.aE,sN 12 d.Body=bh)/\(∀t∈p.Tables,JA t)/\(∀z∈p.aA,BC z.ay)/\(∀r∈p.aB,Z7 r)/\(∀c∈p.aI,FD c)/\(∀v∈p.aF,Dk v)/\(∀d∈p.aJ,Mw d)
def oE(p:yp):Prop:=
 (wT p.aE Def.aK 60/\wT p.Tables ar.aK 60/\wT p.aA zF.aK 60/\wT p.aB za.aK 200/\wT p.aI a_.aK 30/\wT p.aF au.aK 60)/\MO p/\(0<=p.aG/\p.aG<=24)/\p.aJ.length<=24
def KV{α:Type}{l:List α}{g:α->aj}{m:Nat}:(decide (l.length<=m)&&jB bh [] (l.map g))=pd (wT l g m):=qB (by simp[wT])
def zFw{l:List Def}(hs:l.length<=1000)(hn:∀x∈l,0<=x.aK.length):Yj l 60=aY (pd (wT l Def.aK 60)):=by
 rw[<- KV];unfold Yj
 exact ky l Def.aK 60 (A1 l 60 (ba l:Nat)) (λx=>aY x.aK) hs hn (λK q=>rfl) λx=>rfl
def zFx{l:List ar}(hs:l.length<=1000)(hn:∀x∈l,0<=x.aK.length):JZ l 60=aY (pd (wT l ar.aK 60)):=by
 rw[<- KV];unfold JZ
 exact ky l ar.aK 60 (uc l 60 (ba l:Nat)) (λx=>aY x.aK) hs hn (λK q=>rfl) λx=>rfl
def zFy{l:List zF}(hs:l.length<=1000)(hn:∀x∈l,0<=x.aK.length):J0 l 60=aY (pd (wT l zF.aK 60)):=by
 rw[<- KV];unfold J0
 exact ky l zF.aK 60 (ud l 60 (ba l:Nat)) (λx=>aY x.aK) hs hn (λK q=>rfl) λx=>rfl
def zFz{l:List za}(hs:l.length<=1000)(hn:∀x∈l,0<=x.aK.length):J1 l 200=aY (pd (wT l za.aK 200)):=by
 rw[<- KV];unfold J1
 exact ky l za.aK 200 (ue l 200 (ba l:Nat)) (λx=>aY x.aK) hs hn (λK q=>rfl) λx=>rfl
def zF0{l:List a_}(hs:l.length<=1000)(hn:∀x∈l,0<=x.aK.length):J2 l 30=aY (pd (wT l a_.aK 30)):=by
 rw[<- KV];unfold J2
 exact ky l a_.aK 30 (uf l 30 (ba l:Nat)) (λx=>aY x.aK) hs hn (λK q=>rfl) λx=>rfl
def zF1{l:List au}(hs:l.length<=1000)(hn:∀x∈l,0<=x.aK.length):J3 l 60=aY (pd (wT l au.aK 60)):=by
 rw[<- KV];unfold J3
 exact ky l au.aK 60 (ug l 60 (ba l:Nat)) (λx=>aY x.aK) hs hn (λK q=>rfl) λx=>rfl
def zF2{l:List av}(hs:l.length<=1000)(hn:∀x∈l,0<=x.aK.length):J4 l 60=aY (pd (wT l av.aK 60)):=by
 rw[<- KV];unfold J4
 exact ky l av.aK 60 (uh l 60 (ba l:Nat)) (λx=>aY x.aK) hs hn (λK q=>rfl) λx=>rfl
structure tu(p:yp):Prop where
 d:p.aE.length<=300
 t:p.Tables.length<=300
 z:p.aA.length<=300
 r:p.aB.length<=300
 c:p.aI.length<=300
 v:p.aF.length<=300
 s:p.aJ.length<=64
 ds:∀x∈p.aE,0<=x.aK.length/\rY x.Body=bh
 ts:∀x∈p.Tables,0<=x.aK.length/\x.Rows.length<=64/\∀y∈x.Rows,0<=y.aK.length
 zs:∀x∈p.aA,0<=x.aK.length/\x.ay.length<=64
 rs:∀x∈p.aB,sG x=bh
 cs:∀x∈p.aI,0<=x.aK.length/\x.ay.length<=64
 vs:∀x∈p.aF,0<=x.aK.length/\x.mK.length<=64
def JB{o:Option Bool}{f:Option Bool}{g r:Prop}(h:o=aY (pd g))(hr:g->f=aY (!(pd r))):(o.bind λx=>bif (!x)then aY bh else f)=aY (!(pd (g/\r))):=by
 rw[wY]
 exact zz4 h λhg=>hr (vH.1 hg)
def kM{o:Option Bool}{g:Prop}(h:o=aY (pd g)):(o.bind λx=>aY (!x))=aY (!(pd g)):=by rw[h];rfl
def pdb{b:Bool}:aY b=aY (pd (b=bh)):=aP aY (qB Iff.rfl)
section code
variable{c0:List Def}{c1:Int}{c2:List ar}{c3:List zF}{c4:List za}{c5:List a_}{c6:List au}{c7:List zj}{c8:Int}
def agP(hl:c0.length<=300)(h:∀x∈c0,0<=x.aK.length/\rY x.Body=bh):ur c0 (ba c0:Nat) c2 c3 c4 c5 c6 c7 c8 KK 0=aY (bif pd (∀d∈c0,sN 12 d.Body=bh)then .inr ()else .inl bf):=by
 refine kz c0 (λd=>sN 12 d.Body=bh) (ur c0 (ba c0:Nat) c2 c3 c4 c5 c6 c7 c8) (λq=>aM (idx c0 q) λx1=>aM (kf (Expr.mk x1.Body.Op x1.Body.N x1.Body.S x1.Body.Key x1.Body.aH)) λx2=>aY (!x2)) ab (λK q=>?_) λi x hx=>?_
 .rw[ur];simp only[cV,aC]
 .rw[yP hx,aC,zD];exact kM ((Wu (h x (bW hx)).2).trans pdb)
def agQ{c0:List ar}{c2:List Def}(hl:c0.length<=300)(h:∀x∈c0,0<=x.aK.length/\x.Rows.length<=64/\∀y∈x.Rows,0<=y.aK.length):kl c0 (ba c0:Nat) c2 c3 c4 c5 c6 c7 c8 KK 0=aY (bif pd (∀d∈c0,JA d)then .inr ()else .inl bf):=by
 have key:=Yv c0 (λx=>pd (JA x)) (aY (bN ())) (aY (bO bf)) (kl c0 (ba c0:Nat) c2 c3 c4 c5 c6 c7 c8) ab (λK i x hx=>?_) (λK=>by rw[kl,xy];rfl)
 .have:c0.all (λx=>pd (JA x))=pd (∀x∈c0,JA x):=qB (by simp only[bl,vH]);rw[key,this];cases pd (∀x∈c0,JA x)<;>rfl
 .have hi:=jc hx;obtain⟨_,h2,h3⟩:=h x (bW hx);rw[kl,jZ hx,ct,yP hx,aC,yQ ab];rw[JB (zF2 (l:=x.Rows) ab (λy hy=>by have:=h3 y hy;omega)) (λ_=>kM u7),aC]
  have hp:pd (JA x)=(pd (wT x.Rows av.aK 60/\-1099511627776<=x.nU/\x.nU<=1099511627776)&&pd (∀y∈x.Rows,-1099511627776<=y.N/\y.N<=1099511627776)):=by rw[<- wY];exact vF ⟨λ⟨a,b,c⟩=>⟨⟨a,b⟩,c⟩,λ⟨⟨a,b⟩,c⟩=>⟨a,b,c⟩⟩
  simp only[hp];cases pd (wT x.Rows av.aK 60/\-1099511627776<=x.nU/\x.nU<=1099511627776)
  .rfl
  rw[bU,cf,cE];rw[kz x.Rows (λy=>-1099511627776<=y.N/\y.N<=1099511627776) (Ai c0 (ba c0:Nat) (i:Int) x.Rows (ba x.Rows:Nat) c2 c3 c4 c5 c6 c7 c8) (λq=>aM (idx x.Rows q) λx1=>aM (zR (-1099511627776) 1099511627776 ([x1.N]:List Int)) λx2=>aY (!x2)) ab (λK q=>?_) λj y hy=>?_]
  .cases pd (∀y∈x.Rows,-1099511627776<=y.N/\y.N<=1099511627776)<;>rfl
  .rw[Ai];simp only[cV,aC]
  .rw[yP hy,aC];exact kM u7
def agR{c0:List zF}{c2:List Def}{c3:List ar}(hl:c0.length<=300):uu c0 (ba c0:Nat) c2 c3 c4 c5 c6 c7 c8 KK 0=aY (bif pd (∀d∈c0,BC d.ay)then .inr ()else .inl bf):=by
 refine kz c0 (λd=>BC d.ay) (uu c0 (ba c0:Nat) c2 c3 c4 c5 c6 c7 c8) (λq=>aM (idx c0 q) λx1=>aM (A3 x1.ay) λx2=>aY (!x2)) ab (λK q=>?_) λi x hx=>?_
 .rw[uu];simp only[cV,aC]
 .rw[yP hx,aC];exact kM zww
def agS{c0:List za}{c2:List Def}{c3:List ar}{c4:List zF}(hl:c0.length<=300)(h:∀x∈c0,sG x=bh):uv c0 (ba c0:Nat) c2 c3 c4 c5 c6 c7 c8 KK 0=aY (bif pd (∀d∈c0,Z7 d)then .inr ()else .inl bf):=by
 refine kz c0 Z7 (uv c0 (ba c0:Nat) c2 c3 c4 c5 c6 c7 c8) (λq=>aM (idx c0 q) λx1=>aM (uU (za.mk x1.aK x1.aA x1.Except x1.lA x1.j_ x1.lN x1.lU x1.aL (Expr.mk x1.Test.Op x1.Test.N x1.Test.S x1.Test.Key x1.Test.aH) x1.zh x1.Uses x1.lK x1.N)) λx2=>aY (!x2)) ab (λK q=>?_) λi x hx=>?_
 .rw[uv];simp only[cV,aC]
 .rw[yP hx,aC,zD];exact kM (zwz (h x (bW hx)))
def agT{c0:List a_}{c2:List Def}{c3:List ar}{c4:List zF}{c5:List za}(hl:c0.length<=300):ux c0 (ba c0:Nat) c2 c3 c4 c5 c6 c7 c8 KK 0=aY (bif pd (∀d∈c0,FD d)then .inr ()else .inl bf):=by
 refine kz c0 FD (ux c0 (ba c0:Nat) c2 c3 c4 c5 c6 c7 c8) (λq=>aM (idx c0 q) λx1=>(aM (zR 0 2 ([x1.sH]:List Int)) λx3=>(bif (!x3)then aY bh else(zR 0 1099511627776 ([x1.pB]:List Int)).bind λx4=>(bif (!x4)then aY bh else(A3 x1.ay).bind λx5=>aY (!x5))))) ab (λK q=>?_) λi x hx=>?_
 .rw[ux];simp only[cV]
 .rw[yP hx,aC]
  exact JB u7 λ_=>JB u7 λ_=>kM zww
def agU{c0:List au}{c2:List Def}{c3:List ar}{c4:List zF}{c5:List za}{c6:List a_}(hl:c0.length<=300)(h:∀x∈c0,0<=x.aK.length/\x.mK.length<=64):km c0 (ba c0:Nat) c2 c3 c4 c5 c6 c7 c8 KK 0=aY (bif pd (∀d∈c0,Dk d)then .inr ()else .inl bf):=by
 have key:=Yv c0 (λx=>pd (Dk x)) (aY (bN ())) (aY (bO bf)) (km c0 (ba c0:Nat) c2 c3 c4 c5 c6 c7 c8) ab (λK i x hx=>?_) (λK=>by rw[km,xy];rfl)
 .have:c0.all (λx=>pd (Dk x))=pd (∀x∈c0,Dk x):=qB (by simp only[bl,vH]);rw[key,this];cases pd (∀x∈c0,Dk x)<;>rfl
 .have hi:=jc hx;obtain⟨_,h2⟩:=h x (bW hx);rw[km,jZ hx,ct,yP hx,aC,yQ ab];rw[JB u7 (λ_=>kM u7),aC]
  have hp:pd (Dk x)=(pd ((0<=x.sJ/\x.sJ<=20)/\(1<=((x.mK.length:Nat):Int)/\((x.mK.length:Nat):Int)<=20))&&pd (∀y∈([x.nq]++x.mK),IQ y)):=by
   rw[<- wY]
   exact vF ⟨λ⟨a,b,c,d⟩=>⟨⟨a,b⟩,λy hy=>by
    rcases bJ.1 hy with h1|h1
    .rw[b_.1 h1];exact c
    .exact d y h1⟩,λ⟨⟨a,b⟩,c⟩=>⟨a,b,c _ ae,λy hy=>c y (by simp[hy])⟩⟩
  simp only[hp];cases pd ((0<=x.sJ/\x.sJ<=20)/\(1<=((x.mK.length:Nat):Int)/\((x.mK.length:Nat):Int)<=20))
  .rfl
  have hlen:([x.nq]++x.mK).length<=65:=by simp;omega
  rw[bU,cf,cE,zy ab,aC];rw[kz ([x.nq]++x.mK) IQ (Aj c0 (ba c0:Nat) (i:Int) (ba ([x.nq]++x.mK):Nat) c2 c3 c4 c5 c6 c7 c8 ([x.nq]++x.mK)) (λq=>aM (bD (0<=q/\q<(((ba ([x.nq]++x.mK)):Nat):Int))) λ_=>aM ((([x.nq]++x.mK))[(bj q)]?) λx2=>(aM (zR 0 1048576 ([x2.X,x2.Y]:List Int)) λx4=>(bif (!x4)then aY bh else(zR 0 4096 ([x2.Z_]:List Int)).bind λx5=>aY (!x5)))) ab (λK q=>?_) λj y hy=>?_]
  .cases pd (∀y∈([x.nq]++x.mK),IQ y)<;>rfl
  .rw[Aj];simp only[cV]
  .have hj:=jc hy;rw[zy ab,aC,cx,hy,aC,JB V3 (λ_=>kM u7)];exact aP (λb=>aY (!b)) (vF ⟨λ⟨⟨a,b⟩,c⟩=>⟨a,b,c⟩,λ⟨a,b,c⟩=>⟨⟨a,b⟩,c⟩⟩)
def agV{c0:List zj}{c2:List Def}{c3:List ar}{c4:List zF}{c5:List za}{c6:List a_}{c7:List au}(hl:c0.length<=64):uy c0 (ba c0:Nat) c2 c3 c4 c5 c6 c7 c8 KK 0=aY (bif pd (∀d∈c0,Mw d)then .inr ()else .inl bf):=by
 refine kz c0 Mw (uy c0 (ba c0:Nat) c2 c3 c4 c5 c6 c7 c8) (λq=>aM (idx c0 q) λx1=>(aM (zR (-4096) 4096 ([x1.X,x1.Y]:List Int)) λx3=>(bif (!x3)then aY bh else(zR 1 4096 ([x1.Z_]:List Int)).bind λx4=>aY (!x4)))) ab (λK q=>?_) λi x hx=>?_
 .rw[uy];simp only[cV]
 .rw[yP hx,aC,JB V3 (λ_=>kM u7)];exact aP (λb=>aY (!b)) (vF ⟨λ⟨⟨a,b⟩,c⟩=>⟨a,b,c⟩,λ⟨a,b,c⟩=>⟨⟨a,b⟩,c⟩⟩)
end code
def QZ{p:yp}(h:tu p):HZ p=aY (pd (oE p)):=by
 unfold HZ;have hd:=h.d;have ht:=h.t;have hz:=h.z;have hr:=h.r;have hc:=h.c;have hv:=h.v;have hs:=h.s;rw[JB (zFw (l:=p.aE) ab (λx hx=>by have:=(h.ds x hx).1;omega)) λ_=>JB (zFx (l:=p.Tables) ab (λx hx=>by have:=(h.ts x hx).1;omega)) λ_=>JB (zFy (l:=p.aA) ab (λx hx=>by have:=(h.zs x hx).1;omega)) λ_=>JB (zFz (l:=p.aB) ab (λx hx=>by have:=(Yx (h.rs x hx)).1;omega)) λ_=>JB (zF0 (l:=p.aI) ab (λx hx=>by have:=(h.cs x hx).1;omega)) λ_=>kM (zF1 (l:=p.aF) ab (λx hx=>by have:=(h.vs x hx).1;omega)),aC]
 have hp:pd (oE p)=(pd (wT p.aE Def.aK 60/\wT p.Tables ar.aK 60/\wT p.aA zF.aK 60/\wT p.aB za.aK 200/\wT p.aI a_.aK 30/\wT p.aF au.aK 60)&&pd ((∀d∈p.aE,sN 12 d.Body=bh)/\(∀t∈p.Tables,JA t)/\(∀z∈p.aA,BC z.ay)/\(∀r∈p.aB,Z7 r)/\(∀c∈p.aI,FD c)/\(∀v∈p.aF,Dk v)/\(∀d∈p.aJ,Mw d)/\(0<=p.aG/\p.aG<=24)/\(0<=((p.aJ.length:Nat):Int)/\((p.aJ.length:Nat):Int)<=24))):=by rw[<- wY];exact vF ⟨λ⟨a,⟨b1,b2,b3,b4,b5,b6,b7⟩,c,d⟩=>⟨a,b1,b2,b3,b4,b5,b6,b7,c,ab⟩,λ⟨a,b1,b2,b3,b4,b5,b6,b7,c,d⟩=>⟨a,⟨b1,b2,b3,b4,b5,b6,b7⟩,c,ab⟩⟩
 rw[hp];cases pd (wT p.aE Def.aK 60/\wT p.Tables ar.aK 60/\wT p.aA zF.aK 60/\wT p.aB za.aK 200/\wT p.aI a_.aK 30/\wT p.aF au.aK 60)
 .rfl
 rw[bU,cf,cE]
 exact u6 (agP hd h.ds) λ_=>u6 (agQ ht h.ts) λ_=>u6 (agR hz) λ_=>u6 (agS hr h.rs) λ_=>u6 (agT hc) λ_=>u6 (agU hv h.vs) λ_=>u6 (agV hs) λ_=>by rw[V3];rfl
end Go.Proofs.YtogbenbghgjbiaaGreatDoor
namespace Go.KL
variable{α Bl:Type}[DecidableEq Bl](key:α->Bl)
def put(k:Bl)(c:α->α)(z:α):List α->List α
 |[]=>[c z]
 |x::r=>if key x=k then c x::r else x::put k c z r
def get(k:Bl):List α->Option α
 |[]=>bg
 |x::r=>if key x=k then aY x else get k r
variable{key}
def get_none{k:Bl}:∀{l:List α},get key k l=bg↔k ∉ l.map key
 |[]=>by simp[get]
 |x::r=>by
  rw[get];by_cases h:key x=k
  .simp[h]
  .rw[aN h,get_none];simp[Ne.symm h]
def KW{k:Bl}{x:α}:∀{l:List α},get key k l=aY x->key x=k/\x∈l
 |[],h=>by cases h
 |y::r,h=>by
  rw[get]at h;by_cases e:key y=k
  .rw[aO e]at h;cases h;exact⟨e,ak⟩
  .rw[aN e]at h;exact⟨(KW h).1,iO _ (KW h).2⟩
def get_mem{x:α}:∀{l:List α},(l.map key).Nodup->x∈l->get key (key x) l=aY x
 |[],_,h=>by cases h
 |y::r,hn,h=>by
  rw[ij,cA]at hn;rw[get]
  rcases bu.1 h with rfl|h
  .rw[aO rfl]
  .rw[aN (λe=>hn.1 (by rw[e];exact List.mem_map_of_mem h)),get_mem hn.2 h]
def ext:∀{a b:List α},(a.map key).Nodup->a.map key=b.map key->(∀k,get key k a=get key k b)->a=b
 |[],b,_,h,_=>by cases b with|nil=>rfl|cons=>cases h
 |x::a,[],_,h,_=>by cases h
 |x::a,y::b,hn,h,hg=>by
  rw[ij,ij]at h;obtain⟨h1,h2⟩:=List.cons.inj h;rw[ij,cA]at hn;have e:=hg (key x);rw[get,get,aO rfl,aO h1.symm]at e;cases e
  rw[ext hn.2 h2 λk=>by
   have:=hg k;rw[get,get]at this;by_cases hk:key x=k
   .subst hk;rw[get_none.2 hn.1,get_none.2 (by rw[<- h2];exact hn.1)]
   .rw[aN hk,aN hk]at this;exact this]
def zo8{k:Bl}{c:α->α}{z:α}(hc:∀x,key x=k->key (c x)=k)(hz:key (c z)=k):
  ∀l:List α,(put key k c z l).map key=if k∈l.map key then l.map key else l.map key++[k]
 |[]=>by simp[put,hz]
 |x::r=>by
  rw[put];by_cases h:key x=k
  .rw[aO h,aO (by simp[h]),ij,ij,hc x h,h]
  .rw[aN h,ij,ij,zo8 hc hz r];by_cases hk:k∈r.map key
   .rw[aO hk,aO (iO _ hk)]
   .rw[aN hk,aN (by rw[bu];rintro(e|e);exact h e.symm;exact hk e),dj]
def zw0{k:Bl}{c:α->α}{z:α}(hc:∀x,key x=k->key (c x)=k)(hz:key (c z)=k){l:List α}(h:(l.map key).Nodup):((put key k c z l).map key).Nodup:=by
 rw[zo8 hc hz];by_cases hk:k∈l.map key
 .rw[aO hk];exact h
 .rw[aN hk,cK];exact⟨h,ae,λa ha b hb=>by rw[b_]at hb;subst hb;intro e;subst e;exact hk ha⟩
def MP{k:Bl}{c:α->α}{z:α}(hc:∀x,key x=k->key (c x)=k)(hz:key (c z)=k):
  ∀l:List α,get key k (put key k c z l)=aY (c ((get key k l).getD z))
 |[]=>by simp[put,get,hz]
 |x::r=>by
  rw[put];by_cases h:key x=k
  .rw[aO h,get,aO (hc x h),get,aO h];rfl
  .rw[aN h,get,aN h,MP hc hz r,get,aN h]
def RM{k:Bl}{c:α->α}{z:α}:∀l:List α,(put key k c z l).length=if k∈l.map key then l.length else l.length+1
 |[]=>by simp[put]
 |x::r=>by
  rw[put];by_cases h:key x=k
  .rw[aO h,aO (by simp[h])];rfl
  .rw[aN h,lc,RM r];by_cases hk:k∈r.map key
   .rw[aO hk,aO (by rw[ij];exact iO _ hk),lc]
   .rw[aN hk,aN (by rw[ij,bu];rintro(e|e);exact h e.symm;exact hk e),lc]
end Go.KL
set_option maxRecDepth 100000
namespace Go.Proofs.YtogbenbghgjbiaaGreatDoor
open Go Go.RowKit Go.lG Go.EV Go.EQ
variable[Fuel]
def Z9:∀(l seen:List aj),jB bh seen l=bh->l.Nodup/\∀s∈l,s ∉ seen
 |[],_,_=>⟨cZ,λ_ h=>by cases h⟩
 |s::l,seen,h=>by
  rw[jB]at h;simp only[bn,cE,Bool.not_eq_true',aW]at h;obtain⟨_,h2,h3⟩:=h;obtain⟨i1,i2⟩:=Z9 l (seen++[s]) h3;refine⟨cA.2 ⟨λhm=>i2 s hm ae,i1⟩,λx hx=>?_⟩
  rcases bu.1 hx with rfl|hx
  .exact h2
  .exact λhm=>i2 x hx (bQ _ hm)
def XS:∀(l seen:List aj),l.all wi=bh->l.Nodup->(∀s∈l,s ∉ seen)->jB bh seen l=bh
 |[],_,_,_,_=>rfl
 |s::r,seen,h,hn,hs=>by
  rw[dA,bn]at h;rw[cA]at hn;rw[jB,h.1,cE,cE,df (hs s ak),cJ,cE]
  refine XS r _ h.2 hn.2 λx hx=>?_
  rw[bJ,b_];rintro(e|rfl)
  .exact hs x (iO _ hx) e
  .exact hn.1 hx
def Yy{α:Type}{l:List α}{g:α->aj}{m:Nat}:wT l g m↔l.length<=m/\(∀x∈l,wi (g x)=bh)/\(l.map g).Nodup:=by
 unfold wT;refine⟨λ⟨a,b⟩=>⟨a,?_,(Z9 _ _ b).1⟩,λ⟨a,b,c⟩=>⟨a,XS _ _ ?_ c λ_ _ h=>by cases h⟩⟩
 .have:=zdd _ _ b;simpa using this
 .simpa using b
inductive Ed where
 |pT (r:za)
 |fin (n:aj) (d:Int)
 |pP (d:Def)
 |row (n:aj) (x:av)
 |mV (z:zF)
 |lim (n:aj) (v:Int)
def Ed.ok:Ed->Prop
 |.pT r=>wi r.aK=bh/\Z7 r
 |.fin n d=>wi n=bh/\1<=d/\d<=1073741824
 |.pP d=>wi d.aK=bh/\sN 12 d.Body=bh
 |.row n x=>wi n=bh/\wi x.aK=bh/\-1099511627776<=x.N/\x.N<=1099511627776
 |.mV z=>wi z.aK=bh/\BC z.ay
 |.lim n v=>wi n=bh/\0<=v/\v<=1099511627776
def zT(n:aj):ar:=⟨n,[],0⟩
def sj(x:av)(t:ar):ar:={ t with Rows:=KL.put av.aK x.aK (λ_=>x) x t.Rows }
def app(p:yp):Ed->Option yp
 |.pT r=>if r.aK∈p.aB.map za.aK∨200<=p.aB.length then bg else aY { p with aB:=p.aB++[r] }
 |.fin n d=>match KL.get za.aK n p.aB with
  |none=>bg
  |some r=>if d<=r.lA then bg else aY { p with aB:=KL.put za.aK n (λr=>{ r with j_:=d }) r p.aB }
 |.pP d=>if d.aK ∉ p.aE.map Def.aK/\60<=p.aE.length then bg else aY { p with aE:=KL.put Def.aK d.aK (λ_=>d) d p.aE }
 |.row n x=>if(n ∉ p.Tables.map ar.aK/\60<=p.Tables.length)∨(x.aK ∉ ((KL.get ar.aK n p.Tables).getD (zT n)).Rows.map av.aK/\60<=((KL.get ar.aK n p.Tables).getD (zT n)).Rows.length)then bg
  else aY { p with Tables:=KL.put ar.aK n (sj x) (zT n) p.Tables }
 |.mV z=>if(z.aK ∉ p.aA.map zF.aK/\60<=p.aA.length)∨(∃y,KL.get zF.aK z.aK p.aA=aY y/\y.nf≠z.nf)then bg
  else aY { p with aA:=KL.put zF.aK z.aK (λ_=>z) z p.aA }
 |.lim n v=>match KL.get a_.aK n p.aI with
  |none=>bg
  |some c=>aY { p with aI:=KL.put a_.aK n (λc=>{ c with pB:=v }) c p.aI }
def u9{α:Type}{g:α->aj}{k:aj}{c:α->α}{z:α}{P:α->Prop}(hz:P (c z)):∀{l:List α},(∀x∈l,P x)->(∀x∈l,g x=k->P (c x))->∀x∈KL.put g k c z l,P x
 |[],_,_,x,hx=>by rw[KL.put,b_]at hx;exact hx▸hz
 |y::r,h,hc,x,hx=>by
  rw[KL.put]at hx;by_cases e:g y=k
  .rw[aO e]at hx
   rcases bu.1 hx with rfl|hx
   .exact hc y ak e
   .exact h x (iO _ hx)
  .rw[aN e]at hx
   rcases bu.1 hx with rfl|hx
   .exact h _ ak
   .exact u9 hz (λx hx=>h x (iO _ hx)) (λx hx=>hc x (iO _ hx)) x hx
def J9{α:Type}{g:α->aj}{m:Nat}{k:aj}{c:α->α}{z:α}(hc:∀x,g x=k->g (c x)=k)(hz:g (c z)=k)(hk:wi k=bh){l:List α}(h:wT l g m)(hm:¬(k ∉ l.map g/\m<=l.length)):wT (KL.put g k c z l) g m:=by
 rw[Yy]at h ⊢;obtain⟨h1,h2,h3⟩:=h;refine⟨?_,u9 (P:=λx=>wi (g x)=bh) (by rw[hz];exact hk) h2 (λx _ e=>by rw[hc x e];exact hk),KL.zw0 hc hz h3⟩;rw[KL.RM];by_cases hi:k∈l.map g
 .rw[aO hi];exact h1
 .rw[aN hi]
  have:¬m<=l.length:=λe=>hm ⟨hi,e⟩
  omega
def Q0{α:Type}{g:α->aj}{k:aj}{x:α}{l:List α}(h:KL.get g k l=aY x):k∈l.map g:=by
 by_cases hk:k∈l.map g
 .exact hk
 .rw[KL.get_none.2 hk]at h;cases h
def zj5{x:av}{t:ar}(hn:wi x.aK=bh)(h1:-1099511627776<=x.N/\x.N<=1099511627776)(h:JA t)(hm:¬(x.aK ∉ t.Rows.map av.aK/\60<=t.Rows.length)):JA (sj x t):=by have hh:wT t.Rows av.aK 60:=h.1;exact⟨J9 (c:=λ_=>x) (z:=x) (λ_ _=>rfl) rfl hn hh hm,h.2.1,u9 (P:=λx:av=>-1099511627776<=x.N/\x.N<=1099511627776) h1 h.2.2 λ_ _ _=>h1⟩
def zw1{p q:yp}{e:Ed}(hp:oE p)(he:e.ok)(h:app p e=aY q):oE q:=by
 obtain⟨⟨d,t,z,r,c,v⟩,⟨bd,bt,bz,br,bc,bv⟩,hr⟩:=hp
 cases e with
 |pT x =>
  simp only[app]at h;by_cases g:x.aK∈p.aB.map za.aK∨200<=p.aB.length
  .rw[aO g]at h;cases h
  .rw[aN g]at h;cases h;rw[not_or]at g;refine⟨⟨d,t,z,?_,c,v⟩,⟨bd,bt,bz,?_,bc,bv⟩,hr⟩
   .rw[Yy]at r ⊢;refine⟨by simp;omega,?_,?_⟩
    .intro y hy
     rcases bJ.1 hy with hy|hy
     .exact r.2.1 y hy
     .rw[b_]at hy;subst hy;exact he.1
    .rw[List.map_append,cK];exact⟨r.2.2,ae,λa ha b hb=>by simp at hb;subst hb;intro e;subst e;exact g.1 ha⟩
   .intro y hy
    rcases bJ.1 hy with hy|hy
    .exact br y hy
    .rw[b_]at hy;subst hy;exact he.2
 |fin n dd =>
  simp only[app]at h
  cases hg:KL.get za.aK n p.aB with
  |none=>rw[hg]at h;cases h
  |some x =>
   rw[hg]at h;dsimp only at h;by_cases g:dd<=x.lA
   .rw[aO g]at h;cases h
   .rw[aN g]at h;cases h;have hx:=KL.KW hg;have hn:(p.aB.map za.aK).Nodup:=(Yy.1 r).2.2
    have hu:∀y∈p.aB,y.aK=n->Z7 { y with j_:=dd }:=λy hy e=>by
     have:y=x:=by have:=KL.get_mem hn hy;rw[e,hg]at this;exact(Option.some.inj this).symm
     subst this;have:=br y hy;refine⟨⟨this.1.1,⟨this.1.2.1,this.1.2.2.1,⟨?_,he.2.2⟩,.inr ?_⟩⟩,this.2⟩
     .show(0:Int)<=dd
      have:=he.2.1;omega
     .show y.lA<dd
      omega
    exact⟨⟨d,t,z,J9 (g:=za.aK) (k:=n) (c:=λr:za=>{ r with j_:=dd }) (λ_ e=>e) hx.1 he.1 r (λe=>e.1 (Q0 hg)),c,v⟩,⟨bd,bt,bz,u9 (P:=Z7) (hu x hx.2 hx.1) br hu,bc,bv⟩,hr⟩
 |pP x =>
  simp only[app]at h;by_cases g:x.aK ∉ p.aE.map Def.aK/\60<=p.aE.length
  .rw[aO g]at h;cases h
  .rw[aN g]at h;cases h;exact⟨⟨J9 (λ_ _=>rfl) rfl he.1 d g,t,z,r,c,v⟩,⟨u9 (P:=λd:Def=>sN 12 d.Body=bh) he.2 bd λ_ _ _=>he.2,bt,bz,br,bc,bv⟩,hr⟩
 |row n x =>
  simp only[app]at h;by_cases g:(n ∉ p.Tables.map ar.aK/\60<=p.Tables.length)∨(x.aK ∉ ((KL.get ar.aK n p.Tables).getD (zT n)).Rows.map av.aK/\60<=((KL.get ar.aK n p.Tables).getD (zT n)).Rows.length)
  .rw[aO g]at h;cases h
  .rw[aN g]at h;cases h;rw[not_or]at g;have hn:(p.Tables.map ar.aK).Nodup:=(Yy.1 t).2.2;refine⟨⟨d,J9 (g:=ar.aK) (k:=n) (c:=sj x) (z:=zT n) (λ_ e=>e) rfl he.1 t g.1,z,r,c,v⟩,⟨bd,u9 (P:=JA) (zj5 he.2.1 he.2.2 ⟨⟨by simp[zT],rfl⟩,by simp[zT],λ_ h=>by cases h⟩ (by simp[zT])) bt λy hy e=>?_,bz,br,bc,bv⟩,hr⟩;have U7:=KL.get_mem hn hy;rw[e]at U7;have:=g.2;rw[U7]at this;exact zj5 he.2.1 he.2.2 (bt y hy) this
 |mV x =>
  simp only[app]at h;by_cases g:(x.aK ∉ p.aA.map zF.aK/\60<=p.aA.length)∨(∃y,KL.get zF.aK x.aK p.aA=aY y/\y.nf≠x.nf)
  .rw[aO g]at h;cases h
  .rw[aN g]at h;cases h;rw[not_or]at g;exact⟨⟨d,t,J9 (λ_ _=>rfl) rfl he.1 z g.1,r,c,v⟩,⟨bd,bt,u9 (P:=λz:zF=>BC z.ay) he.2 bz λ_ _ _=>he.2,br,bc,bv⟩,hr⟩
 |lim n w =>
  simp only[app]at h
  cases hg:KL.get a_.aK n p.aI with
  |none=>rw[hg]at h;cases h
  |some x =>
   rw[hg]at h;cases h;have hx:=KL.KW hg
   have hu:∀y∈p.aI,y.aK=n->FD { y with pB:=w }:=λy hy _=>⟨(bc y hy).1,he.2,(bc y hy).2.2⟩
   exact⟨⟨d,t,z,r,J9 (g:=a_.aK) (k:=n) (c:=λc:a_=>{ c with pB:=w }) (λ_ e=>e) hx.1 he.1 c (λe=>e.1 (Q0 hg)),v⟩,⟨bd,bt,bz,br,u9 (P:=FD) (hu x hx.2 hx.1) bc hu,bv⟩,hr⟩
def uk{α:Type}(g:α->Bool):List α->Option Nat
 |[]=>bg
 |x::r=>bif g x then aY 0 else(uk g r).map (·+1)
def zdf{α:Type}(l:List α)(g:α->Bool)(L:Nat->Int->Option (Int⊕Unit))
  (hL:∀K (i:Nat) x,l[i]?=aY x->L (K+1) (i:Int)=bif g x then aY (.inl (i:Int))else L K ((i+1:Nat):Int)) (hE:∀K,L (K+1) (l.length:Int)=aY (.inr ())):
  ∀(r:List α)(i K:Nat),l.drop i=r->i<=l.length->r.length<K->L K (i:Int)=aY (match uk g r with|some j=>.inl ((i+j:Nat):Int)|none=>.inr ())
 |[],i,K,hr,hi,hK=>by
  obtain⟨K,rfl⟩:∃k,K=k+1:=⟨K-1,ab⟩
  have:=drop_nil hr hi;have e:i=l.length:=ab;rw[e,hE];rfl
 |x::r,i,K,hr,hi,hK=>by
  obtain⟨K,rfl⟩:∃k,K=k+1:=⟨K-1,ab⟩
  obtain⟨h1,h2,h3⟩:=jV hr;simp only[lc]at hK;rw[hL K i x h1,uk]
  cases g x with
  |true=>rfl
  |false =>
   rw[cf,cf,zdf l g L hL hE r (i+1) K h2 ab ab]
   cases uk g r with
   |none=>rfl
   |some j=>simp only[de];congr 3;omega
def we{α:Type}(l:List α)(g:α->Bool)(L:Nat->Int->Option (Int⊕Unit))(hs:l.length<=9223372036854775807)
  (hL:∀K (i:Nat) x,l[i]?=aY x->L (K+1) (i:Int)=bif g x then aY (.inl (i:Int))else L K ((i+1:Nat):Int)) (hE:∀K,L (K+1) (l.length:Int)=aY (.inr ())):
  (L KK 0).bind (y9 aY λ_=>aY (-1))=aY (xC (uk g l)):=by
 rw[show(0:Int)=((0:Nat):Int) from rfl,zdf l g L hL hE l 0 KK rfl (cH _) (Jy ab)]
 cases uk g l with
 |none=>rfl
 |some j=>simp[y9,xC]
def He{α β:Type}{l:List α}{i:Nat}{x:α}(h:l[i]?=aY x)(f:α->Option β):(aM (bD (0<=(i:Int)/\(i:Int)<((ba l:Nat):Int))) λ_=>(l[bj (i:Int)]?).bind f)=f x:=by have:=jc h;rw[zy ab,aC,cx,h,aC]
def PJ{o:Option Nat}:decide (xC o<0)=o.isNone:=by
 cases o with
 |none=>rfl
 |some i=>exact df (by simp only[xC];omega)
def L'{o:Option Nat}:decide (xC o>=0)=o.isSome:=by
 cases o with
 |none=>rfl
 |some i=>exact dt (by simp[xC])
def Iw{α:Type}{g:α->Bool}:∀{l:List α}{i:Nat},uk g l=aY i->∃x,l[i]?=aY x/\g x=bh
 |x::r,i,h=>by
  rw[uk]at h
  cases hx:g x with
  |true=>rw[hx]at h;cases h;exact⟨x,rfl,hx⟩
  |false =>rw[hx,cf]at h;obtain⟨j,h1,rfl⟩:=ca.1 h;obtain⟨y,h2,h3⟩:=Iw h1;exact⟨y,by simpa using h2,h3⟩
def Yz{α:Type}{key:α->aj}{k:aj}:∀{l:List α},(uk (λx=>decide (key x=k)) l).isSome=decide (k∈l.map key)
 |[]=>by simp[uk]
 |x::r=>by
  rw[uk];by_cases h:key x=k
  .rw[dt h,ct];simp[h]
  .rw[df h,cf,iI,Yz];exact jb (by simp[Ne.symm h])
def YA{α:Type}{key:α->aj}{k:aj}:∀{l:List α},(uk (λx=>decide (key x=k)) l).bind (λi=>l[i]?)=KL.get key k l
 |[]=>rfl
 |x::r=>by
  rw[uk,KL.get];by_cases h:key x=k
  .rw[dt h,ct,aO h];rfl
  .rw[df h,cf,aN h,<- YA];cases uk (λx=>decide (key x=k)) r<;>rfl
def sn{α:Type}(g:α->Bool)(c:α->α)(z:α):List α->List α
 |[]=>[c z]
 |x::r=>bif g x then c x::r else x::sn g c z r
def Rh{α:Type}{key:α->aj}{k:aj}{c:α->α}{z:α}:∀{l:List α},sn (λx=>decide (key x=k)) c z l=KL.put key k c z l
 |[]=>rfl
 |x::r=>by
  rw[sn,KL.put,Rh];by_cases h:key x=k
  .rw[dt h,aO h];rfl
  .rw[df h,aN h];rfl
def PO{α:Type}{g:α->Bool}{c:α->α}{z:α}:∀{l:List α}{i:Nat}{x:α},uk g l=aY i->l[i]?=aY x->l.set i (c x)=sn g c z l
 |y::r,i,x,h,hx=>by
  rw[uk]at h;rw[sn]
  cases hy:g y with
  |true=>rw[hy]at h;cases h;cases hx;rfl
  |false =>rw[hy,cf]at h;obtain⟨j,h1,rfl⟩:=ca.1 h;rw[cf,fq,PO h1 (by simpa using hx)]
def PQ{α:Type}{g:α->Bool}{c:α->α}{z:α}:∀{l:List α},uk g l=bg->(l++[z]).set l.length (c z)=sn g c z l
 |[],_=>rfl
 |y::r,h=>by
  rw[uk]at h;rw[sn]
  cases hy:g y with
  |true=>rw[hy]at h;cases h
  |false =>rw[hy,cf,Option.map_eq_none_iff]at h;rw[cf,dj,lc,fq,PQ h]
def MQ{α:Type}{a b:List α}(h:a.length=b.length):pr [(a.length,b.length)]=bh:=by simp[pr,h,Nat.beq_refl]
section
variable{α σ:Type}{l:List α}{g:α->Bool}{z:α}{c:α->α}{most bytes:Nat}{m:Int}{Cl:Option (List α)}{Ix:List α->Option Int}{Ap:List α->Int->Option (List α)}
def V4(hm:m=(most:Int))(hs:(l.length+1)*bytes<=140737488355328)(hC:Cl=aY l)(hI:Ix l=aY (xC (uk g l)))(hA:∀(q:List α)(i:Nat) x,q[i]?=aY x->Ap q (i:Int)=aY (q.set i (c x))):
  (Cl.bind λx1=>aM (Ix x1) λx2=>((bif (decide (x2<0))then(bif (decide (((ba x1:Nat):Int)>=m))then(bD (pr []=bh)).bind λ_=>aY (bO (([]:List α),(6:Int)))else(bD (ba (x1++([z]:List α))*bytes<=140737488355328)).bind λ_=>aY (bN (((ba x1:Nat):Int),(x1++([z]:List α)))))else aY (bN (x2,x1)))).bind (y9 aY λx3=>aM (bD (0<=x3.1/\x3.1<((ba x3.2:Nat):Int))) λ_=>aM (Ap x3.2 ((bj x3.1:Nat):Int)) λx6=>aM (bD (pr [(ba x3.2,ba x6)]=bh)) λ_=>aY (x6,(0:Int)))) =
   aY (bif (uk g l).isNone&&decide (most<=l.length)then([],6)else(sn g c z l,0)):=by
 subst hC;rw[aC,hI,aC,PJ]
 cases hf:uk g l with
 |none =>
  rw[gz,ct,cE];by_cases h:most<=l.length
  .rw[dt (by omega:((ba l:Nat):Int)>=m),dt h];rfl
  .rw[df (by omega:¬((ba l:Nat):Int)>=m),df h,cf,cf,zy (by simpa using hs),aC,aC];simp only[y9,cx];rw[zy (by simp;omega),aC,hA (l++[z]) l.length z ae,aC,zy (MQ ae),aC,PQ hf]
 |some i =>
  obtain⟨x,h1,_⟩:=Iw hf;have:=jc h1;rw[gq,cf,eS,cf,aC]
  show(bD (0<=(i:Int)/\(i:Int)<((ba l:Nat):Int))).bind (λ_=>aM (Ap l ((bj (i:Int):Nat):Int)) λx6=>aM (bD (pr [(ba l,ba x6)]=bh)) λ_=>aY (x6,(0:Int)))=_
  rw[zy ab,aC,cx,hA l i x h1,aC,zy (MQ ae),aC,PO hf h1]
end
def oa:za:=⟨[],[],[],0,0,0,bf,0,uj,⟨0,0,0,0⟩,0,0,0⟩
def U'{l:List za}{n:aj}(h:l.length<=9223372036854775807):xN l n=aY (xC (uk (λx=>decide (x.aK=n)) l)):=
 we l _ (yg n l ((ba l:Nat):Int)) h (λK i x hx=>by rw[yg,jZ hx,ct,yP hx,aC,yQ (by have:=jc hx;omega)];rfl) (λK=>by rw[yg,xy];rfl)
def ix3{l:List za}(h:l.length<=9223372036854775807):vL l=aY (xC (uk (λx=>bf) l)):=
 we l _ (yh l ((ba l:Nat):Int)) h (λK i x hx=>by rw[yh,jZ hx,ct,He hx,yQ (by have:=jc hx;omega)];rfl) (λK=>by rw[yh,xy];rfl)
def ix4{l:List za}{n:aj}(h:l.length<=9223372036854775807):vM l n=aY (xC (uk (λx=>decide (x.aK=n)) l)):=
 we l _ (yi l n ((ba l:Nat):Int)) h (λK i x hx=>by rw[yi,jZ hx,ct,He hx,yQ (by have:=jc hx;omega)];rfl) (λK=>by rw[yi,xy];rfl)
def ix5{l:List Def}{ed:EB}(h:l.length<=9223372036854775807):vN l ed=aY (xC (uk (λx=>decide (x.aK=ed.n)) l)):=
 we l _ (yj ed l ((ba l:Nat):Int)) h (λK i x hx=>by rw[yj,jZ hx,ct,He hx,yQ (by have:=jc hx;omega)];rfl) (λK=>by rw[yj,xy];rfl)
def ix6{l:List ar}{ed:EB}(h:l.length<=9223372036854775807):vO l ed=aY (xC (uk (λx=>decide (x.aK=ed.n)) l)):=
 we l _ (yk ed l ((ba l:Nat):Int)) h (λK i x hx=>by rw[yk,jZ hx,ct,He hx,yQ (by have:=jc hx;omega)];rfl) (λK=>by rw[yk,xy];rfl)
def ix7{l:List av}{ed:EB}(h:l.length<=9223372036854775807):vP l ed=aY (xC (uk (λx=>decide (x.aK=ed.y)) l)):=
 we l _ (yl ed l ((ba l:Nat):Int)) h (λK i x hx=>by rw[yl,jZ hx,ct,He hx,yQ (by have:=jc hx;omega)];rfl) (λK=>by rw[yl,xy];rfl)
def ix8{l:List zF}{ed:EB}(h:l.length<=9223372036854775807):vQ l ed=aY (xC (uk (λx=>decide (x.aK=ed.n)) l)):=
 we l _ (ym ed l ((ba l:Nat):Int)) h (λK i x hx=>by rw[ym,jZ hx,ct,yP hx,aC,yQ (by have:=jc hx;omega)];rfl) (λK=>by rw[ym,xy];rfl)
def ix9{l:List zF}{ed:EB}(h:l.length<=9223372036854775807):vR l ed=aY (xC (uk (λx=>decide (x.aK=ed.n)) l)):=
 we l _ (yn ed l ((ba l:Nat):Int)) h (λK i x hx=>by rw[yn,jZ hx,ct,He hx,yQ (by have:=jc hx;omega)];rfl) (λK=>by rw[yn,xy];rfl)
def af2{l:List a_}{ed:EB}(h:l.length<=9223372036854775807):vk l ed=aY (xC (uk (λx=>decide (x.aK=ed.n)) l)):=
 we l _ (z8 ed l ((ba l:Nat):Int)) h (λK i x hx=>by rw[z8,jZ hx,ct,He hx,yQ (by have:=jc hx;omega)];rfl) (λK=>by rw[z8,xy];rfl)
def af1{l:List a_}{ed:EB}(h:l.length<=9223372036854775807):vj l ed=aY (xC (uk (λx=>decide (x.aK=ed.n)) l)):=
 we l _ (z7 ed l ((ba l:Nat):Int)) h (λK i x hx=>by rw[z7,jZ hx,ct,yP hx,aC,yQ (by have:=jc hx;omega)];rfl) (λK=>by rw[z7,xy];rfl)
def N4{l:List za}(h:l.length<=100000):xt l=aY l:=by unfold xt;rw[cw,zy ab];rfl
def T'{l:List Def}(h:l.length<=100000):wF l=aY l:=by unfold wF;rw[cw,zy ab];rfl
def Ua{l:List ar}(h:l.length<=100000):wG l=aY l:=by unfold wG;rw[cw,zy ab];rfl
def cl5{l:List av}(h:l.length<=100000):jf l=aY l:=by unfold jf;rw[cw,zy ab];rfl
def Ub{l:List zF}(h:l.length<=100000):wH l=aY l:=by unfold wH;rw[cw,zy ab];rfl
def Uc{l:List a_}(h:l.length<=100000):wI l=aY l:=by unfold wI;rw[cw,zy ab];rfl
def cl8{l:List au}(h:l.length<=100000):jg l=aY l:=by unfold jg;rw[cw,zy ab];rfl
def Ud{l:List zj}(h:l.length<=100000):wJ l=aY l:=by unfold wJ;rw[cw,zy ab];rfl
def afo{l:List av}(h:l.length<=100000):vC l=aY l:=by unfold vC;rw[cw,zy ab];rfl
def aah{l:List zK}(h:l.length<=100000):xS l=aY l:=by unfold xS;rw[cw,zy ab];rfl
def aai{l:List aj}(h:l.length<=100000):xT l=aY l:=by unfold xT;rw[cw,zy ab];rfl
def agw{l:List za}{ed:EB}{most:Nat}{m:Int}(hm:m=(most:Int))(h:l.length<=100000):ME l ed m=aY (bif (uk (λx=>bf) l).isNone&&decide (most<=l.length)then([],6)else(sn (λx=>bf) (λx=>⟨ed.r0,ed.r1,ed.r2,ed.r3,ed.r4,ed.r5,ed.r6,ed.r7,⟨ed.r8,ed.r9,ed.LY,ed.LZ,ed.L1⟩,⟨ed.L2,ed.L3,ed.L4,ed.r16⟩,ed.L5,ed.L6,ed.L7⟩) oa l,0)):=by
 unfold ME
 exact V4 (g:=λx:za=>bf) (c:=λx:za=>⟨ed.r0,ed.r1,ed.r2,ed.r3,ed.r4,ed.r5,ed.r6,ed.r7,⟨ed.r8,ed.r9,ed.LY,ed.LZ,ed.L1⟩,⟨ed.L2,ed.L3,ed.L4,ed.r16⟩,ed.L5,ed.L6,ed.L7⟩) (z:=(oa:za)) (bytes:=232) (Ap:=λq i=>uV q i ed) hm ab (N4 h) (ix3 ab) (λq i x hx=>by
  show uV q (i:Int) ed=_
  unfold uV
  rw[cx,hx];rfl)
def agx{l:List za}{n:aj}{ed:EB}{most:Nat}{m:Int}(hm:m=(most:Int))(h:l.length<=100000):Qr l n ed m=aY (bif (uk (λx=>decide (x.aK=n)) l).isNone&&decide (most<=l.length)then([],6)else(sn (λx=>decide (x.aK=n)) (λx=>{ x with j_:=ed.m }) oa l,0)):=by
 unfold Qr
 exact V4 (g:=λx:za=>decide (x.aK=n)) (c:=λx:za=>{ x with j_:=ed.m }) (z:=(oa:za)) (bytes:=232) (Ap:=λq i=>uW q i ed) hm ab (N4 h) (ix4 ab) (λq i x hx=>by
  show uW q (i:Int) ed=_
  unfold uW
  rw[cx,hx,aC,zD])
def agy{l:List Def}{ed:EB}{most:Nat}{m:Int}(hm:m=(most:Int))(h:l.length<=100000):Qs l ed m=aY (bif (uk (λx=>decide (x.aK=ed.n)) l).isNone&&decide (most<=l.length)then([],6)else(sn (λx=>decide (x.aK=ed.n)) (λx=>⟨ed.n,⟨ed.b0,ed.b1,ed.b2,ed.b3,ed.b4⟩⟩) ⟨[],uj⟩ l,0)):=by
 unfold Qs
 exact V4 (g:=λx:Def=>decide (x.aK=ed.n)) (c:=λx:Def=>⟨ed.n,⟨ed.b0,ed.b1,ed.b2,ed.b3,ed.b4⟩⟩) (z:=(⟨[],uj⟩:Def)) (bytes:=88) (Ap:=λq i=>uX q i ed) hm ab (T' h) (ix5 ab) (λq i x hx=>by
  show uX q (i:Int) ed=_
  unfold uX
  rw[cx,hx];rfl)
def agA{l:List av}{ed:EB}{most:Nat}{m:Int}(hm:m=(most:Int))(h:l.length<=100000):H4 l ed m=aY (bif (uk (λx=>decide (x.aK=ed.y)) l).isNone&&decide (most<=l.length)then([],6)else(sn (λx=>decide (x.aK=ed.y)) (λx=>⟨ed.y,ed.m⟩) ⟨[],0⟩ l,0)):=by
 unfold H4
 exact V4 (g:=λx:av=>decide (x.aK=ed.y)) (c:=λx:av=>⟨ed.y,ed.m⟩) (z:=(⟨[],0⟩:av)) (bytes:=24) (Ap:=λq i=>jK q i ed) hm ab (cl5 h) (ix7 ab) (λq i x hx=>by
  show jK q (i:Int) ed=_
  unfold jK
  rw[cx,hx];rfl)
def agB{l:List zF}{ed:EB}{most:Nat}{m:Int}(hm:m=(most:Int))(h:l.length<=100000):Qv l ed m=aY (bif (uk (λx=>decide (x.aK=ed.n)) l).isNone&&decide (most<=l.length)then([],6)else(sn (λx=>decide (x.aK=ed.n)) (λx=>⟨ed.n,decide (ed.m=1),ed.c⟩) ⟨[],bf,[]⟩ l,0)):=by
 unfold Qv
 exact V4 (g:=λx:zF=>decide (x.aK=ed.n)) (c:=λx:zF=>⟨ed.n,decide (ed.m=1),ed.c⟩) (z:=(⟨[],bf,[]⟩:zF)) (bytes:=48) (Ap:=λq i=>kV q i ed) hm ab (Ub h) (ix9 ab) (λq i x hx=>by
  show kV q (i:Int) ed=_
  unfold kV
  rw[cx,hx];rfl)
def agC{l:List a_}{ed:EB}{most:Nat}{m:Int}(hm:m=(most:Int))(h:l.length<=100000):Qw l ed m=aY (bif (uk (λx=>decide (x.aK=ed.n)) l).isNone&&decide (most<=l.length)then([],6)else(sn (λx=>decide (x.aK=ed.n)) (λx=>{ x with pB:=ed.m }) ⟨[],0,0,[]⟩ l,0)):=by
 unfold Qw
 exact V4 (g:=λx:a_=>decide (x.aK=ed.n)) (c:=λx:a_=>{ x with pB:=ed.m }) (z:=(⟨[],0,0,[]⟩:a_)) (bytes:=56) (Ap:=λq i=>kW q i ed) hm ab (Uc h) (af2 ab) (λq i x hx=>by
  show kW q (i:Int) ed=_
  unfold kW
  rw[cx,hx];rfl)
def enc:Ed->zN
 |.pT r=>⟨0,[],[],0,r,uj,[]⟩
 |.fin n d=>⟨1,n,[],d,oa,uj,[]⟩
 |.pP d=>⟨2,d.aK,[],0,oa,d.Body,[]⟩
 |.row n x=>⟨3,n,x.aK,x.N,oa,uj,[]⟩
 |.mV z=>⟨4,z.aK,[],bif z.nf then 1 else 0,oa,uj,z.ay⟩
 |.lim n v=>⟨5,n,[],v,oa,uj,[]⟩
def JC(p:yp):Ed->Int
 |.pT r=>if r.aK∈p.aB.map za.aK then 5 else if 200<=p.aB.length then 6 else 0
 |.fin n d=>match KL.get za.aK n p.aB with
  |none=>4
  |some r=>if d<=r.lA then 20 else 0
 |.pP d=>if d.aK ∉ p.aE.map Def.aK/\60<=p.aE.length then 6 else 0
 |.row n x=>if(n ∉ p.Tables.map ar.aK/\60<=p.Tables.length)∨(x.aK ∉ ((KL.get ar.aK n p.Tables).getD (zT n)).Rows.map av.aK/\60<=((KL.get ar.aK n p.Tables).getD (zT n)).Rows.length)then 6 else 0
 |.mV z=>if(∃y,KL.get zF.aK z.aK p.aA=aY y/\y.nf≠z.nf)then 17 else if z.aK ∉ p.aA.map zF.aK/\60<=p.aA.length then 6 else 0
 |.lim n _=>match KL.get a_.aK n p.aI with
  |none=>4
  |some _=>0
def Ri{p:yp}{e:Ed}:(app p e).isSome=bh↔JC p e=0:=by
 cases e with
 |pT r =>
  simp only[app,JC];by_cases h1:r.aK∈p.aB.map za.aK
  .rw[aO (.inl h1),aO h1];simp
  .by_cases h2:200<=p.aB.length
   .rw[aO (.inr h2),aN h1,aO h2];simp
   .rw[aN (λh=>h.elim h1 h2),aN h1,aN h2];simp
 |fin n d =>
  simp only[app,JC]
  cases KL.get za.aK n p.aB with
  |none=>simp
  |some r =>
   dsimp only;by_cases h:d<=r.lA
   .rw[aO h,aO h];simp
   .rw[aN h,aN h];simp
 |pP d =>
  simp only[app,JC];by_cases h:d.aK ∉ p.aE.map Def.aK/\60<=p.aE.length
  .rw[aO h,aO h];simp
  .rw[aN h,aN h];simp
 |row n x =>
  simp only[app,JC];by_cases h:(n ∉ p.Tables.map ar.aK/\60<=p.Tables.length)∨(x.aK ∉ ((KL.get ar.aK n p.Tables).getD (zT n)).Rows.map av.aK/\60<=((KL.get ar.aK n p.Tables).getD (zT n)).Rows.length)
  .rw[aO h,aO h];simp
  .rw[aN h,aN h];simp
 |mV z =>
  simp only[app,JC];by_cases h1:∃y,KL.get zF.aK z.aK p.aA=aY y/\y.nf≠z.nf
  .rw[aO (.inr h1),aO h1];simp
  .by_cases h2:z.aK ∉ p.aA.map zF.aK/\60<=p.aA.length
   .rw[aO (.inl h2),aN h1,aO h2];simp
   .rw[aN (λh=>h.elim h2 h1),aN h1,aN h2];simp
 |lim n v =>simp only[app,JC];cases KL.get a_.aK n p.aI<;>simp
def fp(c:Int)(q:yp):Int×(List Def)×(List ar)×(List zF)×(List za)×(List a_)×(List au)×(List zj)×Int:=(c,q.aE,q.Tables,q.aA,q.aB,q.aI,q.aF,q.aJ,q.aG)
structure PL(p:yp):Prop where
 d:p.aE.length<=100000
 t:p.Tables.length<=100000
 z:p.aA.length<=100000
 r:p.aB.length<=100000
 c:p.aI.length<=100000
 rows:∀t∈p.Tables,t.Rows.length<=100000
def zo9{α:Type}{key:α->aj}{k:aj}{l:List α}:(uk (λx=>decide (key x=k)) l).isNone=decide (k ∉ l.map key):=by
 have:=Yz (key:=key) (k:=k) (l:=l)
 cases h:uk (λx=>decide (key x=k)) l with
 |none=>rw[h]at this;rw[dt (of_decide_eq_false this.symm)];rfl
 |some i=>rw[h]at this;rw[df (λg=>g (aX this.symm))];rfl
def zdg{α:Type}:∀{l:List α},uk (λ_=>bf) l=bg
 |[]=>rfl
 |x::r=>by rw[uk,cf,zdg];rfl
def zdh{α:Type}{c:α->α}{z:α}:∀{l:List α},sn (λ_=>bf) c z l=l++[c z]
 |[]=>rfl
 |x::r=>by rw[sn,cf,zdh];rfl
def zF5{p q:Prop}[Decidable p][Decidable q]:(decide p&&decide q)=decide (p/\q):=by by_cases hp:p<;>by_cases hq:q<;>simp[hp,hq]
def Iy{α:Type}{key:α->aj}{k:aj}{c:α->α}{z:α}{most:Nat}{l:List α}:(bif (uk (λx=>decide (key x=k)) l).isNone&&decide (most<=l.length)then(([]:List α),(6:Int))else(sn (λx=>decide (key x=k)) c z l,0))=if k ∉ l.map key/\most<=l.length then([],6)else(KL.put key k c z l,0):=by
 rw[zo9,zF5,Rh];by_cases h:k ∉ l.map key/\most<=l.length
 .rw[dt h,aO h];rfl
 .rw[df h,aN h];rfl
def RN{α:Type}[Inhabited α]{β:Type}{key:α->aj}{k:aj}{l:List α}{f:α->β}{b:β}:(bif decide (xC (uk (λx=>decide (key x=k)) l)>=0)then(idx l (xC (uk (λx=>decide (key x=k)) l))).bind λx=>aY (f x)else aY b)=aY (((KL.get key k l).map f).getD b):=by
 rw[L',<- YA]
 cases h:uk (λx=>decide (key x=k)) l with
 |none=>rfl
 |some i =>obtain⟨x,h1,_⟩:=Iw h;rw[fm,ct,aC,h1,xC,yP h1,aC];rfl
def aat{l:List za}{n:aj}(h:l.length<=9223372036854775807):yF l n=aY (decide (n∈l.map za.aK)):=by unfold yF;rw[U' h,aC,L',Yz]
def afw{l:List a_}{ed:EB}(h:l.length<=9223372036854775807):xb l ed=aY (decide (ed.n∈l.map a_.aK)):=by unfold xb;rw[af1 h,aC,L',Yz]
def get_some{α:Type}{key:α->aj}{k:aj}{l:List α}:(KL.get key k l).isSome=decide (k∈l.map key):=by
 cases h:KL.get key k l with
 |none=>rw[df (KL.get_none.1 h)];rfl
 |some x=>rw[dt (Q0 h)];rfl
def Iz{α:Type}{key:α->aj}{k:aj}{c:α->α}{z z':α}:∀{l:List α},k∈l.map key->KL.put key k c z l=KL.put key k c z' l
 |[],h=>by cases h
 |x::r,h=>by
  rw[KL.put,KL.put];by_cases e:key x=k
  .rw[aO e,aO e]
  .rw[aN e,aN e,Iz (by
    rw[ij,bu]at h
    exact h.resolve_left (Ne.symm e))]
def zLs{l:List za}{n:aj}{ed:EB}(h:l.length<=100000):ox l n ed=aY (match KL.get za.aK n l with|none=>([],4)|some r=>(KL.put za.aK n (λx=>{ x with j_:=ed.m }) r l,0)):=by
 unfold ox;rw[aat ab,aC,<- get_some]
 cases hg:KL.get za.aK n l with
 |none=>rfl
 |some r =>
  have hin:=Q0 hg;rw[fm,bU,cf,agx (most:=l.length) rfl h,Iy,aN (λe=>e.1 hin),aC]
  congr 3
  exact Iz hin
def zLt{l:List a_}{ed:EB}(h:l.length<=100000):kL l ed=aY (match KL.get a_.aK ed.n l with|none=>([],4)|some r=>(KL.put a_.aK ed.n (λx=>{ x with pB:=ed.m }) r l,0)):=by
 unfold kL;rw[afw ab,aC,<- get_some]
 cases hg:KL.get a_.aK ed.n l with
 |none=>rfl
 |some r =>
  have hin:=Q0 hg;rw[fm,bU,cf,agC (most:=l.length) rfl h,Iy,aN (λe=>e.1 hin),aC]
  congr 3
  exact Iz hin
def JD{α:Type}{key:α->aj}{k:aj}{c c':α->α}{z z':α}(hz:c z=c' z'):∀{l:List α},(∀x,KL.get key k l=aY x->c x=c' x)->KL.put key k c z l=KL.put key k c' z' l
 |[],_=>by rw[KL.put,KL.put,hz]
 |x::r,h=>by
  rw[KL.put,KL.put];by_cases e:key x=k
  .rw[aO e,aO e,h x (by rw[KL.get,aO e])]
  .rw[aN e,aN e,JD hz λy hy=>h y (by rw[KL.get,aN e];exact hy)]
def Ba(y:aj)(m:Int)(l:List av):List av×Int:=if y ∉ l.map av.aK/\60<=l.length then([],6)else(KL.put av.aK y (λ_=>⟨y,m⟩) ⟨[],0⟩ l,0)
def aiN{l:List av}{ed:EB}(h:l.length<=100000):H4 l ed 60=aY (Ba ed.y ed.m l):=by rw[agA (m:=60) (most:=60) rfl h,Iy];rfl
def T9{q:List ar}{i:Nat}{x:ar}{ed:EB}{t:Int}(hx:q[i]?=aY x)(h:x.Rows.length<=100000):uY q (i:Int) ed t=aY (q.set i ⟨ed.n,(Ba ed.y ed.m x.Rows).1,x.nU⟩,(Ba ed.y ed.m x.Rows).2):=by have hl:=jc hx;unfold uY;rw[cx,hx,aC,gT hl,aC,aiN h,aC,aC,ly]
def agz{l:List ar}{ed:EB}(h:l.length<=100000)(hr:∀t∈l,t.Rows.length<=100000):
  Qu l ed 0 60=aY (if ed.n ∉ l.map ar.aK/\60<=l.length then([],6,0)else(KL.put ar.aK ed.n (λx=>⟨ed.n,(Ba ed.y ed.m x.Rows).1,x.nU⟩) ⟨[],[],0⟩ l,0,(Ba ed.y ed.m ((KL.get ar.aK ed.n l).getD ⟨[],[],0⟩).Rows).2)):=by
 unfold Qu;rw[Ua h,aC,ix6 ab,aC,PJ,<- YA,<- Rh]
 cases hf:uk (λx:ar=>decide (x.aK=ed.n)) l with
 |none =>
  have hk:ed.n ∉ l.map ar.aK:=by have:=zo9 (key:=ar.aK) (k:=ed.n) (l:=l);rw[hf]at this;exact aX this.symm
  rw[gz,ct];by_cases h6:60<=l.length
  .rw[dt (by omega:((ba l:Nat):Int)>=60),aO ⟨hk,h6⟩];rfl
  .rw[df (by omega:¬((ba l:Nat):Int)>=60),aN (λe=>h6 e.2),cf,zy (by simp;omega),aC,aC];simp only[y9,cx];rw[zy (by simp;omega),aC,T9 (q:=l++[(⟨[],[],0⟩:ar)]) (i:=l.length) (x:=(⟨[],[],0⟩:ar)) ae ae,aC,zy (MQ ae),aC];rw[<- PQ hf];rfl
 |some i =>
  obtain⟨x,h1,h2⟩:=Iw hf;have:=jc h1;have hk:ed.n∈l.map ar.aK:=bL.2 ⟨x,bW h1,aX h2⟩;rw[gq,cf,aC,aN (λe=>e.1 hk),aC,h1]
  show(bD (0<=(i:Int)/\(i:Int)<((ba l:Nat):Int))).bind (λ_=>aM (uY l ((bj (i:Int):Nat):Int) ed 0) λx6=>aM (bD (pr [(ba l,ba x6.1)]=bh)) λ_=>aY (x6.1,(0:Int),x6.2))=_
  rw[zy ab,aC,cx,T9 h1 (hr x (bW h1)),aC,zy (MQ ae),aC,<- PO hf h1];rfl
def zF6{p:yp}{d:Ed}(h:PL p):∃q,xm p (enc d)=aY (fp (JC p d) q)/\∀r,app p d=aY r->q=r:=by
 cases d with
 |pT r =>
  show ∃q,xm p (⟨0,[],[],0,r,uj,[]⟩:zN)=_/\_
  unfold xm;dsimp only;simp only[decide_true,ct,ko,aC];rw[aat (by have:=h.r;omega),aC,agw (m:=200) (most:=200) rfl h.r,zdg,gz,cE,zdh];simp only[app,JC];by_cases h1:r.aK∈p.aB.map za.aK
  .rw[dt h1,aO h1];exact⟨p,rfl,λq hq=>by rw[aO (.inl h1)]at hq;cases hq⟩
  .rw[df h1,aN h1];by_cases h2:200<=p.aB.length
   .rw[dt h2,aO h2];exact⟨{ p with aB:=[] },rfl,λq hq=>by rw[aO (.inr h2)]at hq;cases hq⟩
   .rw[df h2,aN h2,aN (λe=>e.elim h1 h2)]
    exact⟨{ p with aB:=p.aB++[r] },by
     obtain⟨a1,a2,a3,a4,a5,a6,a7,a8,⟨b1,b2,b3,b4,b5⟩,T7,T8,a12,ajG⟩:=r
     rfl,λq hq=>Option.some.inj hq⟩
 |fin n d =>
  show ∃q,xm p (⟨1,n,[],d,oa,uj,[]⟩:zN)=_/\_
  unfold xm;dsimp only;simp only[Int.reduceEq,decide_true,decide_false,ct,cf,ko,aC];rw[U' (by have:=h.r;omega),aC,RN (key:=za.aK) (k:=n) (l:=p.aB) (b:=bf) (f:=λx8:za=>decide (d<=x8.lA)),aC,zLs h.r,aC];simp only[app,JC]
  cases hg:KL.get za.aK n p.aB with
  |none=>exact⟨{ p with aB:=[] },rfl,λq hq=>by cases hq⟩
  |some r =>
   dsimp only[de,dB];by_cases h1:d<=r.lA
   .rw[dt h1,aO h1,aO h1];exact⟨p,rfl,λq hq=>by cases hq⟩
   .rw[df h1,aN h1,aN h1];exact⟨_,rfl,λq hq=>Option.some.inj hq⟩
 |pP d =>
  show ∃q,xm p (⟨2,d.aK,[],0,oa,d.Body,[]⟩:zN)=_/\_
  unfold xm;dsimp only;simp only[Int.reduceEq,decide_true,decide_false,ct,cf];rw[agy (m:=60) (most:=60) rfl h.d,Iy,aC];simp only[app,JC];by_cases h1:d.aK ∉ p.aE.map Def.aK/\60<=p.aE.length
  .rw[aO h1,aO h1,aO h1];exact⟨{ p with aE:=[] },rfl,λq hq=>by cases hq⟩
  .rw[aN h1,aN h1,aN h1];refine⟨{ p with aE:=KL.put Def.aK d.aK (λ_=>d) d p.aE },?_,λq hq=>Option.some.inj hq⟩
   have hd:(⟨d.aK,⟨d.Body.Op,d.Body.N,d.Body.S,d.Body.Key,d.Body.aH⟩⟩:Def)=d:=by rw[zD]
   simp only[hd];rw[JD (c':=λ_=>d) (z':=d) rfl λ_ _=>rfl];rfl
 |row n x =>
  show ∃q,xm p (⟨3,n,x.aK,x.N,oa,uj,[]⟩:zN)=_/\_
  unfold xm;dsimp only;simp only[Int.reduceEq,decide_true,decide_false,ct,cf];rw[agz h.t h.rows,aC];simp only[app,JC];by_cases h1:n ∉ p.Tables.map ar.aK/\60<=p.Tables.length
  .rw[aO h1,aO (.inl h1),aO (.inl h1)];exact⟨{ p with Tables:=[] },rfl,λq hq=>by cases hq⟩
  .rw[aN h1]
   have ra:((KL.get ar.aK n p.Tables).getD ⟨[],[],0⟩).Rows=((KL.get ar.aK n p.Tables).getD (zT n)).Rows:=by
    cases KL.get ar.aK n p.Tables<;>rfl
   by_cases h2:x.aK ∉ ((KL.get ar.aK n p.Tables).getD (zT n)).Rows.map av.aK/\60<=((KL.get ar.aK n p.Tables).getD (zT n)).Rows.length
   .rw[aO (.inr h2),aO (.inr h2)];simp only[ra,Ba,aO h2];exact⟨{ p with Tables:=_ },rfl,λq hq=>by cases hq⟩
   .rw[aN (λe=>e.elim h1 h2),aN (λe=>e.elim h1 h2)];refine⟨{ p with Tables:=KL.put ar.aK n (sj x) (zT n) p.Tables },?_,λq hq=>Option.some.inj hq⟩
    have e2:(Ba x.aK x.N ((KL.get ar.aK n p.Tables).getD (zT n)).Rows).2=0:=by unfold Ba;rw[aN h2]
    simp only[ra];rw[e2]
    show aY (max 0 0,p.aE,KL.put ar.aK n (λy:ar=>(⟨n,(Ba x.aK x.N y.Rows).1,y.nU⟩:ar)) ⟨[],[],0⟩ p.Tables,p.aA,p.aB,p.aI,p.aF,p.aJ,p.aG)=aY (0,p.aE,KL.put ar.aK n (sj x) (zT n) p.Tables,p.aA,p.aB,p.aI,p.aF,p.aJ,p.aG)
    rw[JD (c':=sj x) (z':=zT n) ?_ ?_]
    .rfl
    .unfold Ba;rw[aN ae];rfl
    .intro y hg;have hy:=(KL.KW hg).1;rw[hg]at h2;have h2:¬(x.aK ∉ y.Rows.map av.aK/\60<=y.Rows.length):=h2;unfold Ba sj;rw[aN h2];obtain⟨a,b,c⟩:=y;dsimp only at hy;subst hy
     show(⟨a,KL.put av.aK x.aK (λ_=>x) ⟨[],0⟩ b,c⟩:ar)=⟨a,KL.put av.aK x.aK (λ_=>x) x b,c⟩
     rw[JD (c':=λ_=>x) (z':=x) rfl λ_ _=>rfl]
 |mV z =>
  show ∃q,xm p (⟨4,z.aK,[],bif z.nf then 1 else 0,oa,uj,z.ay⟩:zN)=_/\_
  unfold xm;dsimp only
  have ho:decide ((bif z.nf then(1:Int)else 0)=1)=z.nf:=by cases z.nf<;>rfl
  simp only[Int.reduceEq,decide_true,decide_false,ct,cf,ho];rw[ix8 (by have:=h.z;omega),aC,RN (key:=zF.aK) (k:=z.aK) (l:=p.aA) (b:=bf) (f:=λx:zF=>!(x.nf==z.nf)),aC,agB (m:=60) (most:=60) rfl h.z,Iy];simp only[app,JC];by_cases h1:∃y,KL.get zF.aK z.aK p.aA=aY y/\y.nf≠z.nf
  .rw[aO h1,aO (Or.inr h1)];obtain⟨y,hg,hy⟩:=h1
   have:(y.nf==z.nf)=bf:=by simpa using hy
   rw[hg,de,dB,this];exact⟨p,rfl,λq hq=>by cases hq⟩
  .have:((KL.get zF.aK z.aK p.aA).map λx:zF=>!(x.nf==z.nf)).getD bf=bf:=by
    cases hg:KL.get zF.aK z.aK p.aA with
    |none=>rfl
    |some y =>
     have:y.nf=z.nf:=Classical.byContradiction λe=>h1 ⟨y,hg,e⟩
     simp[this]
   rw[this,aN h1,cf];by_cases h2:z.aK ∉ p.aA.map zF.aK/\60<=p.aA.length
   .rw[aO h2,aO h2,aO (Or.inl h2)];exact⟨{ p with aA:=[] },rfl,λq hq=>by cases hq⟩
   .rw[aN h2,aN h2,aN (λe=>e.elim h2 h1)];refine⟨{ p with aA:=KL.put zF.aK z.aK (λ_=>z) z p.aA },?_,λq hq=>Option.some.inj hq⟩;simp only[ho];rw[JD (c':=λ_=>z) (z':=z) rfl λ_ _=>rfl];rfl
 |lim n v =>
  show ∃q,xm p (⟨5,n,[],v,oa,uj,[]⟩:zN)=_/\_
  unfold xm;dsimp only;simp only[Int.reduceEq,decide_true,decide_false,ct,cf];rw[zLt h.c,aC];simp only[app,JC]
  cases hg:KL.get a_.aK n p.aI with
  |none=>exact⟨{ p with aI:=[] },rfl,λq hq=>by cases hq⟩
  |some c=>exact⟨_,rfl,λq hq=>Option.some.inj hq⟩
def zpa{α:Type}(l:List α)(L:Nat->(Int×List α)->Option (List α))(hL:∀K (i:Nat) x,l[i]?=aY x->L (K+1) ((i:Int),l)=L K (((i+1:Nat):Int),l))(hE:∀K,L (K+1) ((l.length:Int),l)=aY l):
  ∀(r:List α)(i K:Nat),l.drop i=r->i<=l.length->r.length<K->L K ((i:Int),l)=aY l
 |[],i,K,hr,hi,hK=>by
  obtain⟨K,rfl⟩:∃k,K=k+1:=⟨K-1,ab⟩
  have:=drop_nil hr hi;have e:i=l.length:=ab;rw[e,hE]
 |x::r,i,K,hr,hi,hK=>by
  obtain⟨K,rfl⟩:∃k,K=k+1:=⟨K-1,ab⟩
  obtain⟨h1,h2,h3⟩:=jV hr;simp only[lc]at hK;rw[hL K i x h1,zpa l L hL hE r (i+1) K h2 ab ab]
def V5{α:Type}(l:List α)(L:Nat->(Int×List α)->Option (List α))(hs:l.length<=100000)(hL:∀K (i:Nat) x,l[i]?=aY x->L (K+1) ((i:Int),l)=L K (((i+1:Nat):Int),l))(hE:∀K,L (K+1) ((l.length:Int),l)=aY l):L KK (0,l)=aY l:=zpa l L hL hE l 0 KK rfl (cH _) (Jy ab)
def Hf{α:Type}:∀{l:List α}{i:Nat}{x:α},l[i]?=aY x->l.set i x=l
 |y::r,0,x,h=>by cases h;rfl
 |y::r,i+1,x,h=>by rw[fq,Hf (by simpa using h)]
def Bq(e:Expr):Int×Int×aj×aj×(List Expr):=(e.Op,e.N,e.S,e.Key,e.aH)
def Xl{R:Expr->Option (Int×Int×aj×aj×(List Expr))}{l:List Expr}{c2 c3 c6:Int}{c4 c5 c7:aj}{c8:List Expr}(hl:l.length<=1000000000)(hR:∀x∈l,R x=aY (Bq x)):
  ∀(r:List Expr)(i K:Nat),l.drop i=r->i<=l.length->r.length<K->wQ R l ((ba l:Nat):Int) c2 c3 c4 c5 c6 c7 c8 K ((i:Int),l.take i)=aY l
 |[],i,K,hr,hi,hK=>by
  obtain⟨K,rfl⟩:∃k,K=k+1:=⟨K-1,ab⟩
  have:=drop_nil hr hi;have e:i=l.length:=ab;rw[wQ];simp only[e,xy,cf,eh]
 |x::r,i,K,hr,hi,hK=>by
  obtain⟨K,rfl⟩:∃k,K=k+1:=⟨K-1,ab⟩
  obtain⟨h1,h2,h3⟩:=jV hr;simp only[lc]at hK;rw[wQ];simp only[jZ h1,ct,yP h1,aC,zD,hR x (bW h1),Bq]
  have e:l.take i++[x]=l.take (i+1):=by rw[List.take_succ,h1];rfl
  rw[e,zy (by rw[bY];omega),aC,yQ ab,Xl hl hR r (i+1) K h2 ab ab]
def af4:∀(n:Nat)(e:Expr)(K:Nat),V1 e<=n->n<=K->n<=1000000000->wA K e=aY (Bq e):=by
 intro n
 induction n with
 |zero=>intro e K h;have:=RJ e;omega
 |succ n ih =>
  intro e K h hK hn
  obtain⟨K,rfl⟩:∃k,K=k+1:=⟨K-1,ab⟩
  obtain⟨o,m,s,k,az⟩:=e;rw[V1]at h;have hz:=Yt az;rw[wA];have:=Xl (R:=wA K) (l:=az) (c2:=o) (c3:=m) (c6:=0) (c4:=s) (c5:=k) (c7:=[]) (c8:=[]) ab (λx hx=>ih x K (by have:=Yu hx;omega) ab ab) az 0 KK rfl (cH _) (Jy ab);rw[fA]at this;rw[show((0:Int),([]:List Expr))=(((0:Nat):Int),[]) from rfl,this];rfl
def XT{e:Expr}(h:AD e):wA KK e=aY (Bq e):=af4 1000000000 e KK h (iK (Jy ab)) ab
structure aab(p:yp):Prop where
 lens:PL p
 v:p.aF.length<=100000
 s:p.aJ.length<=100000
 ds:∀x∈p.aE,AD x.Body
 zs:∀x∈p.aA,x.ay.length<=100000
 rs:∀x∈p.aB,x.aA.length<=100000/\x.Except.length<=100000/\AD x.Test
 cs:∀x∈p.aI,x.ay.length<=100000
 vs:∀x∈p.aF,x.mK.length<=100000
def zLv{c1:(List zj)}{c2:Int}{c3:(List zj)}{c4:Int}{c5:(List ar)}{c6:(List zF)}{c7:(List za)}{c8:(List a_)}{c9:(List au)}{lE:(List Def)}{lJ:(List ar)}{lO:(List zF)}{lW:(List za)}{l7:(List a_)}{l_:(List au)}{l:List Def}(hl:l.length<=100000)(hb:∀x∈l,AD x.Body):uz ((ba l:Nat):Int) c1 c2 c3 c4 c5 c6 c7 c8 c9 lE lJ lO lW l7 l_ KK (0,l)=aY l:=by
 refine V5 l _ hl (λK i x hx=>?_) (λK=>by rw[uz];simp only[xy,cf])
 .rw[uz];have ib:=jc hx;have hg:(0:Int)<=(i:Int)/\(i:Int)<((ba l:Nat):Int):=ab;simp only[jZ hx,ct,zy hg,hx,cx,aC,XT (hb x (bW hx)),Bq,zD];rw[Hf hx,yQ ab]
def zLw{c1:(List zj)}{c2:Int}{c3:(List zj)}{c4:Int}{c5:(List Def)}{c6:(List zF)}{c7:(List za)}{c8:(List a_)}{c9:(List au)}{lE:(List Def)}{lJ:(List ar)}{lO:(List zF)}{lW:(List za)}{l7:(List a_)}{l_:(List au)}{l:List ar}(hl:l.length<=100000)(hb:∀x∈l,x.Rows.length<=100000):uA ((ba l:Nat):Int) c1 c2 c3 c4 c5 c6 c7 c8 c9 lE lJ lO lW l7 l_ KK (0,l)=aY l:=by
 refine V5 l _ hl (λK i x hx=>?_) (λK=>by rw[uA];simp only[xy,cf])
 .rw[uA];have ib:=jc hx;have hg:(0:Int)<=(i:Int)/\(i:Int)<((ba l:Nat):Int):=ab;simp only[jZ hx,ct,zy hg,hx,cx,aC,afo (hb x (bW hx)),Bq,zD];rw[Hf hx,yQ ab]
def zLx{c1:(List zj)}{c2:Int}{c3:(List zj)}{c4:Int}{c5:(List Def)}{c6:(List ar)}{c7:(List za)}{c8:(List a_)}{c9:(List au)}{lE:(List Def)}{lJ:(List ar)}{lO:(List zF)}{lW:(List za)}{l7:(List a_)}{l_:(List au)}{l:List zF}(hl:l.length<=100000)(hb:∀x∈l,x.ay.length<=100000):uB ((ba l:Nat):Int) c1 c2 c3 c4 c5 c6 c7 c8 c9 lE lJ lO lW l7 l_ KK (0,l)=aY l:=by
 refine V5 l _ hl (λK i x hx=>?_) (λK=>by rw[uB];simp only[xy,cf])
 .rw[uB];have ib:=jc hx;have hg:(0:Int)<=(i:Int)/\(i:Int)<((ba l:Nat):Int):=ab;simp only[jZ hx,ct,zy hg,hx,cx,aC,aah (hb x (bW hx)),Bq,zD];rw[Hf hx,yQ ab]
def zLy{c1:(List zj)}{c2:Int}{c3:(List zj)}{c4:Int}{c5:(List Def)}{c6:(List ar)}{c7:(List zF)}{c8:(List a_)}{c9:(List au)}{lE:(List Def)}{lJ:(List ar)}{lO:(List zF)}{lW:(List za)}{l7:(List a_)}{l_:(List au)}{l:List za}(hl:l.length<=100000)(hb:∀x∈l,x.aA.length<=100000/\x.Except.length<=100000/\AD x.Test):uC ((ba l:Nat):Int) c1 c2 c3 c4 c5 c6 c7 c8 c9 lE lJ lO lW l7 l_ KK (0,l)=aY l:=by
 refine V5 l _ hl (λK i x hx=>?_) (λK=>by rw[uC];simp only[xy,cf])
 .rw[uC];have hr:=hb x (bW hx);have ib:=jc hx;have hg:(0:Int)<=(i:Int)/\(i:Int)<((ba l:Nat):Int):=ab;simp only[jZ hx,ct,zy hg,hx,cx,aC,aai hr.1,aai hr.2.1,zD,XT hr.2.2,Bq];simp only[Hf hx,hx,zy hg,aC];rw[yQ ab]
def zLz{c1:(List zj)}{c2:Int}{c3:(List zj)}{c4:Int}{c5:(List Def)}{c6:(List ar)}{c7:(List zF)}{c8:(List za)}{c9:(List au)}{lE:(List Def)}{lJ:(List ar)}{lO:(List zF)}{lW:(List za)}{l7:(List a_)}{l_:(List au)}{l:List a_}(hl:l.length<=100000)(hb:∀x∈l,x.ay.length<=100000):uD ((ba l:Nat):Int) c1 c2 c3 c4 c5 c6 c7 c8 c9 lE lJ lO lW l7 l_ KK (0,l)=aY l:=by
 refine V5 l _ hl (λK i x hx=>?_) (λK=>by rw[uD];simp only[xy,cf])
 .rw[uD];have ib:=jc hx;have hg:(0:Int)<=(i:Int)/\(i:Int)<((ba l:Nat):Int):=ab;simp only[jZ hx,ct,zy hg,hx,cx,aC,aah (hb x (bW hx)),Bq,zD];rw[Hf hx,yQ ab]
def zL0{c1:(List zj)}{c2:Int}{c3:(List zj)}{c4:Int}{c5:(List Def)}{c6:(List ar)}{c7:(List zF)}{c8:(List za)}{c9:(List a_)}{lE:(List Def)}{lJ:(List ar)}{lO:(List zF)}{lW:(List za)}{l7:(List a_)}{l_:(List au)}{l:List au}(hl:l.length<=100000)(hb:∀x∈l,x.mK.length<=100000):uE ((ba l:Nat):Int) c1 c2 c3 c4 c5 c6 c7 c8 c9 lE lJ lO lW l7 l_ KK (0,l)=aY l:=by
 refine V5 l _ hl (λK i x hx=>?_) (λK=>by rw[uE];simp only[xy,cf])
 .rw[uE];have ib:=jc hx;have hg:(0:Int)<=(i:Int)/\(i:Int)<((ba l:Nat):Int):=ab;simp only[jZ hx,ct,zy hg,hx,cx,aC,Ud (hb x (bW hx)),Bq,zD];rw[Hf hx,yQ ab]
def ag3{p:yp}(h:aab p):KG p=aY (p.aJ,p.aG,p.aE,p.Tables,p.aA,p.aB,p.aI,p.aF):=by unfold KG;rw[T' h.lens.d,aC,Ua h.lens.t,aC,Ub h.lens.z,aC,N4 h.lens.r,aC,Uc h.lens.c,aC,cl8 h.v,aC,Ud h.s,aC];rw[zLv h.lens.d h.ds,aC,zLw h.lens.t h.lens.rows,aC,zLx h.lens.z h.zs,aC,zLy h.lens.r h.rs,aC,zLz h.lens.c h.cs,aC,zL0 h.v h.vs,aC]
mutual
def zj7:∀e:Expr,Hq e=bh
 |⟨_,_,s,k,az⟩=>by rw[Hq,XU az];simp
def XU:∀l:List Expr,Z4 l=bh
 |[]=>rfl
 |e::r=>by rw[Z4,zj7 e,XU r];rfl
end
def RO{e:Expr}(h:V1 e<=5000):rY e=bh:=by unfold rY;rw[zj7,dt h];rfl
def zw2{r:za}(h1:r.aA.length<=3000)(h2:r.Except.length<=3000)(h3:V1 r.Test<=5000):sG r=bh:=by unfold sG Iv;rw[RO h3,dt h1,dt h2];simp
def CG(e:zN):Prop:=sG e.za=bh/\rY e.Body=bh/\e.ay.length<=64
def Ma(D:List Def)(Z:List zF)(R:List za)(hD:D.length<=300/\∀x∈D,rY x.Body=bh)(hZ:Z.length<=300/\∀x∈Z,x.ay.length<=64)(hR:R.length<=300/\∀x∈R,sG x=bh):tu ⟨D,[],Z,R,[],[],[],0⟩:=⟨hD.1,ae,hZ.1,hR.1,ae,ae,ae,λx hx=>⟨ab,hD.2 x hx⟩,λx hx=>(by cases hx),λx hx=>⟨ab,hZ.2 x hx⟩,hR.2,λx hx=>(by cases hx),λx hx=>(by cases hx)⟩
def tu.fit{p:yp}(h:tu p):aaa p:=by refine⟨⟨by have:=h.d;omega,λx hx=>AF (h.ds x hx).2⟩,⟨by have:=h.t;omega,λx hx=>by have:=(h.ts x hx).2.1;omega⟩,⟨by have:=h.z;omega,λx hx=>by have:=(h.zs x hx).2;omega⟩,⟨by have:=h.r;omega,λx hx=>?_⟩,⟨by have:=h.c;omega,λx hx=>by have:=(h.cs x hx).2;omega⟩,⟨by have:=h.v;omega,λx hx=>by have:=(h.vs x hx).2;omega⟩,by have:=h.s;omega⟩;obtain⟨_,h2,h3,h4⟩:=Yx (h.rs x hx);exact⟨by have:=h2.1;omega,by have:=h3.1;omega,AF h4⟩
def Q1(r:za):za.mk r.aK r.aA r.Except r.lA r.j_ r.lN r.lU r.aL (Expr.mk r.Test.Op r.Test.N r.Test.S r.Test.Key r.Test.aH) r.zh r.Uses r.lK r.N=r:=by rw[zD]
def zpb(e:zN):zN.mk e.aL e.aK e.Key e.N e.za e.Body e.ay=e:=by cases e;rfl
def M4{a b:zN}(h:CG a):kK a b=aY (pd (a=b)):=by
 obtain⟨k,n,y,m,r,b1,c⟩:=a;obtain⟨k',n',y',m',r',NR,c'⟩:=b;obtain⟨h1,h2,h3⟩:=h;dsimp only at h1 h2 h3;unfold kK;dsimp only;rw[Q1 r,Q1 r',zD b1,zD NR,KU ab,zws (tu.fit (Ma _ _ _ ⟨ae,λx hx=>by rw[b_]at hx;subst hx;exact h2⟩ ⟨ae,λx hx=>by cases hx⟩ ⟨ae,λx hx=>by rw[b_]at hx;subst hx;exact h1⟩))];simp only[aC,og]
 have e:pd ((⟨k,n,y,m,r,b1,c⟩:zN)=⟨k',n',y',m',r',NR,c'⟩)=(pd (k=k')&&(pd (n=n')&&(pd (y=y')&&(pd (m=m')&&(pd (c=c')&&pd ((⟨[⟨[],b1⟩],[],[],[r],[],[],[],0⟩:yp)=⟨[⟨[],NR⟩],[],[],[r'],[],[],[],0⟩)))))):=by
  simp only[<- wY];refine vF ?_;simp only[zN.mk.injEq,yp.mk.injEq,List.cons.injEq,Def.mk.injEq,true_and,and_true];constructor
  .rintro⟨rfl,rfl,rfl,rfl,rfl,rfl,rfl⟩;simp
  .rintro⟨rfl,rfl,rfl,rfl,rfl,rfl,rfl⟩;simp
 rw[e];cases pd (k=k')<;>cases pd (n=n')<;>cases pd (y=y')<;>cases pd (m=m')<;>cases pd (c=c')<;>rfl
def zr1{r:za}:oE ⟨[],[],[],[r],[],[],[],0⟩↔wi r.aK=bh/\Z7 r:=by simp[oE,wT,MO,jB]
def zw3{d:Def}:oE ⟨[d],[],[],[],[],[],[],0⟩↔wi d.aK=bh/\sN 12 d.Body=bh:=by simp[oE,wT,MO,jB]
def zr2{z:zF}:oE ⟨[],[],[z],[],[],[],[],0⟩↔wi z.aK=bh/\BC z.ay:=by simp[oE,wT,MO,jB]
def fe(e:zN):Int×aj×aj×Int×aj×(List aj)×(List aj)×Int×Int×Int×Bool×Int×Int×Int×aj×aj×(List Expr)×Int×Int×Int×Int×Int×Int×Int×Int×Int×aj×aj×(List Expr)×(List zK):=(e.aL,e.aK,e.Key,e.N,e.za.aK,e.za.aA,e.za.Except,e.za.lA,e.za.j_,e.za.lN,e.za.lU,e.za.aL,e.za.Test.Op,e.za.Test.N,e.za.Test.S,e.za.Test.Key,e.za.Test.aH,e.za.zh.nL,e.za.zh.nK,e.za.zh.nG,e.za.zh.Den,e.za.Uses,e.za.lK,e.za.N,e.Body.Op,e.Body.N,e.Body.S,e.Body.Key,e.Body.aH,e.ay)
def zw4{r:za}:J6 ⟨[],[],[],[r],[],[],[],0⟩=aY (fe (enc (.pT r))):=rfl
def zAi{d:Def}:J6 ⟨[d],[],[],[],[],[],[],0⟩=aY (fe (enc (.pP d))):=rfl
def zw5{z:zF}:J6 ⟨[],[],[z],[],[],[],[],0⟩=aY (fe (enc (.mV z))):=by obtain⟨n,o,c⟩:=z;cases o<;>rfl
def NQ:Ed->Prop
 |.pT r=>sG r=bh
 |.pP d=>rY d.Body=bh
 |.mV z=>z.ay.length<=64
 |_=>True
def Sp:rY uj=bh:=RO (by simp[uj,V1,tw])
def Sq:sG oa=bh:=zw2 (by simp[oa]) (by simp[oa]) (by simp[oa,uj,V1,tw])
def RP{d:Ed}(h:NQ d):CG (enc d):=by
 cases d with
 |pT r=>exact⟨h,Sp,by simp[enc]⟩
 |pP r=>exact⟨Sq,h,by simp[enc]⟩
 |mV z=>exact⟨Sq,Sp,h⟩
 |_=>exact⟨Sq,Sp,by simp[enc]⟩
def Ge{P:Prop}{b:Bool}(h:b=bh↔P):aY b=aY (pd P):=aP aY (qB h)
def zF7{e:zN}(h:CG e):jJ e=aY (pd (∃d:Ed,d.ok/\enc d=e)):=by
 obtain⟨k,n,y,m,r,b1,c⟩:=e;have hz:CG ⟨k,n,y,m,r,b1,c⟩:=h;obtain⟨h1,h2,h3⟩:=h;dsimp only at h1 h2 h3;unfold jJ;dsimp only;rw[Q1 r,zD b1];unfold Qq;dsimp only;rw[Q1 r,zD b1];by_cases k0:k=0
 .subst k0;simp only[decide_true,ct,aC];rw[QZ (Ma [] [] [r] ⟨ae,λx hx=>by cases hx⟩ ⟨ae,λx hx=>by cases hx⟩ ⟨ae,λx hx=>by rw[b_]at hx;subst hx;exact h1⟩),aC];rw[zw4,aC]
  show(bif _ then(kK (enc (.pT r)) ⟨0,n,y,m,r,b1,c⟩).bind λx4=>aY x4 else aY bf)=_
  rw[M4 (b:=⟨0,n,y,m,r,b1,c⟩) (RP (d:=.pT r) h1),aC,jW,<- wY];refine aP aY (vF ?_);rw[zr1];constructor
  .rintro⟨g,e⟩;exact⟨.pT r,g,e⟩
  .rintro⟨d,g,e⟩
   cases d with
   |pT r' =>
    have:r'=r:=by injection e
    subst this;exact⟨g,e⟩
   |_=>simp[enc]at e
 by_cases k2:k=2
 .subst k2;simp only[Int.reduceEq,decide_false,cf,decide_true,ct,aC];rw[QZ (Ma [⟨n,b1⟩] [] [] ⟨ae,λx hx=>by rw[b_]at hx;subst hx;exact h2⟩ ⟨ae,λx hx=>by cases hx⟩ ⟨ae,λx hx=>by cases hx⟩),aC];rw[zAi,aC]
  show(bif _ then(kK (enc (.pP ⟨n,b1⟩)) ⟨2,n,y,m,r,b1,c⟩).bind λx4=>aY x4 else aY bf)=_
  rw[M4 (b:=⟨2,n,y,m,r,b1,c⟩) (RP (d:=.pP ⟨n,b1⟩) h2),aC,jW,<- wY];refine aP aY (vF ?_);rw[zw3];constructor
  .rintro⟨g,e⟩;exact⟨.pP ⟨n,b1⟩,g,e⟩
  .rintro⟨d,g,e⟩
   cases d with
   |pP d' =>
    obtain⟨n',b'⟩:=d';simp only[enc,zN.mk.injEq]at e;obtain⟨_,rfl,rfl,rfl,rfl,rfl,rfl⟩:=e;exact⟨g,rfl⟩
   |_=>simp[enc]at e
 by_cases k4:k=4
 .subst k4;simp only[Int.reduceEq,decide_false,cf,decide_true,ct,aC];rw[QZ (Ma [] [⟨n,decide (m=1),c⟩] [] ⟨ae,λx hx=>by cases hx⟩ ⟨ae,λx hx=>by rw[b_]at hx;subst hx;exact h3⟩ ⟨ae,λx hx=>by cases hx⟩),aC];rw[zw5,aC]
  show(bif _ then(kK (enc (.mV ⟨n,decide (m=1),c⟩)) ⟨4,n,y,m,r,b1,c⟩).bind λx4=>aY x4 else aY bf)=_
  rw[M4 (b:=⟨4,n,y,m,r,b1,c⟩) (RP (d:=.mV ⟨n,decide (m=1),c⟩) h3),aC,jW,<- wY];refine aP aY (vF ?_);rw[zr2];constructor
  .rintro⟨g,e⟩;exact⟨.mV ⟨n,decide (m=1),c⟩,g,e⟩
  .rintro⟨d,g,e⟩
   cases d with
   |mV d' =>
    obtain⟨n',o',c'⟩:=d';simp only[enc,zN.mk.injEq]at e;obtain⟨_,rfl,rfl,rfl,rfl,rfl,rfl⟩:=e
    have:decide ((bif o' then(1:Int)else 0)=1)=o':=by cases o'<;>rfl
    rw[this];exact⟨g,rfl⟩
   |_=>simp[enc]at e
 rw[df k0,df k2,df k4];simp only[cf,aC];rw[M4 hz];simp only[aC];rw[yG (cH _)]
 have tk:(⟨k,n,y,m,r,b1,c⟩:zN)=⟨k,n,y,m,oa,uj,[]⟩↔(r=oa/\b1=uj/\c=[]):=by simp only[zN.mk.injEq,true_and]
 show(aM (bif (!(pd ((⟨k,n,y,m,r,b1,c⟩:zN)=⟨k,n,y,m,oa,uj,[]⟩)))then aY bh else(aY (wi n)).bind λx7=>aY (!x7)) _)=_
 by_cases hq:r=oa/\b1=uj/\c=[]
 .rw[vH.2 (tk.2 hq)];obtain⟨rfl,rfl,rfl⟩:=hq;by_cases hn:wi n=bh
  .rw[hn];simp only[bU,cf,aC];rw[yG (cH _)];simp only[aC];by_cases k1:k=1
   .subst k1;simp only[decide_true,ct];rw[jW,jW];refine Ge ?_;simp only[bn,aU];constructor
    .rintro⟨rfl,g1,g2⟩;exact⟨.fin n m,⟨hn,g1,g2⟩,rfl⟩
    .rintro⟨d,g,e⟩
     cases d with
     |fin n' d' =>
      simp only[enc,zN.mk.injEq]at e;obtain⟨_,rfl,rfl,rfl,_⟩:=e;exact⟨rfl,g.2⟩
     |_=>simp[enc]at e
   by_cases k3:k=3
   .subst k3;simp only[Int.reduceEq,decide_false,cf,decide_true,ct];rw[jW,jW];refine Ge ?_;simp only[bn,aU];constructor
    .rintro⟨g0,g1,g2⟩;exact⟨.row n ⟨y,m⟩,⟨hn,g0,g1,g2⟩,rfl⟩
    .rintro⟨d,g,e⟩
     cases d with
     |row n' d' =>
      simp only[enc,zN.mk.injEq]at e;obtain⟨_,rfl,rfl,rfl,_⟩:=e;exact g.2
     |_=>simp[enc]at e
   by_cases k5:k=5
   .subst k5;simp only[Int.reduceEq,decide_false,cf,decide_true,ct];rw[jW,jW];refine Ge ?_;simp only[bn,aU];constructor
    .rintro⟨rfl,g1,g2⟩;exact⟨.lim n m,⟨hn,g1,g2⟩,rfl⟩
    .rintro⟨d,g,e⟩
     cases d with
     |lim n' d' =>
      simp only[enc,zN.mk.injEq]at e;obtain⟨_,rfl,rfl,rfl,_⟩:=e;exact⟨rfl,g.2⟩
     |_=>simp[enc]at e
   rw[df k1,df k3,df k5];simp only[cf];refine Ge ⟨λh=>(by cases h),?_⟩;rintro⟨d,g,e⟩;cases d<;>simp only[enc,zN.mk.injEq]at e<;>omega
  .have CS:wi n=bf:=by simpa using hn
   rw[CS];simp only[bU,cJ,cf,ct,aC];refine Ge ⟨λh=>(by cases h),?_⟩;rintro⟨d,g,e⟩
   cases d with
   |fin n' d' =>
    simp only[enc,zN.mk.injEq]at e;obtain⟨_,rfl,_⟩:=e;exact aQ g.1 hn
   |row n' d' =>
    simp only[enc,zN.mk.injEq]at e;obtain⟨_,rfl,_⟩:=e;exact aQ g.1 hn
   |lim n' d' =>
    simp only[enc,zN.mk.injEq]at e;obtain⟨_,rfl,_⟩:=e;exact aQ g.1 hn
   |_=>simp only[enc,zN.mk.injEq]at e;omega
 .rw[Hd (λe=>hq (tk.1 e))];simp only[cJ,ct,aC];refine Ge ⟨λh=>(by cases h),?_⟩;rintro⟨d,g,e⟩
  cases d with
  |fin n' d' =>
   simp only[enc,zN.mk.injEq]at e;exact aQ ⟨e.2.2.2.2.1.symm,e.2.2.2.2.2.1.symm,e.2.2.2.2.2.2.symm⟩ hq
  |row n' d' =>
   simp only[enc,zN.mk.injEq]at e;exact aQ ⟨e.2.2.2.2.1.symm,e.2.2.2.2.2.1.symm,e.2.2.2.2.2.2.symm⟩ hq
  |lim n' d' =>
   simp only[enc,zN.mk.injEq]at e;exact aQ ⟨e.2.2.2.2.1.symm,e.2.2.2.2.2.1.symm,e.2.2.2.2.2.2.symm⟩ hq
  |_=>simp only[enc,zN.mk.injEq]at e;omega
def zF8{a b:Ed}(h:enc a=enc b):a=b:=by
 cases a<;>cases b<;>simp only[enc,zN.mk.injEq]at h<;>first|(exfalso;omega)|skip
 case pT.pT r s=>rw[h.2.2.2.2.1]
 case fin.fin n d m e=>rw[h.2.1,h.2.2.2.1]
 case pP.pP d e =>obtain⟨n,b⟩:=d;obtain⟨n',b'⟩:=e;obtain⟨_,h1,_,_,_,h2,_⟩:=h;dsimp only at h1 h2;rw[h1,h2]
 case row.row n x m y =>obtain⟨k,v⟩:=x;obtain⟨k',v'⟩:=y;obtain⟨_,h1,h2,h3,_⟩:=h;dsimp only at h1 h2 h3;rw[h1,h2,h3]
 case mV.mV x y =>
  obtain⟨k,o,v⟩:=x;obtain⟨k',o',v'⟩:=y;obtain⟨_,h1,_,h2,_,_,h3⟩:=h;dsimp only at h1 h2 h3
  have:o=o':=by revert h2;cases o<;>cases o'<;>simp
  rw[h1,this,h3]
 case lim.lim n d m e=>rw[h.2.1,h.2.2.2.1]
structure FE(p:yp):Prop where
 right:oE p
 ds:∀x∈p.aE,rY x.Body=bh
 rs:∀x∈p.aB,sG x=bh
def FE.pN{p:yp}(h:FE p):tu p:=by obtain⟨⟨⟨d,t,z,r,c,v⟩,⟨bd,bt,bz,br,bc,bv,bs⟩,hr,hs⟩,e1,e2⟩:=h;exact⟨by have:=d.1;omega,by have:=t.1;omega,by have:=z.1;omega,by have:=r.1;omega,by have:=c.1;omega,by have:=v.1;omega,ab,λx hx=>⟨ab,e1 x hx⟩,λx hx=>⟨ab,by have:=(bt x hx).1.1;omega,λy _=>ab⟩,λx hx=>⟨ab,by have:=(bz x hx).1.2;omega⟩,e2,λx hx=>⟨ab,by have:=(bc x hx).2.2.1.2;omega⟩,λx hx=>⟨ab,by have:=(bv x hx).2.1.2;omega⟩⟩
def tu.lens{p:yp}(h:tu p):PL p:=
 ⟨by have:=h.d;omega,by have:=h.t;omega,by have:=h.z;omega,by have:=h.r;omega,by have:=h.c;omega,λt ht=>by have:=(h.ts t ht).2.1;omega⟩
def tu.own{p:yp}(h:tu p):aab p:=
 ⟨h.lens,by have:=h.v;omega,by have:=h.s;omega,λx hx=>AF (h.ds x hx).2,λx hx=>by have:=(h.zs x hx).2;omega,λx hx=>by
  obtain⟨_,h2,h3,h4⟩:=Yx (h.rs x hx)
  exact⟨by have:=h2.1;omega,by have:=h3.1;omega,AF h4⟩,λx hx=>by have:=(h.cs x hx).2;omega,λx hx=>by have:=(h.vs x hx).2;omega⟩
def zpd{p q:yp}{e:Ed}(h:FE p)(he:e.ok)(hs:NQ e)(ha:app p e=aY q):FE q:=by
 refine⟨zw1 h.right he ha,?_,?_⟩
 .intro x hx
  cases e with
  |pP d =>
   simp only[app]at ha;split at ha
   .cases ha
   .cases ha;exact u9 (c:=λ_=>d) (z:=d) (P:=λd:Def=>rY d.Body=bh) hs h.ds (λ_ _ _=>hs) x hx
  |pT r =>
   simp only[app]at ha;split at ha
   .cases ha
   .cases ha;exact h.ds x hx
  |fin n d =>
   simp only[app]at ha;split at ha
   .cases ha
   .split at ha
    .cases ha
    .cases ha;exact h.ds x hx
  |row n d =>
   simp only[app]at ha;split at ha
   .cases ha
   .cases ha;exact h.ds x hx
  |mV n =>
   simp only[app]at ha;split at ha
   .cases ha
   .cases ha;exact h.ds x hx
  |lim n d =>
   simp only[app]at ha;split at ha
   .cases ha
   .cases ha;exact h.ds x hx
 .intro x hx
  cases e with
  |pT r =>
   simp only[app]at ha;split at ha
   .cases ha
   .cases ha
    rcases bJ.1 hx with hx|hx
    .exact h.rs x hx
    .rw[b_]at hx;subst hx;exact hs
  |pP d =>
   simp only[app]at ha;split at ha
   .cases ha
   .cases ha;exact h.rs x hx
  |fin n d =>
   simp only[app]at ha;split at ha
   .cases ha
   .rename_i r hg;split at ha
    .cases ha
    .cases ha
     have hu:∀y:za,sG y=bh->sG { y with j_:=d }=bh:=λy hy=>hy
     exact u9 (c:=λy:za=>{ y with j_:=d }) (z:=r) (P:=λr:za=>sG r=bh) (hu r (h.rs r (KL.KW hg).2)) h.rs (λy hy _=>hu y (h.rs y hy)) x hx
  |row n d =>
   simp only[app]at ha;split at ha
   .cases ha
   .cases ha;exact h.rs x hx
  |mV n =>
   simp only[app]at ha;split at ha
   .cases ha
   .cases ha;exact h.rs x hx
  |lim n d =>
   simp only[app]at ha;split at ha
   .cases ha
   .cases ha;exact h.rs x hx
def zp:yp:=⟨[],[],[],[],[],[],[],0⟩
def FG(p:yp)(d:Ed):Int×yp:=match app p d with
 |some q=>(0,q)
 |none=>(JC p d,zp)
open Classical in
noncomputable def s6(p:yp)(e:zN):Int×yp:=if h:∃d:Ed,d.ok/\enc d=e then FG p h.choose else(1,zp)
def zw8{p:yp}{d:Ed}(hd:d.ok):s6 p (enc d)=FG p d:=by
 have h:∃d':Ed,d'.ok/\enc d'=enc d:=⟨d,hd,rfl⟩
 unfold s6;rw[dif_pos h,zF8 h.choose_spec.2]
def zw9{p:yp}{e:zN}(h:¬∃d:Ed,d.ok/\enc d=e):s6 p e=(1,zp):=by unfold s6;rw[dif_neg h]
def zxa{d:Ed}(h:CG (enc d)):NQ d:=by
 cases d with
 |pT r=>exact h.1
 |pP d=>exact h.2.1
 |mV z=>exact h.2.2
 |_=>trivial
def zF9{p:yp}{d:Ed}:(FG p d).1=0↔(app p d).isSome=bh:=by
 unfold FG
 cases h:app p d with
 |some q=>simp
 |none =>
  have:=(not_congr (Ri (p:=p) (e:=d))).1 (by rw[h];simp);simp[this]
def ag2{p:yp}{e:zN}(hp:FE p)(he:CG e):A5 p e=aY (fp (s6 p e).1 (s6 p e).2):=by
 unfold A5;simp only[Q1,zD,zpb];rw[QZ hp.pN,Z8 hp.right,zF7 he];simp only[aC,bU,cf];by_cases h:∃d:Ed,d.ok/\enc d=e
 .rw[Z8 h,bU,cf];obtain⟨d,hd,rfl⟩:=h;obtain⟨q,h1,h2⟩:=zF6 (d:=d) hp.pN.lens;rw[h1,zw8 hd,aC];unfold FG
  cases hq:app p d with
  |none =>
   have:=(not_congr (Ri (p:=p) (e:=d))).1 (by rw[hq];simp)
   show(bif (!(decide (JC p d=0)))then _ else _)=_
   rw[df this];rfl
  |some r =>
   have hc:=(Ri (p:=p) (e:=d)).1 (by rw[hq];rfl);cases h2 r hq;have hk:=zpd hp hd (zxa he) hq
   show(bif (!(decide (JC p d=0)))then _ else(KG q).bind _)=_
   rw[hc,ag3 hk.pN.own];rfl
 .rw[Hd h,zw9 h];rfl
def zxb{R:Expr->Int->Int->Option Int}{m:Nat}{lv:Int}{c2 c3:Int}{c4 c5:aj}{l:List Expr}(B4:1<=lv/\lv<=1000)(hm:m<=1000)
  (hR:∀x∈l,∀k:Nat,k<=1000->∃v:Nat,R x (k:Int) (lv-1)=aY (v:Int)/\1<=v/\v<=k+1/\(v<=k->V1 x<=v)):
  ∀(r:List Expr)(i K n:Nat),l.drop i=r->i<=l.length->m+1-n<K->n<=m+1->i<=n->∃v:Nat,wR R (m:Int) lv c2 c3 c4 c5 l K ((n:Int),(i:Int))=aY (v:Int)/\n<=v/\v<=m+1/\(v<=m->n+tw r<=v)
 |[],i,K,n,hr,hi,hK,hn,hin=>by
  obtain⟨K,rfl⟩:∃k,K=k+1:=⟨K-1,ab⟩
  have:=drop_nil hr hi;have e:i=l.length:=ab;refine⟨n,?_,ab,ab,λ_=>by simp[tw]⟩;rw[wR,e];simp only[xy,cf,aC]
 |x::r,i,K,n,hr,hi,hK,hn,hin=>by
  obtain⟨K,rfl⟩:∃k,K=k+1:=⟨K-1,ab⟩
  obtain⟨h1,h2,h3⟩:=jV hr;rw[wR];simp only[jZ h1,ct,aC];by_cases g:n<=m
  .rw[dt (by omega:(n:Int)<=(m:Int)),ct,yP h1,aC];obtain⟨v,e1,e2,e3,e4⟩:=hR x (bW h1) (m-n) ab;rw[uP (n:=(m:Int)-(n:Int)) ab ab,uP (n:=lv-1) ab ab,show(m:Int)-(n:Int)=((m-n:Nat):Int) by omega,e1,aC,uP (n:=(n:Int)+(v:Int)) ab ab,yQ ab,show(n:Int)+(v:Int)=((n+v:Nat):Int) by omega];obtain⟨u,f1,f2,f3,f4⟩:=zxb B4 hm hR r (i+1) K (n+v) h2 ab ab ab ab;refine⟨u,f1,ab,f3,λhu=>?_⟩;have:=f4 hu;have:=e4 ab;rw[tw];omega
  .rw[df (by omega:¬(n:Int)<=(m:Int)),cf];exact⟨n,rfl,ab,hn,λh=>aQ h g⟩
def zAj:∀(lv K:Nat)(e:Expr)(m:Nat),lv<K->lv<=1000->m<=1000->∃v:Nat,yw K e (m:Int) (lv:Int)=aY (v:Int)/\1<=v/\v<=m+1/\(v<=m->V1 e<=v):=by
 intro lv
 induction lv with
 |zero =>
  intro K e m hK _ hm
  obtain⟨K,rfl⟩:∃k,K=k+1:=⟨K-1,ab⟩
  refine⟨m+1,?_,ab,ab,ab⟩;rw[yw]
  show(bif bh then aY (aD ((m:Int)+1))else _)=_
  rw[ct,yQ ab]
 |succ lv ih =>
  intro K e m hK B4 hm
  obtain⟨K,rfl⟩:∃k,K=k+1:=⟨K-1,ab⟩
  rw[yw,df (by omega:¬((lv+1:Nat):Int)<1),cf]
  obtain⟨v,h1,h2,h3,h4⟩:=zxb (R:=yw K) (m:=m) (lv:=((lv+1:Nat):Int)) (c2:=e.Op) (c3:=e.N) (c4:=e.S) (c5:=e.Key) (l:=e.aH) ⟨ab,ab⟩ hm (λx _ k hk=>by
   rw[show((lv+1:Nat):Int)-1=(lv:Int) by omega]
   exact ih K x k ab ab hk) e.aH 0 KK 1 rfl (cH _) (Jy ab) ab ab
  refine⟨v,?_,h2,h3,λhv=>?_⟩
  .rw[show(1:Int)=((1:Nat):Int) from rfl,show(0:Int)=((0:Nat):Int) from rfl,h1];rfl
  .have:=h4 hv;obtain⟨_,_,_,_,az⟩:=e;rw[V1];dsimp only at this;omega
def tY(e:Expr):Prop:=∃v:Nat,yw KK e 20 14=aY (v:Int)/\v<=20
def Ka(e:Expr):∃v:Nat,yw KK e 20 14=aY (v:Int)/\(v<=20->V1 e<=20):=by obtain⟨v,h1,_,_,h4⟩:=zAj 14 KK e 20 (Jy ab) ab ab;exact⟨v,h1,λh=>by have:=h4 h;omega⟩
def XO{e:Expr}{v:Nat}(h:yw KK e 20 14=aY (v:Int)):decide ((v:Int)<=20)=pd (tY e):=by
 refine qB ?_;rw[aU];constructor
 .intro g;exact⟨v,h,ab⟩
 .rintro⟨u,hu,hu2⟩;rw[h]at hu;have:(v:Int)=u:=Option.some.inj hu;omega
def XP{e:Expr}{v:Nat}(h:yw KK e 20 14=aY (v:Int)):decide ((v:Int)>20)=!(pd (tY e)):=by rw[<- XO h,<- decide_not];exact jb ab
def tY.pN{e:Expr}(h:tY e):rY e=bh:=by obtain⟨v,h1,h2⟩:=Ka e;obtain⟨u,h3,h4⟩:=h;rw[h1]at h3;have:(v:Int)=u:=Option.some.inj h3;have:=h2 ab;exact RO ab
def Bn(r:za):Prop:=tY r.Test/\r.aA.length<=6/\r.Except.length<=6
def Bn.pN{r:za}(h:Bn r):sG r=bh:=by have:=Yw h.1.pN;exact zw2 (by have:=h.2.1;omega) (by have:=h.2.2;omega) this.1
def zpe{r:za}:uF r=aY (pd (Bn r)):=by unfold uF;rw[zD];obtain⟨v,h1,_⟩:=Ka r.Test;rw[h1,aC,XO h1,jW,jW];refine aP aY ?_;unfold Bn;rw[wY,wY,IT r.aA.length 6 (a:=6) rfl,IT r.Except.length 6 (a:=6) rfl,og,og]
structure Dw(p:yp):Prop where
 l:p.aE.length<=5/\p.Tables.length<=5/\p.aA.length<=5/\p.aB.length<=5/\p.aI.length<=5/\p.aF.length<=5/\p.aJ.length<=5
 d:∀x∈p.aE,tY x.Body
 t:∀x∈p.Tables,x.Rows.length<=6
 z:∀x∈p.aA,x.ay.length<=12
 r:∀x∈p.aB,Bn x
 c:∀x∈p.aI,x.ay.length<=12
 v:∀x∈p.aF,x.mK.length<=6
def Dw.pN{p:yp}(h:Dw p):tu p:=by obtain⟨⟨a1,a2,a3,a4,a5,a6,a7⟩,hd,ht,hz,hr,hc,hv⟩:=h;exact⟨ab,ab,ab,ab,ab,ab,ab,λx hx=>⟨ab,(hd x hx).pN⟩,λx hx=>⟨ab,by have:=ht x hx;omega,λ_ _=>ab⟩,λx hx=>⟨ab,by have:=hz x hx;omega⟩,λx hx=>(hr x hx).pN,λx hx=>⟨ab,by have:=hc x hx;omega⟩,λx hx=>⟨ab,by have:=hv x hx;omega⟩⟩
def Dw.keep{p:yp}(h:Dw p)(hr:oE p):FE p:=⟨hr,λx hx=>(h.d x hx).pN,λx hx=>(h.r x hx).pN⟩
def Kb{a:Nat}{m:Int}(n:Nat){f:Option Bool}{r:Prop}(hm:m=(n:Int))(hr:a<=n->f=aY (!(pd r))):(bif decide ((a:Int)>m)then aY bh else f)=aY (!(pd (a<=n/\r))):=by rw[zFh n hm hr,wY,og]
def zAk{p:yp}:J7 p=aY (pd (Dw p)):=by
 unfold J7;rw[Kb (m:=5) 5 rfl λh1=>Kb (m:=5) 5 rfl λh2=>Kb (m:=5) 5 rfl λh3=>Kb (m:=5) 5 rfl λh4=>Kb (m:=5) 5 rfl λh5=>Kb (m:=5) 5 rfl λh6=>(by rw[V2 (m:=5) 5 rfl,og]:aY (decide (((ba p.aJ:Nat):Int)>5))=aY (!(pd (p.aJ.length<=5)))),aC];by_cases hl:p.aE.length<=5/\p.Tables.length<=5/\p.aA.length<=5/\p.aB.length<=5/\p.aI.length<=5/\p.aF.length<=5/\p.aJ.length<=5
 .rw[Z8 hl,bU,cf];obtain⟨a1,a2,a3,a4,a5,a6,a7⟩:=hl;have hp:pd (Dw p)=pd ((∀x∈p.aE,tY x.Body)/\(∀x∈p.Tables,x.Rows.length<=6)/\(∀x∈p.aA,x.ay.length<=12)/\(∀x∈p.aB,Bn x)/\(∀x∈p.aI,x.ay.length<=12)/\(∀x∈p.aF,x.mK.length<=6)):=vF ⟨λh=>⟨h.d,h.t,h.z,h.r,h.c,h.v⟩,λ⟨b1,b2,b3,b4,b5,b6⟩=>⟨⟨a1,a2,a3,a4,a5,a6,a7⟩,b1,b2,b3,b4,b5,b6⟩⟩;rw[hp]
  refine u6 (kz p.aE (λx=>tY x.Body) (jM p.aE p.Tables p.aA p.aB p.aI p.aF p.aJ p.aG) (λq=>aM (idx p.aE q) λx1=>aM (yw KK x1.Body 20 14) λx2=>aY (decide (x2>20))) ab (λK q=>?_) λi x h=>?_) λ_=>?_
  .rw[jM];simp only[cV,aC]
  .obtain⟨v,h1,_⟩:=Ka x.Body;simp only[yP h,aC,h1,XP h1]
  refine u6 (kz p.Tables (λx=>x.Rows.length<=6) (jN p.aE p.Tables p.aA p.aB p.aI p.aF p.aJ p.aG) (λq=>aM (idx p.Tables q) λx1=>aY (decide (((ba x1.Rows:Nat):Int)>6))) ab (λK q=>?_) λi x h=>?_) λ_=>?_
  .rw[jN];simp only[cV,aC]
  .rw[yP h,aC,V2 (m:=6) 6 rfl,og]
  refine u6 (kz p.aA (λx=>x.ay.length<=12) (jO p.aE p.Tables p.aA p.aB p.aI p.aF p.aJ p.aG) (λq=>aM (idx p.aA q) λx1=>aY (decide (((ba x1.ay:Nat):Int)>12))) ab (λK q=>?_) λi x h=>?_) λ_=>?_
  .rw[jO];simp only[cV,aC]
  .rw[yP h,aC,V2 (m:=12) 12 rfl,og]
  refine u6 (kz p.aB (λx=>Bn x) (jP p.aE p.Tables p.aA p.aB p.aI p.aF p.aJ p.aG) (λq=>aM (idx p.aB q) λx1=>aM (uF x1) λx2=>aY (!x2)) ab (λK q=>?_) λi x h=>?_) λ_=>?_
  .rw[jP];simp only[cV,aC]
  .rw[yP h,aC,zpe];rfl
  refine u6 (kz p.aI (λx=>x.ay.length<=12) (jQ p.aE p.Tables p.aA p.aB p.aI p.aF p.aJ p.aG) (λq=>aM (idx p.aI q) λx1=>aY (decide (((ba x1.ay:Nat):Int)>12))) ab (λK q=>?_) λi x h=>?_) λ_=>?_
  .rw[jQ];simp only[cV,aC]
  .rw[yP h,aC,V2 (m:=12) 12 rfl,og]
  have:=u6 (r:=True) (f:=λ_=>aY bh) (kz p.aF (λx=>x.mK.length<=6) (jR p.aE p.Tables p.aA p.aB p.aI p.aF p.aJ p.aG) (λq=>aM (idx p.aF q) λx1=>aY (decide (((ba x1.mK:Nat):Int)>6))) ab (λK q=>by
   rw[jR];simp only[cV,aC]) λi x h=>by rw[yP h,aC,V2 (m:=6) 6 rfl,og]) λ_=>by rw[Z8 trivial]
  rw[this];exact aP aY (vF ae)
 .rw[Hd hl,Hd λh=>hl h.l];rfl
def CE(e:zN):Prop:=Bn e.za/\tY e.Body/\e.ay.length<=12
def CE.sz{e:zN}(h:CE e):CG e:=⟨h.1.pN,h.2.1.pN,by have:=h.2.2;omega⟩
def zGa{l:List zN}:∃b,QD l=aY b/\(b=bh->l.length<=6/\∀e∈l,CE e):=by
 unfold QD;have key:=Rc (l.take 7) (λx=>pd (CE x)) (aY (bN ())) (aY (bO bf)) (jz l) (λK i x hx=>?_) (λK=>?_) (l.take 7) 0 KK rfl (cH _) (Jy (by rw[bY];omega))
 .rw[show((0:Nat):Int)=0 from rfl]at key;rw[key]
  cases hA:(l.take 7).all (λx=>pd (CE x))with
  |false=>exact⟨bf,rfl,λh=>by cases h⟩
  |true =>
   refine⟨decide (((ba l:Nat):Int)<=6),rfl,λh=>?_⟩;rw[aU]at h;refine⟨ab,?_⟩;rw[List.take_of_length_le ab,bl]at hA
   exact λe he=>vH.1 (hA e he)
 .have hi:=jc hx;rw[bY]at hi
  have B_:l[i]?=aY x:=by rwa [List.getElem?_take,aO ab]at hx
  have hi7:i<7:=ab;have h7:decide ((i:Int)<7)=bh:=dt ab;rw[jz];simp only[jZ B_,ct,aC,h7,yP B_,zpe];obtain⟨v,h1,_⟩:=Ka x.Body;rw[h1];simp only[aC,XP h1]
  have hb:((bif (!(pd (Bn x.za)))then aY bh else(bif (!(pd (tY x.Body)))then aY bh else aY (decide (((ba x.ay:Nat):Int)>12)))):Option Bool)=aY (!(pd (CE x))):=by rw[V2 (m:=12) 12 rfl];unfold CE;rw[wY,wY,<- og (p:=x.ay.length<=12)];cases pd (Bn x.za)<;>cases pd (tY x.Body)<;>rfl
  rw[hb,aC,yQ ab];cases pd (CE x)<;>rfl
 .rw[jz,bY];by_cases g:7<=l.length
  .rw[Nat.min_eq_left g]
   show aM (bif decide (((7:Nat):Int)<((ba l:Nat):Int))then aY bf else aY bf) _=_
   cases decide (((7:Nat):Int)<((ba l:Nat):Int))<;>rfl
  .rw[Nat.min_eq_right ab,xy];rfl
end Go.Proofs.YtogbenbghgjbiaaGreatDoor
set_option maxRecDepth 100000
namespace Go.Proofs.YtogbenbghgjbiaaGreatDoor.O
open Go Go.RowKit Go.lG Go.EV
variable[Fuel]
def Sw:18446744073709551616<=KK:=Fuel.pN
def zy{p:Prop}[Decidable p](h:p):bD p=aY ():=by unfold bD;rw[aO h]
def wM{α:Type}[Inhabited α]{l:List α}{i:Nat}(h:i<l.length):idx l (i:Int)=aY (l.getD i default):=by unfold idx;rw[aO ⟨ab,ab⟩];simp
def drop_cons{α:Type}[Inhabited α]{l:List α}{i:Nat}(hi:i<l.length):l.drop i=l.getD i default::l.drop (i+1):=by rw[List.drop_eq_getElem_cons hi,bB,bA hi];rfl
def zpf:∀(xs:List aj)(m:List (aj×Bool)),yL xs m=aY (xs.foldl (λm x=>vW x bh m) m)
 |[],m=>rfl
 |x::xs,m=>by rw[yL,zpf xs];rfl
def zj8{β:Type}(a:aj)(b:β):∀l:List (aj×β),(vW a b l).map (·.1)=if a∈l.map (·.1)then l.map (·.1)else l.map (·.1)++[a]
 |[]=>by simp[vW]
 |(k,c)::r=>by
  rw[vW];by_cases h:a=k
  .subst h;simp
  .rw[aN h,ij,zj8 a b r];by_cases h2:a∈r.map (·.1)
   .rw[aO h2,aO (by simp only[ij,bu];exact .inr h2)];rfl
   .rw[aN h2,aN (by simp only[ij,bu,not_or];exact⟨h,h2⟩)];rfl
def AV:∀(xs:List aj)(m:List (aj×Bool)),(m.map (·.1)).Nodup->((xs.foldl (λm x=>vW x bh m) m).map (·.1)).Nodup/\(∀k,k∈(xs.foldl (λm x=>vW x bh m) m).map (·.1)↔k∈m.map (·.1)∨k∈xs)/\(xs.foldl (λm x=>vW x bh m) m).length<=m.length+xs.length
 |[],m,h=>⟨h,λk=>ae,ae⟩
 |x::xs,m,h=>by
  have hk:=zj8 x bh m
  have hn:((vW x bh m).map (·.1)).Nodup:=by
   rw[hk];split
   .exact h
   .rename_i hx;exact cK.2 ⟨h,ae,λa ha b hb=>by simp at hb;subst hb;intro e;subst e;exact hx ha⟩
  obtain⟨h1,h2,h3⟩:=AV xs (vW x bh m) hn;refine⟨h1,λk=>?_,?_⟩
  .rw[eu,h2,hk];split
   .rename_i hx;constructor
    .rintro(h|h)
     .exact .inl h
     .exact .inr (iO _ h)
    .rintro(h|h)
     .exact .inl h
     .rcases bu.1 h with rfl|h
      .exact .inl hx
      .exact .inr h
   .rw[bJ,b_,bu];constructor
    .rintro((h|h)|h)
     .exact .inl h
     .exact .inr (.inl h)
     .exact .inr (.inr h)
    .rintro(h|h|h)
     .exact .inl (.inl h)
     .exact .inl (.inr h)
     .exact .inr h
  .have hl:(vW x bh m).length<=m.length+1:=by have:=aP ba hk;rw[bM]at this;rw[this];split<;>simp
   rw[eu,lc];omega
def Kw(e:Expr):List aj:=kI ((zJ e).foldl (λm x=>vW x bh m) ([]:List (aj×Bool)))
def zGb{e:Expr}(hl:(zJ e).length<=8796093022208)(hk:∀k∈zJ e,k.length<=9223372036854775807):wP e=aY (Kw e):=by
 obtain⟨h1,h2,h3⟩:=AV (zJ e) [] ae;unfold wP kJ AW
 have he:Expr.mk e.Op e.N e.S e.Key e.aH=e:=by cases e;rfl
 simp only[aC,he,zpf];rw[zy ⟨h1,λk mu=>((h2 k).1 mu).elim (λh=>by simp at h) (hk k),by simp only[dw]at h3;omega⟩];rfl
def zdi{e:Expr}{k:aj}:k∈Kw e↔k∈zJ e:=by obtain⟨_,h2,_⟩:=AV (zJ e) [] ae;unfold Kw kI;rw[(List.mergeSort_perm _ _).mem_iff,h2];simp
def zr4(e:Expr):(Kw e).length<=(zJ e).length:=by obtain⟨_,_,h3⟩:=AV (zJ e) [] ae;unfold Kw kI;rw[List.length_mergeSort,bM];simpa using h3
def pq(op:Int):Int×Bool:=if op=0∨op=1∨op=2∨op=3 then(0,bh)else if op=9∨op=15 then(1,bh)else if op=16 then(3,bh)else(2,decide (0<=op)&&decide (op<17))
def zdj{α S T:Type}[Inhabited α]{L:Nat->S×Int->Option T}{l:List α}(step:α->S->Option S)(fin:S->T)(hl:l.length<2 ^ 62)
  (heq:∀K i s,L (K+1) (s,i)=(bif decide (i<(l.length:Int))then(idx l i).bind λx=>aM (step x s) λs'=>L K (s',aD (i+1))else aY (fin s))):
  ∀(n i K:Nat)(s:S),i+n=l.length->n<K->L K (s,(i:Int))=((l.drop i).foldlM (λs x=>step x s) s).map fin
 |0,i,K,s,h,hK=>by
  obtain⟨K,rfl⟩:∃K',K=K'+1:=⟨K-1,ab⟩
  rw[heq,df ab,cf,List.drop_of_length_le ab];rfl
 |n+1,i,K,s,h,hK=>by
  obtain⟨K,rfl⟩:∃K',K=K'+1:=⟨K-1,ab⟩
  have hi:i<l.length:=ab;rw[heq,dt ab,ct,wM hi,aC,uP ab ab,show((i:Int)+1)=((i+1:Nat):Int) by omega,drop_cons hi,iU]
  cases hs:step (l.getD i default) s with
  |none=>rfl
  |some s' =>rw[aC,zdj step fin hl heq n (i+1) K s' ab ab];rfl
def foldlM_pure{α S:Type}(g:S->α->S){f:S->α->Option S}:∀(l:List α)(s:S),(∀x∈l,∀s,f s x=aY (g s x))->l.foldlM f s=aY (l.foldl g s)
 |[],s,_=>rfl
 |x::l,s,h=>by
  rw[iU,h x ak]
  exact foldlM_pure g l _ λy hy=>h y (iO _ hy)
def p8:Nat->Expr->Int
 |0,_=>13
 |n+1,e=>if(pq e.Op).2=bf∨(pq e.Op).1≠e.aH.length then 13 else(e.aH.foldl (λm x=>max m (p8 n x)) 0)+1
def foldl_max{α:Type}(g:α->Int)(b:Int):∀(l:List α)(m:Int),(∀x∈l,g x<=b)->m<=b->l.foldl (λm x=>max m (g x)) m<=b/\m<=l.foldl (λm x=>max m (g x)) m/\∀x∈l,g x<=l.foldl (λm x=>max m (g x)) m
 |[],m,_,hm=>⟨hm,iV _,λ_ h=>by cases h⟩
 |x::l,m,h,hm=>by
  obtain⟨h1,h2,h3⟩:=foldl_max g b l (max m (g x)) (λy hy=>h y (iO _ hy)) (by have:=h x ak;omega);refine⟨h1,?_,λy hy=>?_⟩
  .rw[eu];omega
  .rw[eu]
   rcases bu.1 hy with rfl|hy
   .omega
   .exact h3 y hy
def RQ:∀n e,p8 n e<=13+n
 |0,_=>by simp[p8]
 |n+1,e=>by
  rw[p8];split
  .omega
  .have:=(foldl_max (p8 n) (13+n) e.aH 0 (λx _=>RQ n x) ab).1;omega
def Xm(op:Int):0<=(pq op).1/\(pq op).1<=3:=by
 unfold pq
 repeat' split
 all_goals simp
def oc(e:Expr):Prop:=p8 12 e<=12
instance(e:Expr):Decidable (oc e):=inferInstanceAs (Decidable (p8 12 e<=12))
def zAl{n:Nat}{e:Expr}(hn:n<=11)(h:p8 (n+1) e<=n+1):(pq e.Op).2=bh/\(pq e.Op).1=e.aH.length/\∀x∈e.aH,p8 n x<=n:=by
 rw[p8]at h;split at h
 .omega
 .rename_i hh;have hb:=(foldl_max (p8 n) (13+n) e.aH 0 (λx _=>RQ n x) ab).2.2;refine⟨?_,?_,λx hx=>by have:=hb x hx;omega⟩
  .cases h2:(pq e.Op).2 with
   |true=>rfl
   |false=>exact aQ (.inl h2) hh
  .by_cases h1:(pq e.Op).1=e.aH.length
   .exact h1
   .exact aQ (.inr h1) hh
def zpg{S T:Type}{L:Nat->S->Option T}(I:Nat->S->Prop)(post:T->Prop)(N:Nat)
  (step:∀K i s,I i s->i<N->(∃t,L (K+1) s=aY t/\post t)∨∃s',I (i+1) s'/\L (K+1) s=L K s')
  (fin:∀K s,I N s->∃t,L (K+1) s=aY t/\post t):∀(n i K:Nat)(s:S),I i s->i+n=N->n<K->∃t,L K s=aY t/\post t
 |0,i,K,s,h,hn,hK=>by
  obtain⟨K,rfl⟩:∃K',K=K'+1:=⟨K-1,ab⟩
  obtain rfl:i=N:=ab;exact fin K s h
 |n+1,i,K,s,h,hn,hK=>by
  obtain⟨K,rfl⟩:∃K',K=K'+1:=⟨K-1,ab⟩
  rcases step K i s h ab with h|⟨s',h1,h2⟩
  .exact h
  .rw[h2];exact zpg I post N step fin n (i+1) K s' h1 ab ab
def jq{S T:Type}{L:Nat->S->Option T}(I:Nat->S->Prop)(post:T->Prop)(N:Nat)(hN:N<18446744073709551616){s:S}(h0:I 0 s)
  (step:∀K i s,I i s->i<N->(∃t,L (K+1) s=aY t/\post t)∨∃s',I (i+1) s'/\L (K+1) s=L K s')
  (fin:∀K s,I N s->∃t,L (K+1) s=aY t/\post t):∃t,L KK s=aY t/\post t:=
 zpg I post N step fin N 0 KK s h0 ab (by have:=Sw;omega)
def zAm{S T:Type}{L:Nat->S->Option T}(st:Nat->S)(N:Nat)(t:T)(hN:N<18446744073709551616)
  (step:∀K i,i<N->L (K+1) (st i)=L K (st (i+1))) (fin:∀K,L (K+1) (st N)=aY t):L KK (st 0)=aY t:=by obtain⟨t',h1,h2⟩:=jq (L:=L) (λi s=>s=st i) (λt'=>t'=t) N hN (s:=st 0) rfl (λK i s h hi=>.inr ⟨st (i+1),rfl,by rw[h];exact step K i hi⟩) (λK s h=>⟨t,by rw[h];exact fin K,rfl⟩);rw[h1,h2]
def Hg{α:Type}[Inhabited α]{l:List α}{i:Nat}(h:i<l.length):l.getD i default=l[i]:=by rw[bB,bA h];rfl
def jY{α:Type}[Inhabited α]{l:List α}{i:Nat}(h:i<l.length):l.getD i default∈l:=by rw[Hg h];exact dS h
def YB{α:Type}[Inhabited α]{l:List α}{i k:Nat}{v:α}(h:i<l.length):(l.set i v).getD k default=if k=i then v else l.getD k default:=by
 rw[bB,bB,dH];by_cases e:i=k
 .subst e;simp[h]
 .rw[aN e,aN (Ne.symm e)]
def Q2{α:Type}[Inhabited α]{n k:Nat}{v:α}(h:k<n):(bp n v).getD k default=v:=by rw[bB,dY,aO h];rfl
def PR{α:Type}[Inhabited α]{l:List α}{k:Nat}{v:α}:(l++[v]).getD k default=if k<l.length then l.getD k default else if k=l.length then v else default:=by
 rw[bB,bB,List.getElem?_append];by_cases h:k<l.length
 .rw[aO h,aO h]
 .rw[aN h,aN h];by_cases e:k=l.length
  .rw[aO e,e];simp
  .rw[aN e];rw[dQ (by simp;omega)];rfl
def YC{α:Type}[Inhabited α]{l:List α}{x:α}(h:x∈l):∃i,i<l.length/\x=l.getD i default:=by obtain⟨i,hi,e⟩:=ic.1 h;exact⟨i,hi,by rw[Hg hi,e]⟩
def wg(n:Nat):bj (n:Int)=n:=ae
def yZ{i N:Nat}(h:i<N)(hN:N<9223372036854775807):aD ((i:Int)+1)=((i+1:Nat):Int):=by rw[uP ab ab];omega
def kA{β:Type}(a k:aj)(b:β):∀l:List (aj×β),zr k (vW a b l)=if k=a then aY b else zr k l
 |[]=>by
  by_cases h:k=a
  .subst h;simp[vW,zr]
  .simp[vW,zr,h]
 |(c,d)::r=>by
  rw[vW];by_cases h:a=c
  .subst h;rw[aO rfl];by_cases hk:k=a
   .subst hk;simp[zr]
   .simp[zr,hk]
  .rw[aN h];by_cases hk:k=a
   .subst hk;have:=kA k k b r;simp[zr,h]at this ⊢;exact this
   .have:=kA a k b r;rw[aN hk]at this;by_cases hc:k=c
    .subst hc;simp[zr,hk]
    .simp[zr,hk,hc]at this ⊢;exact this
abbrev FF(m:Nat)(hb:18446744073709551616<=m+100):Fuel:=⟨m+100,hb⟩
section
variable(m:Nat)(hb:18446744073709551616<=m+100)
end
section
variable[Fuel]
end
section
variable(m:Nat)(hb:18446744073709551616<=m+100)
end
end Go.Proofs.YtogbenbghgjbiaaGreatDoor.O
set_option maxRecDepth 100000
namespace Go.BW
def Rj{S T:Type}{L:Nat->S->Option T}(I:S->Prop)(nN:S->Nat)(post:T->Prop)
  (step:∀K s,I s->(∃t,L (K+1) s=aY t/\post t)∨∃s',I s'/\nN s'<nN s/\L (K+1) s=L K s'):∀(n K:Nat)(s:S),I s->nN s<=n->n<K->∃t,L K s=aY t/\post t
 |n,0,s,_,_,h=>ab
 |n,K+1,s,hI,hn,hK=>by
  rcases step K s hI with h|⟨s',h1,h2,h3⟩
  .exact h
  .rw[h3]
   cases n with
   |zero=>omega
   |succ n=>exact Rj I nN post step n K s' h1 ab ab
inductive Path(U:Nat->Nat->Prop):Nat->Nat->Nat->Prop
 |nil (i:Nat):Path U 0 i i
 |cons {n i j k:Nat} (h:U i j) (p:Path U n j k):Path U (n+1) i k
def Path.trans{U:Nat->Nat->Prop}{n m i j k:Nat}(h:Path U n i j)(k':Path U m j k):Path U (n+m) i k:=by
 induction h with
 |nil i=>rw[Nat.zero_add];exact k'
 |cons h p ih=>rw[Nat.succ_add];exact .cons h (ih k')
def sV(U:Nat->Nat->Prop)(i:Nat):Prop:=∃n,Path U (n+1) i i
structure BI(N:Nat)(U:Nat->Nat->Prop)(t:Nat)(d:Nat->Int):Prop where
 zero:d t=0
 neg:∀k,k<N->d k=-1∨0<=d k
 back:∀k,k<N->k≠t->0<=d k->∃j,j<N/\U k j/\0<=d j/\d k=d j+1
 only:∀k,k<N->d k=0->k=t
 step:∀k j,k<N->j<N->U k j->0<=d j->0<=d k/\d k<=d j+1
 small:∀k,k<N->d k<N
def BI.le{N:Nat}{U:Nat->Nat->Prop}{t:Nat}{d:Nat->Int}(h:BI N U t d)(hU:∀i k,U i k->i<N/\k<N):∀{n k:Nat},Path U n k t->k<N->0<=d k/\d k<=n:=by
 intro n k p
 have:∀n k t',Path U n k t'->t'=t->k<N->0<=d k/\d k<=n:=by
  intro n k t' p
  induction p with
  |nil i=>intro e _;subst e;rw[h.zero];simp
  |cons hu p ih =>
   intro e hk;have h1:=ih e (hU _ _ hu).2;have h2:=h.step _ _ hk (hU _ _ hu).2 hu h1.1;omega
 exact this n k t p rfl
def BI.path{N:Nat}{U:Nat->Nat->Prop}{t:Nat}{d:Nat->Int}(h:BI N U t d):∀(n k:Nat),k<N->d k=n->Path U n k t
 |0,k,hk,e=>by have:=h.only k hk (by simpa using e);subst this;exact .nil _
 |n+1,k,hk,e=>by
  have lD:k≠t:=λhe=>by rw[he,h.zero]at e;omega
  obtain⟨j,hj,hu,h1,h2⟩:=h.back k hk lD ab;exact .cons hu (h.path n j hj ab)
def BI.cyc{N:Nat}{U:Nat->Nat->Prop}{t:Nat}{d:Nat->Int}(h:BI N U t d)(hU:∀i k,U i k->i<N/\k<N):sV U t↔∃k,U t k/\0<=d k:=by
 constructor
 .rintro⟨n,p⟩
  cases p with
  |cons hu p=>exact⟨_,hu,(h.le hU p (hU _ _ hu).2).1⟩
 .rintro⟨k,hu,hd⟩;have hk:=(hU _ _ hu).2;exact⟨(d k).toNat,.cons hu (h.path _ _ hk ab)⟩
def Rk:∀(N:Nat)(l:List Nat),l.Nodup->(∀x∈l,x<N)->l.length<=N
 |0,l,_,h=>by
  cases l with
  |nil=>simp
  |cons a l=>have:=h a ak;omega
 |N+1,l,hn,h=>by
  have h1:(l.erase N).Nodup:=hn.erase N
  have h2:=Rk N (l.erase N) h1 λx hx=>by have h3:=(hn.mem_erase_iff).1 hx;have:=h x h3.2;omega
  have h3:l.length<=(l.erase N).length+1:=by rw[List.length_erase];split<;>omega
  omega
def zmm{N:Nat}{U:Nat->Nat->Prop}{P:Nat->Prop}{s:Nat}(hs:P s)(hP:∀i,P i->i<N)(hnx:∀i,P i->∃k,U i k/\P k):∃i,P i/\sV U i:=by
 -- a way of any length
 have way:∀n,∃l:List Nat,l.length=n+1/\(∀x∈l,P x)/\l.Pairwise (λa b=>∃m,Path U (m+1) b a):=by
  intro n
  induction n with
  |zero=>exact⟨[s],rfl,λx hx=>by rw[b_.1 hx];exact hs,gP ..⟩
  |succ n ih =>
   obtain⟨l,h1,h2,h3⟩:=ih
   cases l with
   |nil=>simp at h1
   |cons a l =>
    obtain⟨k,hu,hk⟩:=hnx a (h2 a ak);refine⟨k::a::l,by simp at h1 ⊢;omega,λx hx=>?_,?_⟩
    .rcases bu.1 hx with rfl|hx
     .exact hk
     .exact h2 x hx
    .refine dG.2 ⟨λb hb=>?_,h3⟩
     rcases bu.1 hb with rfl|hb
     .exact⟨0,.cons hu (.nil _)⟩
     .obtain⟨m,p⟩:=(dG.1 h3).1 b hb;exact⟨m+1,p.trans (.cons hu (.nil _))⟩
 obtain⟨l,h1,h2,h3⟩:=way N;by_cases hn:l.Nodup
 .have:=Rk N l hn λx hx=>hP x (h2 x hx)
  omega
 .have:∀l:List Nat,¬l.Nodup->(∀x∈l,P x)->l.Pairwise (λa b=>∃m,Path U (m+1) b a)->∃i,P i/\sV U i:=by
   intro l
   induction l with
   |nil=>intro h;exact aQ cZ h
   |cons a l ih =>
    intro hn h2 h3;by_cases ha:a∈l
    .obtain⟨m,p⟩:=(dG.1 h3).1 a ha;exact⟨a,h2 a ak,m,p⟩
    .exact ih (λh=>hn (cA.2 ⟨ha,h⟩)) (λx hx=>h2 x (iO _ hx)) (dG.1 h3).2
  exact this l hn h2 h3
def Wv{α:Type}{R:α->α->Prop}:∀l:List α,(∀a∈l,∀b∈l,R a b)->l.Pairwise R
 |[],_=>.nil
 |a::l,h=>dG.2 ⟨λb hb=>h a ak b (iO _ hb),Wv l λx hx y hy=>h x (iO _ hx) y (iO _ hy)⟩
def dv(out:List Int)(k:Nat):Int:=out.getD k default
def rK(out:List Int):Nat:=out.countP (λx=>decide (x<0))
def FU{out:List Int}{i k:Nat}{v:Int}(hi:i<out.length):dv (out.set i v) k=if k=i then v else dv out k:=by
 unfold dv;rw[bB,bB,dH];by_cases h:i=k
 .subst h;simp[hi]
 .rw[aN h,aN (Ne.symm h)]
def MR{out:List Int}{i:Nat}{v:Int}(hi:i<out.length)(h0:dv out i<0)(hv:0<=v):rK (out.set i v)+1=rK out:=by
 have hd:dv out i=out[i]:=by unfold dv;rw[bB,bA hi];rfl
 rw[hd]at h0;have Nx:0<out.countP (λx=>decide (x<0)):=List.countP_pos_iff.2 ⟨out[i],dS hi,by simpa using h0⟩;unfold rK;rw[List.countP_set hi];simp only[h0,decide_true,if_true,df (show ¬v<0 by omega)];simp only[Bool.false_eq_true,if_false];omega
structure Bm(N:Nat)(U:Nat->Nat->Prop)(t:Nat)(q out:List Int):Prop where
 len:out.length=N
 tN:t<N
 mem:∀x∈q,∃k,k<N/\x=(k:Int)/\0<=dv out k
 zero:dv out t=0
 neg:∀k,k<N->dv out k=-1∨0<=dv out k
 back:∀k,k<N->k≠t->0<=dv out k->∃j,j<N/\U k j/\0<=dv out j/\dv out k=dv out j+1
 only:∀k,k<N->dv out k=0->k=t
 bound:∀k,k<N->0<=dv out k->dv out k+rK out<N
 closed:∀j,j<N->0<=dv out j->(j:Int)∈q∨∀k,k<N->U k j->0<=dv out k/\dv out k<=dv out j+1
 sorted:q.Pairwise λa b=>dv out a.toNat<=dv out b.toNat
 af3:∀a∈q,∀k,k<N->dv out k<=dv out a.toNat+1
def Bm.start{N:Nat}{U:Nat->Nat->Prop}{t:Nat}(ht:t<N):Bm N U t [(t:Int)] ((bp N (-1:Int)).set t 0):=by
 have hl:(bp N (-1:Int)).length=N:=ae
 have hd:∀k,k<N->dv ((bp N (-1:Int)).set t 0) k=if k=t then 0 else -1:=λk hk=>by
  rw[FU (by rw[hl];exact ht)];split
  .rfl
  .unfold dv;rw[bB,dY,aO hk];rfl
 have OE:dv ((bp N (-1:Int)).set t 0) t=0:=by rw[hd t ht,aO rfl]
 have hu:rK ((bp N (-1:Int)).set t 0)+1=N:=by rw[MR (by rw[hl];exact ht) (by unfold dv;rw[bB,dY,aO ht];decide) ab];unfold rK;rw[List.countP_replicate];simp
 refine⟨ae,ht,λx hx=>?_,OE,λk hk=>?_,λk hk lD h=>?_,λk hk h=>?_,λk hk h=>?_,λj hj h=>?_,gP ..,λa ha k hk=>?_⟩
 .rw[b_.1 hx];exact⟨t,ht,rfl,by rw[OE];omega⟩
 .rw[hd k hk];split<;>simp
 .rw[hd k hk,aN lD]at h;omega
 .rw[hd k hk]at h;split at h
  .assumption
  .omega
 .rw[hd k hk]at h ⊢;split at h
  .rw[aO (by assumption)];omega
  .omega
 .rw[hd j hj]at h;split at h
  .rename_i e;subst e;exact .inl (b_.2 rfl)
  .omega
 .rw[b_.1 ha,hd k hk]
  show _<=dv _ t+1
  rw[OE];split<;>omega
def Bm.done{N:Nat}{U:Nat->Nat->Prop}{t:Nat}{out:List Int}(h:Bm N U t [] out):BI N U t (dv out):=
 ⟨h.zero,h.neg,h.back,h.only,λk j hk hj hu hd=>(h.closed j hj hd).elim (λh=>by cases h) λh=>h k hk hu,λk hk=>by
  rcases h.neg k hk with e|e
  .rw[e];have:=h.tN;omega
  .have:=h.bound k hk e;omega⟩
structure s_(N:Nat)(U:Nat->Nat->Prop)(e:Nat)(q0 mr:List Int)(i:Nat)(q out:List Int):Prop where
 len:out.length=N
 ajC:i<=N
 new:∃nw:List Int,q=q0++nw/\(∀x∈nw,∃k,k<i/\x=(k:Int)/\dv mr k<0/\dv out k=dv mr e+1)/\∀k,k<N->dv out k=dv mr k∨dv mr k<0/\U k e/\dv out k=dv mr e+1/\(k:Int)∈nw
 seen:∀k,k<i->U k e->0<=dv out k
 later:∀k,i<=k->k<N->dv out k=dv mr k
 EY:rK out+q.length=rK mr+q0.length
def s_.start{N:Nat}{U:Nat->Nat->Prop}{e:Nat}{q out:List Int}(hl:out.length=N):s_ N U e q out 0 q out:=⟨hl,cH _,⟨[],ae,(by intro x hx;cases hx),λk hk=>.inl rfl⟩,λk hk=>ab,λ_ _ _=>rfl,rfl⟩
def s_.skip{N:Nat}{U:Nat->Nat->Prop}{e i:Nat}{q0 mr q out:List Int}(h:s_ N U e q0 mr i q out)(hi:i<N)(hs:0<=dv out i∨¬U i e):s_ N U e q0 mr (i+1) q out:=by
 obtain⟨nw,h1,h2,h3⟩:=h.new;refine⟨h.len,ab,⟨nw,h1,λx hx=>?_,h3⟩,λk hk hu=>?_,λk hk hn=>h.later k ab hn,h.EY⟩
 .obtain⟨k,hk,r⟩:=h2 x hx;exact⟨k,ab,r⟩
 .by_cases Fg:k=i
  .subst Fg
   rcases hs with hs|hs
   .exact hs
   .exact aQ hu hs
  .exact h.seen k ab hu
def s_.push{N:Nat}{U:Nat->Nat->Prop}{e i:Nat}{q0 mr q out:List Int}(h:s_ N U e q0 mr i q out)(hi:i<N)(hd:dv out i<0)(hu:U i e)(he:0<=dv mr e)(heN:e<N):dv out e=dv mr e/\s_ N U e q0 mr (i+1) (q++[(i:Int)]) (out.set i (dv mr e+1)):=by
 obtain⟨nw,h1,h2,h3⟩:=h.new
 have pf:i<out.length:=by rw[h.len];exact hi
 have CO:dv out e=dv mr e:=by
  rcases h3 e heN with h'|⟨h',_⟩
  .exact h'
  .omega
 refine⟨CO,⟨by rw[cb];exact h.len,ab,⟨nw++[(i:Int)],by rw[h1,tF],λx hx=>?_,λk hk=>?_⟩,λk hk Hu=>?_,λk hk hn=>?_,?_⟩⟩
 .rcases bJ.1 hx with hx|hx
  .obtain⟨k,hk,e1,e2,e3⟩:=h2 x hx;exact⟨k,ab,e1,e2,by rw[FU pf,aN ab];exact e3⟩
  .rw[b_.1 hx];exact⟨i,ab,rfl,by rw[<- h.later i al hi];exact hd,by rw[FU pf,aO rfl]⟩
 .rw[FU pf];split
  .rename_i Fg;subst Fg;exact .inr ⟨by rw[<- h.later k al hi];exact hd,hu,rfl,ae⟩
  .rcases h3 k hk with h'|⟨a,b,c,d⟩
   .exact .inl h'
   .exact .inr ⟨a,b,c,bQ _ d⟩
 .rw[FU pf];split
  .omega
  .exact h.seen k ab Hu
 .rw[FU pf,aN ab];exact h.later k ab hn
 .have:=MR pf hd (show 0<=dv mr e+1 by omega);have:=h.EY;simp only[la,cM];omega
def Bm.round{N:Nat}{U:Nat->Nat->Prop}{t e:Nat}{q0 mr q out:List Int}(hB:Bm N U t ((e:Int)::q0) mr)(hM:s_ N U e q0 mr N q out):Bm N U t q out:=by
 obtain⟨nw,h1,h2,h3⟩:=hM.new;obtain⟨e',he,e2,Fc⟩:=hB.mem _ ak;have:e=e':=ab;subst this
 have old:∀k,k<N->0<=dv mr k->dv out k=dv mr k:=λk hk h=>by
  rcases h3 k hk with h'|⟨h',_⟩
  .exact h'
  .omega
 have aa8:∀k,k<N->dv mr k<=dv mr e+1:=λk hk=>by have:=hB.af3 _ ak k hk;simpa using this
 have nF:∀k,k<N->dv out k<=dv mr e+1:=λk hk=>by
  rcases h3 k hk with h'|⟨_,_,h',_⟩
  .rw[h'];exact aa8 k hk
  .omega
 have aa_:=dG.1 hB.sorted
 have G6:∀a∈q0,∃k,k<N/\a=(k:Int)/\0<=dv mr k/\dv out k=dv mr k/\dv mr e<=dv mr k:=λa ha=>by obtain⟨k,hk,e3,h4⟩:=hB.mem a (iO _ ha);refine⟨k,hk,e3,h4,old k hk h4,?_⟩;have:=aa_.1 a ha;rw[e3]at this;simpa using this
 have G3:∀a∈nw,∃k,k<N/\a=(k:Int)/\dv mr k<0/\dv out k=dv mr e+1:=h2
 have aaw:rK out<=rK mr:=by have h:=hM.EY;rw[h1,la]at h;omega
 have aiq:nw≠[]->rK out+1<=rK mr:=λh0=>by have h:=hM.EY;have:0<nw.length:=List.length_pos_iff.2 h0;rw[h1,la]at h;omega
 refine⟨hM.len,hB.tN,λx hx=>?_,by rw[old t hB.tN (by rw[hB.zero];omega)];exact hB.zero,λk hk=>?_,λk hk lD h=>?_,λk hk h=>?_,λk hk h=>?_,λj hj h=>?_,?_,λa ha k hk=>?_⟩
 .rw[h1]at hx
  rcases bJ.1 hx with hx|hx
  .obtain⟨k,hk,a,b,c,_⟩:=G6 x hx;exact⟨k,hk,a,ab⟩
  .obtain⟨k,hk,a,_,b⟩:=G3 x hx;exact⟨k,hk,a,ab⟩
 .rcases h3 k hk with h'|⟨_,_,h',_⟩
  .rw[h'];exact hB.neg k hk
  .right;omega
 .rcases h3 k hk with h'|⟨_,hu,h',_⟩
  .obtain⟨j,hj,hu,h4,h5⟩:=hB.back k hk lD ab;have:=old j hj h4;exact⟨j,hj,hu,ab,ab⟩
  .have:=old e he Fc;exact⟨e,he,hu,ab,ab⟩
 .rcases h3 k hk with h'|⟨_,_,h',_⟩
  .exact hB.only k hk ab
  .omega
 .rcases h3 k hk with h'|⟨_,_,h',hm⟩
  .have:=hB.bound k hk ab;omega
  .have:=hB.bound e he Fc;have:=aiq (List.ne_nil_of_mem hm);omega
 .rcases h3 j hj with h'|⟨_,_,_,hm⟩
  .rcases hB.closed j hj ab with hm|hc
   .rcases bu.1 hm with hm|hm
    .have hje:j=e:=ab;subst hje;right;intro k hk hu;exact⟨hM.seen k hk hu,by have:=nF k hk;omega⟩
    .left;rw[h1];exact bQ _ hm
   .right;intro k hk hu;obtain⟨a,b⟩:=hc k hk hu;have:=old k hk a;exact⟨ab,ab⟩
  .left;rw[h1];exact List.mem_append_right _ hm
 .rw[h1];refine List.pairwise_append.2 ⟨?_,?_,λa ha b hb=>?_⟩
  .refine aa_.2.imp_of_mem λ{a b} ha hb h=>?_
   obtain⟨k,_,rfl,_,e3,_⟩:=G6 a ha;obtain⟨k',_,rfl,_,e4,_⟩:=G6 b hb;simp only[cx]at h ⊢;omega
  .refine Wv nw λa ha b hb=>?_
   obtain⟨k,_,rfl,_,e3⟩:=G3 a ha;obtain⟨k',_,rfl,_,e4⟩:=G3 b hb;simp only[cx];omega
  .obtain⟨k,hk,rfl,_,e3,_⟩:=G6 a ha;obtain⟨k',_,rfl,_,e4⟩:=G3 b hb;simp only[cx];have:=aa8 k hk;omega
 .have h4:=nF k hk;rw[h1]at ha
  rcases bJ.1 ha with ha|ha
  .obtain⟨k',_,rfl,_,e3,e4⟩:=G6 a ha;simp only[cx];omega
  .obtain⟨k',_,rfl,_,e3⟩:=G3 a ha;simp only[cx];omega
end Go.BW
set_option maxRecDepth 100000
namespace Go.Proofs.YtogbenbghgjbiaaGreatDoor.O
open Go Go.RowKit Go.lG Go.EV Go.BW
abbrev nameAt(l:List Def)(i:Nat):aj:=(l.getD i default).aK
def Uses(l:List Def)(i k:Nat):Prop:=i<l.length/\k<l.length/\nameAt l k∈zJ (l.getD i default).Body
def Gq(l:List Def):Prop:=∀i k,i<l.length->k<l.length->nameAt l i=nameAt l k->i=k
def HA(l:List Def):Prop:=∀d∈l,(zJ d.Body).length<=1000000/\∀k∈zJ d.Body,k.length<=9223372036854775807
structure Gr(N:Nat)(U:Nat->Nat->Prop)(us:List (List Int)):Prop where
 len:us.length=N
 N8:∀i,i<N->(us.getD i default).length<=1000000
 mem:∀i,i<N->∀x,x∈us.getD i default↔∃k:Nat,x=k/\U i k
 pa:∀i k,U i k->i<N/\k<N
variable[Fuel]
def zAn{l:List Def}(hl:l.length<2 ^ 62)(hd:Gq l):∃m,zV l KK (0,[])=aY m/\∀s k,zr s m=aY k↔∃j:Nat,j<l.length/\k=j/\nameAt l j=s:=by
 refine jq (L:=zV l) (s:=((0:Int),([]:List (aj×Int)))) (λi q=>q.1=(i:Int)/\∀s k,zr s q.2=aY k↔∃j:Nat,j<i/\k=j/\nameAt l j=s) (λm=>∀s k,zr s m=aY k↔∃j:Nat,j<l.length/\k=j/\nameAt l j=s) l.length ab ⟨rfl,λs k=>?_⟩ (λK i q h hi=>.inr ?_) (λK q h=>?_)
 .constructor
  .intro h;cases h
  .rintro⟨j,h,_⟩;omega
 .obtain⟨a,m⟩:=q;obtain⟨h1,h2⟩:=h;dsimp only at h1 h2;subst h1;refine⟨(((i+1:Nat):Int),vW (nameAt l i) (i:Int) m),⟨rfl,λs k=>?_⟩,?_⟩
  .dsimp only;rw[kA];by_cases hs:s=nameAt l i
   .rw[aO hs];constructor
    .intro h;cases h;exact⟨i,ab,rfl,hs.symm⟩
    .rintro⟨j,hj,rfl,he⟩;rw[hd j i ab hi (he.trans hs)]
   .rw[aN hs,h2];constructor
    .rintro⟨j,hj,r⟩;exact⟨j,ab,r⟩
    .rintro⟨j,hj,hk,he⟩
     have:j≠i:=λe=>hs (by rw[<- he,e])
     exact⟨j,ab,hk,he⟩
  .rw[zV,dt (by dsimp only;omega),ct,wM hi,aC,yZ hi ab]
 .obtain⟨a,m⟩:=q;obtain⟨h1,h2⟩:=h;dsimp only at h1 h2;subst h1;exact⟨m,by rw[zV,df ae,cf],h2⟩
def rowOf(M:List (aj×Int))(y:List aj):List Int:=y.filterMap λs=>zr s M
def zAo{M:List (aj×Int)}{y:List aj}{i:Nat}{us:List (List Int)}(hy:y.length<=1000000)(hi:i<us.length)(h0:us.getD i default=[]):zW M y ((i:Int),us) KK (0,us)=aY (us.set i (rowOf M y)):=by
 have E3:us.set i (rowOf M (y.take 0))=us:=by
  rw[fA]
  show us.set i []=us
  rw[<- h0,Hg hi,List.set_getElem_self]
 have key:=zAm (L:=zW M y ((i:Int),us)) (λj=>((j:Int),us.set i (rowOf M (y.take j)))) y.length (us.set i (rowOf M y)) ab (λK j hj=>?_) (λK=>?_)
 .rw[E3]at key;exact key
 .rw[zW,dt (by dsimp only;omega),ct,wM hj,aC]
  have ht:y.take (j+1)=y.take j++[y.getD j default]:=by rw[Hg hj,fc]
  have OH:(us.set i (rowOf M (y.take j))).getD i default=rowOf M (y.take j):=by rw[YB hi,aO rfl]
  have hlen:(rowOf M (y.take j)).length<=y.length:=by have h1:=gL (λs=>zr s M) (y.take j);rw[bY]at h1;unfold rowOf;omega
  have hr:rowOf M (y.take (j+1))=rowOf M (y.take j)++(match zr (y.getD j default) M with|some v=>[v]|none=>[]):=by unfold rowOf;rw[ht,List.filterMap_append];cases h:zr (y.getD j default) M<;>simp only[List.filterMap_cons,h,List.filterMap_nil]
  dsimp only;rw[hr]
  cases h:zr (y.getD j default) M with
  |none=>rw[Option.isSome_none,cf,aC,yZ hj ab,List.append_nil]
  |some v =>rw[fm,ct,zy ⟨ab,by rw[cb];omega⟩,aC,aC,wg,OH,dB,zy (by rw[la,cM];omega),aC,aC,ly,aC,yZ hj ab]
 .rw[zW,df ae,cf,eh]
def zmn{l:List Def}(hl:l.length<=1000)(hd:Gq l)(CT:HA l):∃us,xR l=aY (l,us)/\Gr l.length (Uses l) us:=by
 obtain⟨M,hM,Ux⟩:=zAn ab hd
 have Fj:∀i,i<l.length->wP (l.getD i default).Body=aY (Kw (l.getD i default).Body):=λi hi=>by obtain⟨h1,h2⟩:=CT _ (jY hi);exact zGb ab h2
 have mv:∀i,i<l.length->(Kw (l.getD i default).Body).length<=1000000:=λi hi=>cY (zr4 _) (CT _ (jY hi)).1
 have key:=jq (L:=yq l M) (s:=(0,bp l.length ([]:List Int)))
  (λi q=>q.1=(i:Int)/\q.2.length=l.length/\∀k,k<l.length->q.2.getD k default=if k<i then rowOf M (Kw (l.getD k default).Body)else[])
  (λus=>us.length=l.length/\∀k,k<l.length->us.getD k default=rowOf M (Kw (l.getD k default).Body)) l.length ab
  ⟨rfl,ae,λk hk=>by rw[Q2 hk];simp⟩ (λK i q h hi=>.inr ?_) (λK q h=>?_)
 .obtain⟨us,h1,h2,h3⟩:=key;refine⟨us,?_,h2,λi hi=>?_,λi hi x=>?_,λi k h=>⟨h.1,h.2.1⟩⟩
  .unfold xR;rw[hM,aC,zy ⟨ab,ab,ab⟩,aC,wg,h1,aC]
  .rw[h3 i hi];exact cY (gL _ _) (mv i hi)
  .rw[h3 i hi];unfold rowOf;rw[List.mem_filterMap];constructor
   .rintro⟨s,hs,he⟩;obtain⟨j,hj,rfl,hn⟩:=(Ux s x).1 he;exact⟨j,rfl,hi,hj,by rw[hn];exact zdi.1 hs⟩
   .rintro⟨k,rfl,_,hk,hm⟩;exact⟨nameAt l k,zdi.2 hm,(Ux _ _).2 ⟨k,hk,rfl,rfl⟩⟩
 .obtain⟨a,us⟩:=q;obtain⟨e1,e2,e3⟩:=h;dsimp only at e1 e2 e3;subst e1;have Ff:i<us.length:=ab;refine⟨(((i+1:Nat):Int),us.set i (rowOf M (Kw (l.getD i default).Body))),⟨rfl,by dsimp only;rw[cb];exact e2,λk hk=>?_⟩,?_⟩
  .dsimp only;rw[YB Ff];by_cases Fg:k=i
   .subst Fg;rw[aO rfl,aO ab]
   .rw[aN Fg,e3 k hk];by_cases ib:k<i
    .rw[aO ib,aO ab]
    .rw[aN ib,aN ab]
  .rw[yq,dt (by dsimp only;omega),ct,wM hi,aC,Fj i hi,aC];dsimp only;rw[zAo (mv i hi) Ff (by rw[e3 i hi,aN ab]),aC,yZ hi ab]
 .obtain⟨a,us⟩:=q;obtain⟨e1,e2,e3⟩:=h;dsimp only at e1 e2 e3;subst e1;exact⟨us,by rw[yq,df ae,cf],e2,λk hk=>by rw[e3 k hk,aO hk]⟩
def zAp{s:List Int}{v:Int}(hs:s.length<2 ^ 62):∃r,yS s v=aY r/\(0<=r↔v∈s):=by
 have key:=jq (L:=zx s v) (s:=(0:Int)) (λi a=>a=(i:Int)/\∀j,j<i->s.getD j default≠v)
  (λt=>match t with|.inl r=>0<=r/\v∈s|.inr _=>v ∉ s) s.length ab ⟨rfl,λj hj=>ab⟩ (λK i a h hi=>?_) (λK a h=>?_)
 .obtain⟨t,h1,h2⟩:=key;unfold yS;rw[h1]
  cases t with
  |inl r=>exact⟨r,rfl,by simp only at h2;exact⟨λ_=>h2.2,λ_=>h2.1⟩⟩
  |inr u=>exact⟨-1,rfl,by simp only at h2;exact⟨λh=>ab,λh=>aQ h h2⟩⟩
 .obtain⟨rfl,h⟩:=h;rw[zx,dt ab,ct,wM hi,aC,yZ hi ab];by_cases he:v=s.getD i default
  .rw[dt he,ct];exact .inl ⟨_,rfl,ab,by rw[he];exact jY hi⟩
  .rw[df he,cf];refine .inr ⟨_,⟨rfl,λj hj=>?_⟩,rfl⟩;by_cases CR:j=i
   .subst CR;exact Ne.symm he
   .exact h j ab
 .obtain⟨rfl,h⟩:=h;rw[zx,df ab,cf];exact⟨_,rfl,λhm=>by obtain⟨j,hj,e⟩:=YC hm;exact h j hj e.symm⟩
def zmo{s:List Int}{v:Int}(hs:s.length<2 ^ 62):zU s v=aY (decide (v∈s)):=by
 obtain⟨r,h1,h2⟩:=zAp (v:=v) hs;unfold zU;rw[h1,aC]
 congr 1
 exact decide_eq_decide.2 h2
def zxd(m:Nat)(hb:18446744073709551616<=m+100):∀N:Nat,N<=20->@vh (FF m hb) [-1] (N:Int)=aY (bp N (-1))
 |0,_=>rfl
 |1,_=>rfl
 |2,_=>rfl
 |3,_=>rfl
 |4,_=>rfl
 |5,_=>rfl
 |6,_=>rfl
 |7,_=>rfl
 |8,_=>rfl
 |9,_=>rfl
 |10,_=>rfl
 |11,_=>rfl
 |12,_=>rfl
 |13,_=>rfl
 |14,_=>rfl
 |15,_=>rfl
 |16,_=>rfl
 |17,_=>rfl
 |18,_=>rfl
 |19,_=>rfl
 |20,_=>rfl
 |n+21,h=>ab
def zxe:∀(i:Fuel)(N:Nat),N<=20->@vh i [-1] (N:Int)=aY (bp N (-1)):=by
 rintro⟨n,hb⟩
 obtain⟨m,rfl⟩:∃m,n=m+100:=⟨n-100,ab⟩
 exact zxd m hb
def M5(out:List Int)(k:Nat):out.getD k default=dv out k:=rfl
def zGc{N:Nat}{U:Nat->Nat->Prop}{us:List (List Int)}(hg:Gr N U us)(hN:N<=1000){t e:Nat}{q0 mr:List Int}{n:Nat}(hB:Bm N U t ((e:Int)::q0) mr)(hc:rK mr+q0.length<=N):
  ∃r:List Int×Nat×List Int,zl us (e:Int) KK (0,q0,n,mr)=aY r/\s_ N U e q0 mr N r.1 r.2.2:=by
 obtain⟨e',he,e2,Fc⟩:=hB.mem _ ak;obtain rfl:e=e':=ab;have hbd:=hB.bound e he Fc
 have key:=jq (L:=zl us (e:Int)) (s:=((0:Int),q0,n,mr)) (λi q=>q.1=(i:Int)/\s_ N U e q0 mr i q.2.1 q.2.2.2)
  (λr=>s_ N U e q0 mr N r.1 r.2.2) N ab ⟨rfl,s_.start hB.len⟩ (λK i q h hi=>.inr ?_) (λK q h=>?_)
 .exact key
 .obtain⟨a,q,m,out⟩:=q;obtain⟨e1,hM⟩:=h;dsimp only at e1 hM;subst e1
  have hio:i<out.length:=by rw[hM.len];exact hi
  have heo:e<out.length:=by rw[hM.len];exact he
  have Fb:=hM.EY
  have Ff:i<us.length:=by rw[hg.len];exact hi
  rw[zl,dt (by dsimp only;rw[hg.len];omega),ct,wM Ff,aC];dsimp only;rw[zy ⟨ab,ab⟩,aC,aC,wg,M5,yZ hi ab];by_cases hd:dv out i<0
  .rw[dt hd,ct,zmo (by have:=hg.N8 i hi;omega),aC,aC];by_cases hu:U i e
   .rw[dt ((hg.mem i hi _).2 ⟨e,rfl,hu⟩)];dsimp only;obtain⟨h1,h2⟩:=hM.push hi hd hu Fc he;rw[ct,zy ⟨ab,ab⟩,aC,aC,zy (by rw[la,cM];omega),aC,aC];rw[wg,M5,h1,uP ab ab];exact⟨_,⟨rfl,h2⟩,rfl⟩
   .rw[df (λh=>by obtain⟨k,hk,Hu⟩:=(hg.mem i hi _).1 h;obtain rfl:e=k:=ab;exact hu Hu)];dsimp only;rw[cf,aC];exact⟨_,⟨rfl,hM.skip hi (.inr hu)⟩,rfl⟩
  .rw[df hd,cf,aC];dsimp only;rw[cf,aC];exact⟨_,⟨rfl,hM.skip hi (.inl ab)⟩,rfl⟩
 .obtain⟨a,q,m,out⟩:=q;obtain⟨e1,hM⟩:=h;dsimp only at e1 hM;subst e1;exact⟨_,by rw[zl,df (by dsimp only;rw[hg.len];omega),cf],hM⟩
def zGd{N:Nat}{U:Nat->Nat->Prop}{us:List (List Int)}(hg:Gr N U us)(hN:N<=1000){t:Nat}(ht:t<N):
  ∃d:List Int,zt us KK ([(t:Int)],1,(bp N (-1:Int)).set t 0)=aY d/\d.length=N/\BI N U t (dv d):=by
 have hs:=Bm.start (N:=N) (U:=U) ht;refine Rj (L:=zt us) (λq=>Bm N U t q.1 q.2.2/\rK q.2.2+q.1.length<=N) (λq=>rK q.2.2+q.1.length) (λd=>d.length=N/\BI N U t (dv d)) (λK q h=>?_) N KK _ ⟨hs,?_⟩ ?_ (by have:=Sw;omega)
 .obtain⟨q,n,out⟩:=q;obtain⟨hB,hc⟩:=h;dsimp only at hB hc
  cases q with
  |nil =>
   refine .inl ⟨out,?_,hB.len,hB.done⟩;rw[zt,df ae,cf]
  |cons x q =>
   obtain⟨e,he,rfl,Fc⟩:=hB.mem _ ak;rw[lc]at hc;obtain⟨⟨q',n',tV⟩,h1,h2⟩:=zGc (n:=n+1) hg hN hB ab;have aaw:=h2.EY;dsimp only at aaw h2;refine .inr ⟨(q',n',tV),⟨hB.round h2,by dsimp only;omega⟩,by dsimp only;rw[lc];omega,?_⟩;rw[zt,dt ae,ct];dsimp only;rw[zy ⟨ab,by rw[lc];omega⟩,aC,aC,zy (by rw[lc];omega),aC]
   show((zl us (e:Int)) KK (0,q,n+1,out)).bind _=_
   rw[h1,aC]
 .have h1:=MR (out:=bp N (-1:Int)) (i:=t) (v:=0) (by simpa using ht) (by show(bp N (-1:Int)).getD t default<0;rw[Q2 ht];omega) ab
  have h2:rK (bp N (-1:Int))<=N:=by unfold rK;exact cY gV ae
  dsimp only;simp only[cM];omega
 .have h1:=MR (out:=bp N (-1:Int)) (i:=t) (v:=0) (by simpa using ht) (by show(bp N (-1:Int)).getD t default<0;rw[Q2 ht];omega) ab
  have h2:rK (bp N (-1:Int))<=N:=by unfold rK;exact cY gV ae
  dsimp only;simp only[cM];omega
def zj9{l:List Def}{U:Nat->Nat->Prop}{us:List (List Int)}(hg:Gr l.length U us)(hN:l.length<=20){t:Nat}(ht:t<l.length):
  ∃d:List Int,yA l us (t:Int)=aY (d,l,us)/\d.length=l.length/\BI l.length U t (dv d):=by obtain⟨d,h1,h2⟩:=zGd hg ab ht;refine⟨d,?_,h2⟩;unfold yA;rw[zxe _ _ hN,aC,zy ⟨ab,by simpa using ht⟩,aC,aC,wg,h1,aC]
def zGe{l:List Def}{U:Nat->Nat->Prop}{us:List (List Int)}(hg:Gr l.length U us){d:List Int}(hd:d.length=l.length){at_:Nat}(ha:at_<l.length):
  ∃r,zE (d,l,us) (us.getD at_ default) KK (-1,0)=aY r/\((r=-1/\∀k,U at_ k->dv d k<0)∨∃k:Nat,r=k/\U at_ k/\0<=dv d k/\∀k',U at_ k'->0<=dv d k'->dv d k<=dv d k'):=by
 have hf:=hg.N8 at_ ha
 have hx:∀j,j<(us.getD at_ default).length->∃k:Nat,(us.getD at_ default).getD j default=k/\U at_ k/\k<l.length:=λj hj=>by obtain⟨k,e,hu⟩:=(hg.mem at_ ha _).1 (jY hj);exact⟨k,e,hu,(hg.pa _ _ hu).2⟩
 have key:=jq (L:=zE (d,l,us) (us.getD at_ default)) (s:=((-1:Int),(0:Int)))
  (λj q=>q.2=(j:Int)/\((q.1=-1/\∀j',j'<j->∀k:Nat,(us.getD at_ default).getD j' default=k->dv d k<0)∨∃k:Nat,q.1=k/\U at_ k/\0<=dv d k/\∀j',j'<j->∀k':Nat,(us.getD at_ default).getD j' default=k'->0<=dv d k'->dv d k<=dv d k'))
  (λr=>(r=-1/\∀k,U at_ k->dv d k<0)∨∃k:Nat,r=k/\U at_ k/\0<=dv d k/\∀k',U at_ k'->0<=dv d k'->dv d k<=dv d k') (us.getD at_ default).length ab ⟨rfl,.inl ⟨rfl,λj hj=>ab⟩⟩ (λK i q h hi=>.inr ?_) (λK q h=>?_)
 .exact key
 .obtain⟨r,a⟩:=q;obtain⟨e1,h⟩:=h;dsimp only at e1 h;subst e1;obtain⟨k,hk,hu,nu⟩:=hx i hi;have Ly:k<d.length:=ab;rw[zE,dt (by dsimp only;omega),ct,wM hi,aC];dsimp only;rw[hk,wM Ly,aC,M5,yZ hi ab]
  have ext:∀{P:Nat->Prop},(∀j',j'<i->∀k':Nat,(us.getD at_ default).getD j' default=k'->P k')->P k->∀j',j'<i+1->∀k':Nat,(us.getD at_ default).getD j' default=k'->P k':=λh1 h2 j' rU k' e=>by
   by_cases CR:j'=i
   .subst CR
    obtain rfl:k=k':=by rw[hk]at e;omega
    exact h2
   .exact h1 j' ab k' e
  by_cases h0:0<=dv d k
  .rw[dt (show dv d k>=0 from h0),ct]
   rcases h with⟨rfl,h⟩|⟨k0,rfl,Fm,sX,h⟩
   .rw[dt ab,ct,aC,ct,aC];exact⟨_,⟨rfl,.inr ⟨k,rfl,hu,h0,ext (λj' rU k' e h3=>by have:=h j' rU k' e;omega) λ_=>iV _⟩⟩,rfl⟩
   .rw[df ab,cf,aC,wM (i:=k0) (by have:=(hg.pa _ _ Fm).2;omega),aC,M5,aC];by_cases ib:dv d k<dv d k0
    .rw[dt ib,ct,aC];exact⟨_,⟨rfl,.inr ⟨k,rfl,hu,h0,ext (λj' rU k' e h3=>by have:=h j' rU k' e h3;omega) λ_=>iV _⟩⟩,rfl⟩
    .rw[df ib,cf,aC];exact⟨_,⟨rfl,.inr ⟨k0,rfl,Fm,sX,ext h λ_=>ab⟩⟩,rfl⟩
  .rw[df (show ¬dv d k>=0 from h0),cf,aC,cf,aC]
   rcases h with⟨rfl,h⟩|⟨k0,rfl,Fm,sX,h⟩
   .exact⟨_,⟨rfl,.inl ⟨rfl,ext h ab⟩⟩,rfl⟩
   .exact⟨_,⟨rfl,.inr ⟨k0,rfl,Fm,sX,ext h λh3=>aQ h3 h0⟩⟩,rfl⟩
 .obtain⟨r,a⟩:=q;obtain⟨e1,h⟩:=h;dsimp only at e1 h;subst e1;refine⟨r,by rw[zE,df ae,cf],?_⟩
  have Uh:∀k,U at_ k->∃j,j<(us.getD at_ default).length/\(us.getD at_ default).getD j default=(k:Int):=λk hu=>by obtain⟨j,hj,e⟩:=YC ((hg.mem at_ ha _).2 ⟨k,rfl,hu⟩);exact⟨j,hj,e.symm⟩
  rcases h with⟨rfl,h⟩|⟨k0,rfl,Fm,sX,h⟩
  .exact .inl ⟨rfl,λk hu=>by obtain⟨j,hj,e⟩:=Uh k hu;exact h j hj k e⟩
  .exact .inr ⟨k0,rfl,Fm,sX,λk hu h3=>by obtain⟨j,hj,e⟩:=Uh k hu;exact h j hj k e h3⟩
def zxf{l:List Def}{U:Nat->Nat->Prop}{us:List (List Int)}(hg:Gr l.length U us)(hN:l.length<=20){t:Nat}(ht:t<l.length):
  ∃c,yW l us (t:Int)=aY (c,l,us)/\(c=[]↔¬sV U t)/\c.length<=21:=by
 obtain⟨d,h1,hdl,hD⟩:=zj9 hg hN ht;have aay:=hD.cyc hg.pa
 have key:=Rj (L:=z6 (t:Int) (d,l,us))
  (λq=>∃a:Nat,q.1=a/\a<l.length/\((a=t/\q.2=[])∨(sV U t/\q.2≠[]/\0<dv d a/\dv d a+q.2.length<=l.length)))
  (λq=>l.length+1-q.2.length) (λr=>∃c,r=.inl (c,l,us)/\(c=[]↔¬sV U t)/\c.length<=21) (λK q h=>?_) (l.length+1) KK ((t:Int),[]) ⟨t,rfl,ht,.inl ⟨rfl,rfl⟩⟩ ae (by have:=Sw;omega)
 .obtain⟨r,h2,c,rfl,h3⟩:=key;refine⟨c,?_,h3⟩;unfold yW;rw[h1,aC,h2];rfl
 .obtain⟨a',out⟩:=q;obtain⟨a,e1,ha,h⟩:=h;dsimp only at e1 h;subst e1
  have sY:out.length<=l.length:=by
   rcases h with⟨_,rfl⟩|⟨_,_,h3,h4⟩
   .simp
   .omega
  obtain⟨r,hr,G8⟩:=zGe hg hdl ha
  have hau:a<us.length:=by rw[hg.len];exact ha
  rw[z6];dsimp only;rw[wM ha,aC,zy (by rw[la,cM];omega),aC,wM hau,aC,hr,aC]
  rcases G8 with⟨rfl,tK⟩|⟨k,rfl,hu,sX,Dp⟩
  .rw[dt ab,ct];refine .inl ⟨_,rfl,[],rfl,⟨λ_ hc=>?_,λ_=>rfl⟩,ae⟩
   rcases h with⟨rfl,_⟩|⟨_,_,h3,h4⟩
   .obtain⟨k,hu,hk⟩:=aay.1 hc;have:=tK k hu;omega
   .have DR:a≠t:=λe=>by rw[e,hD.zero]at h3;omega
    obtain⟨j,hj,hu,Lw,_⟩:=hD.back a ha DR ab;have:=tK j hu;omega
  .have D4:=(hg.pa _ _ hu).2
   have hc:sV U t:=by
    rcases h with⟨rfl,_⟩|⟨h,_⟩
    .exact aay.2 ⟨k,hu,sX⟩
    .exact h
   rw[df ab,cf];by_cases UN:k=t
   .subst UN;rw[dt rfl,ct,zy (by cases out<;>rfl),aC];exact .inl ⟨_,rfl,_,rfl,⟨λh=>by simp at h,λh=>aQ hc h⟩,by rw[la,cM];omega⟩
   .rw[df ab,cf]
    have hkp:0<dv d k:=by
     rcases Int.lt_or_eq_of_le sX with h|h
     .exact h
     .exact aQ (hD.only k D4 h.symm) UN
    have ml:=hD.small k D4;refine .inr ⟨((k:Int),out++[(l.getD a default).aK]),⟨k,rfl,D4,.inr ⟨hc,ae,hkp,?_⟩⟩,by dsimp only;rw[la,cM];omega,rfl⟩;dsimp only;rw[la,cM]
    rcases h with⟨rfl,rfl⟩|⟨_,_,h3,h4⟩
    .simp only[dw];omega
    .have DR:a≠t:=λe=>by rw[e,hD.zero]at h3;omega
     obtain⟨j,hj,Hu,Lw,hj1⟩:=hD.back a ha DR ab;have:=Dp j Hu Lw;omega
def zxg(x y:aj):∃r,yC x y=aY r:=by
 have h:∀z:aj,xl z=aY bf:=λz=>by unfold xl;rw[dt rfl];rfl
 unfold yC;rw[h,h,aC,aC,cf,cf]
 cases Op.bytesLess x y with
 |true=>exact⟨_,rfl⟩
 |false =>
  rw[cf]
  cases (!(bf||decide (x=y)))with
  |true=>exact⟨_,rfl⟩
  |false=>exact⟨_,rfl⟩
def zf0{s1 s2:List aj}(hs:s1.length<2 ^ 62):∃r,xr s1 s2=aY r:=by
 have key:=jq (L:=yv s1 s2) (s:=(0:Int)) (λi a=>a=(i:Int)) (λ_=>True) s1.length ab rfl (λK i a h hi=>?_) (λK a h=>?_)
 .obtain⟨t,h1,_⟩:=key;unfold xr;rw[h1,aC]
  cases t with
  |inl r=>exact⟨_,rfl⟩
  |inr u =>
   dsimp only
   cases decide ((s1.length:Int)<(s2.length:Int))with
   |true=>exact⟨_,rfl⟩
   |false=>exact⟨_,rfl⟩
 .subst h;rw[yv,dt ab,ct,wM hi,aC,yZ hi ab];by_cases h2:i<s2.length
  .obtain⟨r,hr⟩:=zxg (s1.getD i default) (s2.getD i default);rw[df ab,cf,wM h2,aC,hr,aC]
   cases decide (r=0)with
   |true=>exact .inr ⟨_,rfl,rfl⟩
   |false=>exact .inl ⟨_,rfl,trivial⟩
  .rw[dt ab,ct];exact .inl ⟨_,rfl,trivial⟩
 .subst h;rw[yv,df ab,cf];exact⟨_,rfl,trivial⟩
def zmp{l:List Def}{U:Nat->Nat->Prop}{us:List (List Int)}(hg:Gr l.length U us)(hN:l.length<=20):
  ∃c,yD l us=aY (c,l,us)/\(c=[]↔∀i,i<l.length->¬sV U i):=by
 have key:=jq (L:=zG l) (s:=(([]:List aj),(0:Int),l,us))
  (λi q=>q.2.1=(i:Int)/\q.2.2.1=l/\q.2.2.2=us/\(q.1=[]↔∀j,j<i->¬sV U j)/\q.1.length<=21)
  (λr=>∃c,r=(c,l,us)/\(c=[]↔∀i,i<l.length->¬sV U i)) l.length ab ⟨rfl,rfl,rfl,ae,ae⟩ (λK i q h hi=>.inr ?_) (λK q h=>?_)
 .obtain⟨r,h1,c,rfl,h2⟩:=key;refine⟨c,?_,h2⟩;unfold yD;rw[h1,aC]
 .obtain⟨b,a,l',En⟩:=q;obtain⟨e1,e2,e3,h,hb⟩:=h;dsimp only at e1 e2 e3 h hb;subst e1 e2 e3;obtain⟨c,hc,nD,mY⟩:=zxf hg hN hi;rw[zG,dt (by dsimp only;omega),ct];dsimp only;rw[hc,aC];dsimp only
  have fin:∀x:List aj,(x=[]↔b=[]/\c=[])->x.length<=21->(((i+1:Nat):Int)=((i+1:Nat):Int)/\l'=l'/\En=En/\(x=[]↔∀j,j<i+1->¬sV U j)/\x.length<=21):=λx hx hl=>⟨rfl,rfl,rfl,by
   rw[hx,h,nD];constructor
   .rintro⟨h1,h2⟩ j hj;by_cases e:j=i
    .subst e;exact h2
    .exact h1 j ab
   .intro h1
    exact⟨λj hj=>h1 j ab,h1 i ab⟩,hl⟩
  cases B0:c with
  |nil =>
   rw[iQ,ct,aC,yZ hi ab];exact⟨(b,((i+1:Nat):Int),l',En),fin b ⟨λh=>⟨h,B0⟩,λh=>h.1⟩ hb,rfl⟩
  |cons x c' =>
   rw[<- B0]
   have lD:c≠[]:=by rw[B0];simp
   have afG:cO c=bf:=by rw[B0];rfl
   rw[afG,cf]
   have hB:∃v:Bool,((bif (cO b)then aY (b,c,bh)else(bif (decide ((ba c:Int)<(ba b:Int)))then aY (b,c,bh)else(bif (decide ((ba c:Int)=(ba b:Int)))then(xr c b).bind λy2=>aY (b,c,(decide (y2<0)))else aY (b,c,bf)))):Option (List aj×List aj×Bool))=aY (b,c,v)/\(b=[]->v=bh):=by
    cases Lq:b with
    |nil=>exact⟨bh,rfl,λ_=>rfl⟩
    |cons y b' =>
     rw[<- Lq]
     have:cO b=bf:=by rw[Lq];rfl
     rw[this,cf];obtain⟨z,hz⟩:=zf0 (s1:=c) (s2:=b) ab;rw[hz,aC]
     cases decide ((ba c:Int)<(ba b:Int))with
     |true=>exact⟨_,rfl,λ_=>rfl⟩
     |false =>
      cases decide ((ba c:Int)=(ba b:Int))with
      |true=>exact⟨_,rfl,λh=>by rw[Lq]at h;cases h⟩
      |false=>exact⟨_,rfl,λh=>by rw[Lq]at h;cases h⟩
   obtain⟨v,hv,sB⟩:=hB;rw[hv,aC];dsimp only
   cases v with
   |true =>
    rw[ct,aC,aC,yZ hi ab];exact⟨(c,((i+1:Nat):Int),l',En),fin c ⟨λh=>aQ h lD,λh=>aQ h.2 lD⟩ mY,rfl⟩
   |false =>
    have UC:b≠[]:=λe=>by have:=sB e;cases this
    rw[cf,aC,aC,yZ hi ab];exact⟨(b,((i+1:Nat):Int),l',En),fin b ⟨λh=>aQ h UC,λh=>aQ h.1 UC⟩ hb,rfl⟩
 .obtain⟨b,a,l',En⟩:=q;obtain⟨e1,e2,e3,h,hb⟩:=h;dsimp only at e1 e2 e3 h hb;subst e1 e2 e3;exact⟨_,by rw[zG,df ae,cf],b,rfl,h⟩
end Go.Proofs.YtogbenbghgjbiaaGreatDoor.O
set_option maxRecDepth 100000
namespace Go.BW
structure s8(N:Nat)(U:Nat->Nat->Prop)(o:List Nat):Prop where
 nodup:o.Nodup
 lt:∀x∈o,x<N
 dep:∀i,i<o.length->∀k,U (o.getD i default) k->k∈o.take i
def s8.nil{N:Nat}{U:Nat->Nat->Prop}:s8 N U []:=⟨cZ,λx h=>(by cases h),λi h=>(by simp at h)⟩
def s8.snoc{N:Nat}{U:Nat->Nat->Prop}{o:List Nat}{x:Nat}(h:s8 N U o)(hx:x<N)(hn:x ∉ o)(hd:∀k,U x k->k∈o):s8 N U (o++[x]):=by
 refine⟨cK.2 ⟨h.nodup,ae,λa ha b hb=>by simp at hb;subst hb;intro e;subst e;exact hn ha⟩,λy hy=>?_,λi hi k hu=>?_⟩
 .rcases bJ.1 hy with hy|hy
  .exact h.lt y hy
  .rw[b_.1 hy];exact hx
 .rw[la,cM]at hi;by_cases pf:i<o.length
  .have e:(o++[x]).getD i default=o.getD i default:=by rw[bB,bB,List.getElem?_append_left pf]
   rw[e]at hu;rw[dX ab];exact h.dep i pf k hu
  .obtain rfl:i=o.length:=ab
   have e:(o++[x]).getD o.length default=x:=by rw[bB,List.getElem?_append_right al];simp
   rw[e]at hu;rw[dX al,eh];exact hd k hu
def Xn:∀(N:Nat)(l:List Nat),(∀k,k<N->k∈l)->N<=l.length
 |0,_,_=>cH _
 |N+1,l,h=>by
  have h1:N∈l:=h N ab
  have h2:=Xn N (l.erase N) λk hk=>(List.mem_erase_of_ne ab).2 (h k ab)
  rw[List.length_erase_of_mem h1]at h2;have:=List.length_pos_of_mem h1;omega
def zAq{N:Nat}{U:Nat->Nat->Prop}(hU:∀i k,U i k->i<N/\k<N)(E_:∀i,i<N->¬sV U i){o:List Nat}(hl:o.length<N):∃x,x<N/\x ∉ o/\∀k,U x k->k∈o:=by
 refine Classical.byContradiction λtK=>?_
 have hs:∃s,s<N/\s ∉ o:=Classical.byContradiction λh=>by
  have:=Xn N o λk hk=>Classical.byContradiction λmu=>h ⟨k,hk,mu⟩
  omega
 obtain⟨s,hs⟩:=hs
 obtain⟨i,hi,hc⟩:=zmm (N:=N) (U:=U) (P:=λi=>i<N/\i ∉ o) (s:=s) hs (λi h=>h.1) λi hi=>Classical.byContradiction λh=>tK ⟨i,hi.1,hi.2,λk hu=>Classical.byContradiction λhk=>h ⟨k,hu,(hU _ _ hu).2,hk⟩⟩
 exact E_ i hi.1 hc
def Ke(o:List Nat):List Int:=o.map λ(k:Nat)=>(k:Int)
end Go.BW
namespace Go.Proofs.YtogbenbghgjbiaaGreatDoor.O
open Go Go.RowKit Go.lG Go.EV Go.BW
variable[Fuel]
def ag0{s:List Int}{done:List Bool}(hs:s.length<2 ^ 62)(hx:∀x∈s,∃k:Nat,x=k/\k<done.length):
  ∃b,zO s done=aY (b,done)/\(b=bh↔∃k:Nat,(k:Int)∈s/\done.getD k default=bf):=by
 have key:=jq (L:=zu s) (s:=((0:Int),done)) (λi q=>q.1=(i:Int)/\q.2=done/\∀j,j<i->∀k:Nat,s.getD j default=k->done.getD k default=bh)
  (λt=>match t with|.inl r=>0<=r.1/\r.2=done/\∃k:Nat,(k:Int)∈s/\done.getD k default=bf|.inr d=>d=done/\∀k:Nat,(k:Int)∈s->done.getD k default=bh) s.length ab ⟨rfl,rfl,λj hj=>ab⟩ (λK i q h hi=>?_) (λK q h=>?_)
 .obtain⟨t,h1,h2⟩:=key;unfold zO yE;rw[h1,aC]
  cases t with
  |inl r =>
   obtain⟨r,d⟩:=r;dsimp only at h2;obtain⟨h2,rfl,h3⟩:=h2;dsimp only;rw[aC];exact⟨_,rfl,by simp only[aU];exact⟨λ_=>h3,λ_=>h2⟩⟩
  |inr d =>dsimp only at h2;obtain⟨rfl,h3⟩:=h2;dsimp only;rw[aC];refine⟨_,rfl,by simp only[aU];exact⟨λh=>ab,λ⟨k,hk,hf⟩=>by rw[h3 k hk]at hf;cases hf⟩⟩
 .obtain⟨a,d⟩:=q;obtain⟨e1,e2,h⟩:=h;dsimp only at e1 e2 h;subst e1 e2;obtain⟨k,hk,Ly⟩:=hx _ (jY hi);rw[zu,dt (by dsimp only;omega),ct,wM hi,aC];unfold xp;dsimp only;rw[hk,zy ⟨ab,ab⟩,aC,aC,wg,aC,yZ hi ab];dsimp only
  cases hb:d.getD k default with
  |false =>
   rw[cJ,ct];refine .inl ⟨.inl ((i:Int),d),rfl,?_⟩;dsimp only;exact⟨ab,rfl,k,by rw[<- hk];exact jY hi,hb⟩
  |true =>
   rw[bU,cf];refine .inr ⟨_,⟨rfl,rfl,λj hj k' e=>?_⟩,rfl⟩;by_cases CR:j=i
   .subst CR
    obtain rfl:k=k':=by rw[hk]at e;omega
    exact hb
   .exact h j ab k' e
 .obtain⟨a,d⟩:=q;obtain⟨e1,e2,h⟩:=h;dsimp only at e1 e2 h;subst e1 e2;refine⟨.inr d,by rw[zu,df ae,cf],?_⟩;dsimp only;exact⟨rfl,λk hk=>by obtain⟨j,hj,e⟩:=YC hk;exact h j hj k e.symm⟩
def KX(U:Nat->Nat->Prop)(done:List Bool)(i:Nat):Prop:=done.getD i default=bf/\∀k,U i k->done.getD k default=bh
def zAr{l:List Def}{U:Nat->Nat->Prop}{us:List (List Int)}(hg:Gr l.length U us)(hN:l.length<=1000){done:List Bool}(hd:done.length=l.length):
  ∃r,zH l us KK (-1,0,done)=aY (r,done)/\((r=-1/\∀j,j<l.length->¬KX U done j)∨∃k:Nat,r=k/\k<l.length/\KX U done k):=by
 have key:=jq (L:=zH l us) (s:=((-1:Int),(0:Int),done))
  (λi q=>q.2.1=(i:Int)/\q.2.2=done/\((q.1=-1/\∀j,j<i->¬KX U done j)∨∃k:Nat,q.1=k/\k<l.length/\KX U done k))
  (λt=>∃r,t=(r,done)/\((r=-1/\∀j,j<l.length->¬KX U done j)∨∃k:Nat,r=k/\k<l.length/\KX U done k)) l.length ab ⟨rfl,rfl,.inl ⟨rfl,λj hj=>ab⟩⟩ (λK i q h hi=>.inr ?_) (λK q h=>?_)
 .obtain⟨t,h1,r,rfl,h2⟩:=key;exact⟨r,h1,h2⟩
 .obtain⟨r,a,d⟩:=q;obtain⟨e1,e2,h⟩:=h;dsimp only at e1 e2 h;subst e1 e2
  have Ff:i<us.length:=by rw[hg.len];exact hi
  obtain⟨b,hb,UD⟩:=ag0 (s:=us.getD i default) (done:=d) (by have:=hg.N8 i hi;omega) λx hx=>by obtain⟨k,e,hu⟩:=(hg.mem i hi x).1 hx;exact⟨k,e,by rw[hd];exact(hg.pa _ _ hu).2⟩
  have G7:(b=bf/\d.getD i default=bf)↔KX U d i:=by
   unfold KX;constructor
   .rintro⟨rR,CM⟩;refine⟨CM,λk hu=>?_⟩
    cases hk:d.getD k default with
    |true=>rfl
    |false=>exact aQ (UD.2 ⟨k,(hg.mem i hi _).2 ⟨k,rfl,hu⟩,hk⟩) (by rw[rR];simp)
   .rintro⟨CM,hk⟩;refine⟨?_,CM⟩
    cases GS:b with
    |false=>rfl
    |true =>obtain⟨k,hm,hf⟩:=UD.1 GS;obtain⟨k',e,hu⟩:=(hg.mem i hi _).1 hm;obtain rfl:k=k':=ab;rw[hk k hu]at hf;cases hf
  rw[zH,dt (by dsimp only;rw[hg.len];omega),ct,wM Ff,aC];dsimp only;rw[hb,aC];dsimp only;rw[zy ⟨ab,ab⟩,aC,aC,wg,yZ hi ab]
  have stay:¬KX U d i->(((i+1:Nat):Int)=((i+1:Nat):Int)/\d=d/\((r=-1/\∀j,j<i+1->¬KX U d j)∨∃k:Nat,r=k/\k<l.length/\KX U d k)):=λhn=>⟨rfl,rfl,by
   rcases h with⟨h1,h2⟩|h
   .refine .inl ⟨h1,λj hj=>?_⟩;by_cases e:j=i
    .subst e;exact hn
    .exact h2 j ab
   .exact .inr h⟩
  cases CM:d.getD i default with
  |true =>
   rw[bU,cf,aC,cf,aC];exact⟨(r,((i+1:Nat):Int),d),stay (λhr=>by rw[hr.1]at CM;cases CM),rfl⟩
  |false =>
   rw[cJ,ct]
   cases GS:b with
   |true =>
    rw[bU,cf,aC,cf,aC];exact⟨(r,((i+1:Nat):Int),d),stay (λhr=>by rw[(G7.2 hr).1]at GS;cases GS),rfl⟩
   |false =>
    have hri:=G7.1 ⟨GS,CM⟩;rw[cJ,ct]
    have take:(((i+1:Nat):Int)=((i+1:Nat):Int)/\d=d/\(((i:Int)=-1/\∀j,j<i+1->¬KX U d j)∨∃k:Nat,(i:Int)=k/\k<l.length/\KX U d k)):=⟨rfl,rfl,.inr ⟨i,rfl,hi,hri⟩⟩
    rcases h with⟨rfl,h2⟩|⟨k,rfl,hk,OL⟩
    .rw[dt ab,ct,aC,ct,aC];exact⟨((i:Int),((i+1:Nat):Int),d),take,rfl⟩
    .rw[df ab,cf,wM hi,aC,wM hk,aC,aC]
     cases Op.bytesLess (l.getD i default).aK (l.getD k default).aK with
     |true =>
      rw[ct,aC];exact⟨((i:Int),((i+1:Nat):Int),d),take,rfl⟩
     |false =>rw[cf,aC];exact⟨((k:Int),((i+1:Nat):Int),d),⟨rfl,rfl,.inr ⟨k,rfl,hk,OL⟩⟩,rfl⟩
 .obtain⟨r,a,d⟩:=q;obtain⟨e1,e2,h⟩:=h;dsimp only at e1 e2 h;subst e1 e2;exact⟨_,by rw[zH,df (by dsimp only;rw[hg.len];omega),cf],r,rfl,h⟩
def zAs{l:List Def}{U:Nat->Nat->Prop}{us:List (List Int)}(hg:Gr l.length U us)(hN:l.length<=1000)(E_:∀i,i<l.length->¬sV U i):
  ∃o:List Nat,xa l us=aY (Ke o,l,us)/\s8 l.length U o/\o.length=l.length:=by
 have key:=jq (L:=zQ l us) (s:=((0:Int),bp l.length bf,([]:List Int)))
  (λi q=>q.1=(i:Int)/\q.2.1.length=l.length/\∃o:List Nat,q.2.2=Ke o/\o.length=i/\s8 l.length U o/\∀k,k<l.length->(q.2.1.getD k default=bh↔k∈o))
  (λt=>∃o:List Nat,t=Ke o/\s8 l.length U o/\o.length=l.length) l.length ab ⟨rfl,ae,[],rfl,rfl,s8.nil,λk hk=>by dsimp only;rw[Q2 hk];simp⟩ (λK i q h hi=>.inr ?_) (λK q h=>?_)
 .obtain⟨t,h1,o,rfl,h2⟩:=key;refine⟨o,?_,h2⟩;unfold xa;rw[zy ⟨ab,ab,ab⟩,aC,wg,h1,aC]
 .obtain⟨a,d,out⟩:=q;obtain⟨e1,hd,o,e2,sY,ht,DT⟩:=h;dsimp only at e1 e2 hd DT;subst e1 e2;obtain⟨r,hr,G8⟩:=zAr hg hN hd
  have aaK:∀x,x<l.length->(KX U d x↔x ∉ o/\∀k,U x k->k∈o):=λx hx=>by
   unfold KX;rw[<- Bool.not_eq_true,DT x hx];constructor
   .rintro⟨a,b⟩;exact⟨a,λk hu=>(DT k (hg.pa _ _ hu).2).1 (b k hu)⟩
   .rintro⟨a,b⟩;exact⟨a,λk hu=>(DT k (hg.pa _ _ hu).2).2 (b k hu)⟩
  rcases G8 with⟨_,tK⟩|⟨k,rfl,hk,OL⟩
  .obtain⟨x,hx,LH,hxd⟩:=zAq hg.pa E_ (o:=o) ab;exact aQ ((aaK x hx).2 ⟨LH,hxd⟩) (tK x hx)
  .obtain⟨hko,Ly⟩:=(aaK k hk).1 OL;have nu:k<d.length:=ab;rw[zQ,dt (by dsimp only;omega),ct];dsimp only;rw[hr,aC];dsimp only;rw[zy ⟨ab,ab⟩,aC,aC,wg,zy (by unfold Ke;rw[la,bM,cM];omega),aC,yZ hi ab];refine⟨(((i+1:Nat):Int),d.set k bh,Ke o++[(k:Int)]),⟨rfl,by dsimp only;rw[cb];exact hd,o++[k],by simp[Ke],by simp[sY],ht.snoc hk hko Ly,λx hx=>?_⟩,rfl⟩;dsimp only;rw[YB nu];by_cases e:x=k
   .subst e;simp
   .rw[aN e,DT x hx];simp[e]
 .obtain⟨a,d,out⟩:=q;obtain⟨e1,hd,o,e2,sY,ht,DT⟩:=h;dsimp only at e1 e2 hd DT;subst e1 e2;exact⟨_,by rw[zQ,df ae,cf],o,rfl,ht,sY⟩
def BD:List aj:=[[97,114,101,97],[99,111,118,101,114],[102,108,111,111,114],[102,108,111,111,114,115],[104,101,105,103,104,116],[104,111,109,101,115],[114,117,110,111,102,102],[115,101,116,98,97,99,107],[116,114,97,102,102,105,99]]
def IU(l:List Def):Prop:=∀j,j<l.length->nameAt l j ∉ BD/\∀j',j'<j->nameAt l j'≠nameAt l j
def IU.N6{l:List Def}(h:IU l):Gq l:=λi k hi hk e=>by
 rcases Nat.lt_trichotomy i k with h1|h1|h1
 .exact aQ e ((h k hk).2 i h1)
 .exact h1
 .exact aQ e.symm ((h i hi).2 k h1)
omit [Fuel] in
theorem zGf(m:Nat)(hb:18446744073709551616<=m+100):@xd BD (@KK (FF m hb)) (0,[])=aY (BD.map λs=>(s,bh)):=rfl
omit [Fuel] in
theorem zGg:∀i:Fuel,@xd BD (@KK i) (0,[])=aY (BD.map λs=>(s,bh)):=by
 rintro⟨n,hb⟩
 obtain⟨m,rfl⟩:∃m,n=m+100:=⟨n-100,ab⟩
 exact zGf m hb
omit [Fuel] in
theorem zkb(s:aj):∀l:List aj,(zr s (l.map λs=>(s,bh))).getD bf=bh↔s∈l
 |[]=>by simp[zr]
 |a::l=>by
  rw[ij,zr];by_cases h:s=a
  .simp[h]
  .rw[aN h,zkb s l];simp[h]
def tv(l:List Def):Prop:=IU l/\∀i,i<l.length->¬sV (Uses l) i
def zpj{p:yp}(hN:p.aE.length<=20)(CT:HA p.aE):∃r,vZ p=aY r/\(r.2.2=0↔tv p.aE)/\(tv p.aE->∃o:List Nat,r.1=Ke o/\s8 p.aE.length (Uses p.aE) o/\o.length=p.aE.length):=by
 have key:=jq (L:=yM p) (s:=((0:Int),BD.map λs=>(s,bh)))
  (λi q=>q.1=(i:Int)/\(∀s,(zr s q.2).getD bf=bh↔s∈BD∨∃j,j<i/\nameAt p.aE j=s)/\∀j,j<i->nameAt p.aE j ∉ BD/\∀j',j'<j->nameAt p.aE j'≠nameAt p.aE j)
  (λt=>match t with|.inl r=>r=([],[],5)/\¬IU p.aE|.inr _=>IU p.aE) p.aE.length ab ⟨rfl,λs=>by dsimp only;rw[zkb];exact⟨.inl,λh=>h.elim id λ⟨j,hj,_⟩=>ab⟩,λj hj=>ab⟩ (λK i q h hi=>?_) (λK q h=>?_)
 .obtain⟨t,h1,h2⟩:=key;unfold vZ;rw[show vz=aY BD from rfl,aC,zGg,aC,h1,aC]
  cases t with
  |inl r =>
   dsimp only at h2;obtain⟨rfl,UW⟩:=h2;exact⟨_,rfl,⟨λh=>by simp at h,λh=>aQ h.1 UW⟩,λh=>aQ h.1 UW⟩
  |inr u =>
   dsimp only at h2;dsimp only;obtain⟨us,hu,hg⟩:=zmn ab h2.N6 CT;rw[hu,aC];dsimp only;obtain⟨c,hc,nD⟩:=zmp hg hN;rw[hc,aC];dsimp only
   cases B0:c with
   |cons x y =>
    have hn:¬tv p.aE:=λh=>by have:=nD.2 h.2;rw[B0]at this;cases this
    exact⟨_,rfl,⟨λh=>by simp at h,λh=>aQ h hn⟩,λh=>aQ h hn⟩
   |nil =>
    have E_:=nD.1 B0;obtain⟨o,ho,ht,hl⟩:=zAs hg ab E_;rw[iQ,bU,cf,ho,aC];exact⟨_,rfl,⟨λ_=>⟨h2,E_⟩,λ_=>rfl⟩,λ_=>⟨o,rfl,ht,hl⟩⟩
 .obtain⟨a,m⟩:=q;obtain⟨e1,hm,hp⟩:=h;dsimp only at e1 hm hp;subst e1;rw[yM,dt (by dsimp only;omega),ct,wM hi,aC,yZ hi ab];dsimp only
  cases hf:(zr (p.aE.getD i default).aK m).getD bf with
  |true =>
   rw[ct];refine .inl ⟨_,rfl,rfl,λhP=>?_⟩
   rcases(hm _).1 hf with h|⟨j,hj,h⟩
   .exact(hP i hi).1 h
   .exact(hP i hi).2 j hj h
  |false =>
   rw[cf]
   have tK:∀j,j<i->nameAt p.aE j≠nameAt p.aE i:=λj hj e=>by have:=(hm _).2 (.inr ⟨j,hj,e⟩);rw[hf]at this;cases this
   have Fj:nameAt p.aE i ∉ BD:=λe=>by have:=(hm _).2 (.inl e);rw[hf]at this;cases this
   refine .inr ⟨_,⟨rfl,λs=>?_,λj hj=>?_⟩,rfl⟩
   .dsimp only;rw[kA];by_cases hs:s=nameAt p.aE i
    .rw[aO hs];simp only[dB,true_iff];exact .inr ⟨i,ab,hs.symm⟩
    .rw[aN hs,hm s];constructor
     .rintro(h|⟨j,hj,h⟩)
      .exact .inl h
      .exact .inr ⟨j,ab,h⟩
     .rintro(h|⟨j,hj,h⟩)
      .exact .inl h
      .have:j≠i:=λe=>hs (by rw[<- h,e])
       exact .inr ⟨j,ab,h⟩
   .by_cases e:j=i
    .subst e;exact⟨Fj,tK⟩
    .exact hp j ab
 .obtain⟨a,m⟩:=q;obtain⟨e1,hm,hp⟩:=h;dsimp only at e1 hm hp;subst e1;exact⟨_,by rw[yM,df ae,cf],hp⟩
end Go.Proofs.YtogbenbghgjbiaaGreatDoor.O
set_option maxRecDepth 100000
namespace Go.Proofs.YtogbenbghgjbiaaGreatDoor
open Go Go.RowKit Go.lG Go.EV Go.EQ Go.BW O
variable[Fuel]
def Gt:18446744073709551616<=KK:=Jy (n:=18446744073709551615) ab
def zxh(op:Int):oy op=aY (pq op):=by
 unfold oy pq;by_cases h0:op=0
 .subst h0;rfl
 by_cases h1:op=1
 .subst h1;rfl
 by_cases h2:op=2
 .subst h2;rfl
 by_cases h3:op=3
 .subst h3;rfl
 by_cases h9:op=9
 .subst h9;rfl
 by_cases uQ:op=15
 .subst uQ;rfl
 by_cases tc:op=16
 .subst tc;rfl
 simp only[h0,h1,h2,h3,h9,uQ,tc,decide_false,cf,aC,or_self,if_false,ge_iff_le];cases h:decide (0<=op)<;>simp[h]
def zpk:∀(n:Nat)(e:Expr)(K:Nat),n<=12->n<K->yT K e (12-(n:Int))=aY (p8 n e)
 |0,e,K,hn,hK=>by
  obtain⟨K,rfl⟩:∃K',K=K'+1:=⟨K-1,ab⟩
  rw[yT,zxh,aC];cases (pq e.Op).2<;>cases decide ((pq e.Op).1=(e.aH.length:Int))<;>rfl
 |n+1,e,K,hn,hK=>by
  obtain⟨K,rfl⟩:∃K',K=K'+1:=⟨K-1,ab⟩
  have hd:decide ((12:Int)-((n+1:Nat):Int)>=12)=bf:=df ab;rw[yT,zxh,aC,p8,hd];by_cases h2:(pq e.Op).2=bf
  .rw[h2];rfl
  .by_cases h1:(pq e.Op).1=(e.aH.length:Int)
   .rw[aN (by rintro(h | h)<;>contradiction),iC _ |>.mp h2,dt h1];have hlen:=(Xm e.Op).2
    have key:=zdj (L:=wK (yT K) (12-((n+1:Nat):Int)) e.aH ((ba e.aH:Nat):Int)) (l:=e.aH) (λx m=>aM (yT K x (12-(n:Int))) λy=>aY (max m y)) id ab (λK' i s=>by
     rw[wK,uP (n:=12-((n+1:Nat):Int)+1) ab ab,show(12-((n+1:Nat):Int)+1)=12-(n:Int) by omega]
     cases decide (i<(e.aH.length:Int))with
     |false=>rfl
     |true =>
      simp only[ct,zD]
      cases idx e.aH i with
      |none=>rfl
      |some x =>
       simp only[aC]
       cases yT K x (12-(n:Int))<;>rfl) e.aH.length 0 KK 0 ab (by have:=Gt;omega)
    rw[foldlM_pure (λm x=>max m (p8 n x)) _ _ (λx _ m=>by rw[zpk n x K ab ab];rfl)]at key;have hb:=foldl_max (p8 n) (13+n) e.aH 0 (λx _=>RQ n x) ab;rw[show((0:Nat):Int)=0 from rfl]at key;simp only[bU,cf,aC];rw[key,de,aC,List.drop_zero,id,uP ab ab]
   .rw[aO (.inr h1),iC _ |>.mp h2,df h1];rfl
def Q3(e:Expr):qd e=aY (decide (oc e)):=by unfold qd;rw[zD];have:=zpk 12 e KK ab (by have:=Gt;omega);rw[show(12:Int)-((12:Nat):Int)=0 from rfl]at this;rw[this];rfl
def Sx(n:Int):∃k:Int,aD n=n+18446744073709551616*k:=by
 refine⟨-((n+9223372036854775808) / 18446744073709551616),?_⟩
 show IntKind.i64.wrap n=_
 rw[IntKind.wrap_i64];omega
def PS(n k:Int):aD (n+18446744073709551616*k)=aD n:=by
 show IntKind.i64.wrap _=IntKind.i64.wrap _
 rw[IntKind.wrap_i64,IntKind.wrap_i64];omega
def zAt(x y:Int):aD (aD x-y)=aD (x-y):=by obtain⟨k,hk⟩:=Sx x;rw[hk,show x+18446744073709551616*k-y=x-y+18446744073709551616*k by omega,PS]
def zAu(x y:Int):aD (x-aD y)=aD (x-y):=by obtain⟨k,hk⟩:=Sx y;rw[hk,show x-(y+18446744073709551616*k)=x-y+18446744073709551616*(-k) by omega,PS]
def aap:bD True=aY ():=rfl
def zmq(a b:Int):vn a b=aY (aD (cP a b)):=by
 unfold vn;by_cases hb:b=0
 .subst hb;simp[Int.fdiv_zero];rfl
 .simp only[hb,decide_false,cf,ne_eq,not_false_eq_true,aap,aC]
  have hd:(ew a b=0)↔b ∣ a:=⟨Int.dvd_of_tmod_eq_zero,Int.tmod_eq_zero_of_dvd⟩
  have key:cP a b=if(ew a b≠0/\((ew a b<0)↔¬b<0))then iZ a b-1 else iZ a b:=by
   rw[Int.fdiv_eq_tdiv]
   have hs:ew a b<0->a<0:=λh=>by
    by_cases ha:0<=a
    .have:=fS b ha;omega
    .omega
   have Fl:a<0->ew a b<=0:=λh=>by have h1:=fS b (a:=-a) ab;rw[Int.neg_tmod]at h1;omega
   have afY:0<b->b.sign=1:=Int.sign_eq_one_of_pos;have afZ:b<0->b.sign=-1:=Int.sign_eq_neg_one_of_neg;by_cases h0:ew a b=0
   .rw[aO (hd.1 h0),aN (λh=>h.1 h0)];omega
   .rw[aN (λh=>h0 (hd.2 h))]
    rcases Int.lt_or_gt_of_ne hb with mf|mf
    .rw[afZ mf];by_cases ha:0<=a
     .have:=fS b ha;rw[aO ha,aN (show ¬0<=b by omega),aO ⟨h0,ab⟩]
     .have:=Fl ab;rw[aN ha,aN (show ¬0<=b by omega),aN (λh=>by have:=h.2;omega)];omega
    .rw[afY mf];by_cases ha:0<=a
     .have:=fS b ha;rw[aO ha,aO (show 0<=b by omega),aN (λh=>by have:=h.2;omega)];omega
     .have:=Fl ab;rw[aN ha,aO (show 0<=b by omega),aO ⟨h0,ab⟩]
  rw[key];by_cases h0:ew a b=0
  .rw[aN (λh=>h.1 h0)];simp[h0,aap]
  .by_cases h1:(ew a b<0↔¬b<0)
   .rw[aO ⟨h0,h1⟩]
    have:(decide (ew a b<0)==decide (b<0))=bf:=by by_cases h2:b<0<;>simp[h2]at h1 ⊢<;>omega
    simp only[h0,decide_false,cJ,ct,this,aC];rw[zAt]
   .rw[aN (λh=>h1 h.2)]
    have:(decide (ew a b<0)==decide (b<0))=bh:=by by_cases h2:b<0<;>simp[h2]at h1 ⊢<;>omega
    simp only[h0,decide_false,cJ,ct,this,bU,cf,aC]
def Dd(b:Bool):Int:=bif b then 1 else 0
def Sy(b:Bool):wa b=aY (Dd b):=by cases b<;>rfl
def SI(op a b:Int):Int:=
 if op=4 then aD (a+b)else if op=5 then aD (a-b)else if op=6 then aD (a*b)else if op=7 then aD (cP a b)else if op=8 then(if b=0 then 0 else aD (lz a b))else if op=10 then Dd (decide (a=b))else if op=11 then Dd (decide (a<b))else if op=12 then Dd (decide (a<=b))else if op=13 then Dd (!decide (a=0)&&!decide (b=0))else Dd (!decide (a=0)||!decide (b=0))
def zxk(op a b:Int):ui op a b=aY (SI op a b):=by
 unfold ui SI;simp only[zmq,Sy,aC];by_cases h4:op=4
 .simp[h4]
 by_cases h5:op=5
 .simp[h5]
 by_cases h6:op=6
 .simp[h6]
 by_cases h7:op=7
 .simp[h7]
 by_cases h8:op=8
 .by_cases hb:b=0
  .simp[h8,hb]
  .simp only[h8,hb]
   have:aD (a-aD (aD (cP a b)*b))=aD (lz a b):=by
    rw[zAu];obtain⟨k,hk⟩:=Sx (cP a b);have h:=Int.mul_fdiv_add_fmod a b;rw[hk,Int.add_mul,show a-(cP a b*b+18446744073709551616*k*b)=lz a b+18446744073709551616*(-(k*b)) by rw[Int.mul_comm (cP a b) b,Int.mul_assoc];omega,PS]
   simp[this]
 by_cases pW:op=10
 .simp[pW]
 by_cases pX:op=11
 .simp[pX]
 by_cases tG:op=12
 .simp[tG]
 by_cases rE:op=13
 .by_cases ha:a=0<;>simp[rE,ha]
 .by_cases ha:a=0<;>simp[h4,h5,h6,h7,h8,pW,pX,tG,rE,ha]
def tQ(s9:List ar)(s key:aj):Int:=
 match KL.get ar.aK s s9 with
 |none=>0
 |some t=>((KL.get av.aK key t.Rows).map av.N).getD t.nU
def FV(s9:List ar):Prop:=s9.length<=1000/\∀t∈s9,t.Rows.length<=1000
def zL3{c0:List Def}{T:List ar}{c2:List zF}{c3:List za}{c4:List a_}{c5:List au}{c6:List zj}{c7:Int}(hp:FV T)(known:List (aj×Int))(zs:List aj)(e:Expr):wX c0 T c2 c3 c4 c5 c6 c7 known zs e=aY (tQ T e.S e.Key):=by
 have h1:=hp.1;unfold wX vl tQ;rw[we T (λx=>decide (x.aK=e.S)) (ya e.Op e.N e.S e.Key e.aH T ((ba T:Nat):Int)) ab (λK i x hx=>by rw[ya,jZ hx,ct,yP hx,aC,yQ (by have:=jc hx;omega)];rfl) (λK=>by rw[ya,xy];rfl),aC,PJ,<- YA]
 cases h:uk (λx:ar=>decide (x.aK=e.S)) T with
 |none=>rfl
 |some i =>
  obtain⟨x,hx,_⟩:=Iw h;have h2:=hp.2 x (bW hx);rw[gq,cf,aC,hx,xC,yP hx,aC];unfold vm;rw[we x.Rows (λx=>decide (x.aK=e.Key)) (yb e.Op e.N e.S e.Key e.aH x.Rows ((ba x.Rows:Nat):Int)) ab (λK i y hy=>by rw[yb,jZ hy,ct,yP hy,aC,yQ (by have:=jc hy;omega)];rfl) (λK=>by rw[yb,xy];rfl),aC];exact RN
def zpl{v:aj}:∀{l:List aj},(uk (λx=>decide (v=x)) l).isSome=decide (v∈l)
 |[]=>rfl
 |x::l=>by
  rw[uk];by_cases h:v=x
  .rw[dt h,ct,dt (by rw[h];exact ak)];rfl
  .rw[df h,cf,iI,zpl];exact jb (by simp[h])
def zmr{s:List aj}{v:aj}(hs:s.length<=1000000):zU s v=aY (decide (v∈s)):=by unfold zU yS;rw[we s (λx=>decide (v=x)) (zx s v ((ba s:Nat):Int)) ab (λK i y hy=>by rw[zx,jZ hy,ct,yP hy,aC,yQ (by have:=jc hy;omega)]) (λK=>by rw[zx,xy];rfl),aC,L',zpl]
def BJ{v:List Int}{i:Nat}(h:i<v.length):v[i]?=aY (v.getD i default):=by rw[bB,bA h];rfl
def Ww{x:aj}:∀{l:List Expr},x∈xA l↔∃a∈l,x∈zJ a
 |[]=>by simp[xA]
 |a::r=>by rw[xA,bJ,Ww];simp
def rz(look:aj->Int)(row:aj->aj->Int)(mV:aj->Bool):Nat->Expr->Int
 |0,_=>0
 |n+1,e =>
  if e.Op=0 then e.N else if e.Op=1 then look e.S else if e.Op=2 then row e.S e.Key else if e.Op=3 then Dd (mV e.S)
  else if e.Op=9 then aD (0-rz look row mV n (e.aH.getD 0 default))
  else if e.Op=15 then Dd (decide (rz look row mV n (e.aH.getD 0 default)=0))
  else if e.Op=16 then(if rz look row mV n (e.aH.getD 0 default)=0 then rz look row mV n (e.aH.getD 2 default)else rz look row mV n (e.aH.getD 1 default))
  else SI e.Op (rz look row mV n (e.aH.getD 0 default)) (rz look row mV n (e.aH.getD 1 default))
def zf1:zJ (default:Expr)=[]:=by
 show zJ ⟨0,0,[],[],[]⟩=[]
 simp[zJ,xA]
def zxl{e:Expr}{i:Nat}{s:aj}(h:s∈zJ (e.aH.getD i default)):s∈zJ e:=by
 by_cases hi:i<e.aH.length
 .rw[HV,bJ,Ww];exact .inr ⟨_,jY hi,h⟩
 .rw[bB,dQ ab]at h;have:s∈zJ (default:Expr):=h;rw[zf1]at this;cases this
def AG{look look':aj->Int}{row:aj->aj->Int}{mV:aj->Bool}:∀(n:Nat)(e:Expr),(∀s∈zJ e,look s=look' s)->rz look row mV n e=rz look' row mV n e
 |0,_,_=>rfl
 |n+1,e,h=>by
  have ih:∀i,rz look row mV n (e.aH.getD i default)=rz look' row mV n (e.aH.getD i default):=λi=>AG n _ λs hs=>h s (zxl hs)
  rw[rz,rz,ih,ih,ih];by_cases o1:e.Op=1
  .have:look e.S=look' e.S:=h _ (by rw[HV,aO o1];simp);rw[this]
  .simp only[o1,if_false]
def zAv{rc:(List Def)->(List ar)->(List zF)->(List za)->(List a_)->(List au)->(List zj)->Int->List (aj×Int)->List aj->Expr->Option Int}{p:yp}{known:List (aj×Int)}{z:List aj}{e:Expr}{W:Expr->Int}(hx:∀x∈e.aH,rc p.aE p.Tables p.aA p.aB p.aI p.aF p.aJ p.aG known z x=aY (W x))(hl:e.aH.length<=3):
  ∃v,zB rc known e.aH ((ba e.aH:Nat):Int) p.aE p.Tables p.aA p.aB p.aI p.aF p.aJ p.aG z e.Op e.N e.S e.Key KK (0,[])=aY v/\v.length=e.aH.length/\(0<e.aH.length->v.getD 0 default=W (e.aH.getD 0 default))/\(1<e.aH.length->(e.Op=16->W (e.aH.getD 0 default)≠0)->v.getD 1 default=W (e.aH.getD 1 default))/\(2<e.aH.length->(e.Op=16->W (e.aH.getD 0 default)=0)->v.getD 2 default=W (e.aH.getD 2 default)):=by
 have key:=jq (L:=zB rc known e.aH ((ba e.aH:Nat):Int) p.aE p.Tables p.aA p.aB p.aI p.aF p.aJ p.aG z e.Op e.N e.S e.Key) (s:=((0:Int),([]:List Int)))
  (λi q=>q.1=(i:Int)/\q.2.length=i/\(0<i->q.2.getD 0 default=W (e.aH.getD 0 default))/\(1<i->(e.Op=16->W (e.aH.getD 0 default)≠0)->q.2.getD 1 default=W (e.aH.getD 1 default))/\(2<i->(e.Op=16->W (e.aH.getD 0 default)=0)->q.2.getD 2 default=W (e.aH.getD 2 default)))
  (λv=>v.length=e.aH.length/\(0<e.aH.length->v.getD 0 default=W (e.aH.getD 0 default))/\(1<e.aH.length->(e.Op=16->W (e.aH.getD 0 default)≠0)->v.getD 1 default=W (e.aH.getD 1 default))/\(2<e.aH.length->(e.Op=16->W (e.aH.getD 0 default)=0)->v.getD 2 default=W (e.aH.getD 2 default))) e.aH.length ab ⟨rfl,rfl,λh=>ab,λh=>ab,λh=>ab⟩ (λK i q h hi=>.inr ?_) (λK q h=>?_)
 .exact key
 .obtain⟨a,v⟩:=q;obtain⟨e1,h1,h2,h3,h4⟩:=h;dsimp only at e1 h1 h2 h3 h4;subst e1
  have hg:∀y:Int,bD ((v++[y]).length*8<=140737488355328)=aY ():=λy=>zy (by rw[la,cM];omega)
  have hy:=hx _ (jY hi);rw[zB,dt (by dsimp only;omega),ct,wM hi,aC];dsimp only;rw[zD]
  have step:∀y:Int,(i=0->y=W (e.aH.getD 0 default))->(i=1->(e.Op=16->W (e.aH.getD 0 default)≠0)->y=W (e.aH.getD 1 default))->(i=2->(e.Op=16->W (e.aH.getD 0 default)=0)->y=W (e.aH.getD 2 default)) ->
    ∃s':Int×List Int,(s'.1=((i+1:Nat):Int)/\s'.2.length=i+1/\(0<i+1->s'.2.getD 0 default=W (e.aH.getD 0 default))/\(1<i+1->(e.Op=16->W (e.aH.getD 0 default)≠0)->s'.2.getD 1 default=W (e.aH.getD 1 default))/\(2<i+1->(e.Op=16->W (e.aH.getD 0 default)=0)->s'.2.getD 2 default=W (e.aH.getD 2 default)))/\(zB rc known e.aH ((ba e.aH:Nat):Int) p.aE p.Tables p.aA p.aB p.aI p.aF p.aJ p.aG z e.Op e.N e.S e.Key) K ((((i+1:Nat):Int)),v++[y])=(zB rc known e.aH ((ba e.aH:Nat):Int) p.aE p.Tables p.aA p.aB p.aI p.aF p.aJ p.aG z e.Op e.N e.S e.Key) K s':=λy adF y1 y2=>by
   refine⟨((((i+1:Nat):Int)),v++[y]),⟨rfl,by dsimp only;rw[la,cM,h1],λ_=>?_,λUI hc=>?_,λhi2 hc=>?_⟩,rfl⟩
   .dsimp only;rw[PR];by_cases e0:i=0
    .rw[aN ab,aO ab];exact adF e0
    .rw[aO ab];exact h2 ab
   .dsimp only;rw[PR];by_cases e0:i=1
    .rw[aN ab,aO ab];exact y1 e0 hc
    .rw[aO ab];exact h3 ab hc
   .dsimp only;rw[PR];by_cases e0:i=2
    .rw[aN ab,aO ab];exact y2 e0 hc
    .rw[aO ab];exact h4 ab hc
  have normal:=step (W (e.aH.getD i default)) (λh=>by rw[h]) (λh _=>by rw[h]) (λh _=>by rw[h]);by_cases ho:e.Op=16
  .rw[dt ho,ct];by_cases DW:i=0
   .rw[df ab,cf,aC,cf,hy,aC,hg,aC,aC,yZ hi ab];exact normal
   .rw[dt ab,ct,zy ⟨ab,ab⟩,aC,show bj 0=0 from rfl,BJ ab,h2 ab,aC,aC,yZ hi ab]
    cases hb:(!((!(decide (W (e.aH.getD 0 default)=0)))==(decide ((i:Int)=1))))with
    |false=>rw[cf,hy,aC,hg,aC,aC];exact normal
    |true =>
     rw[ct,hg,aC,aC];refine step 0 (λh=>aQ h DW) (λh hc=>?_) (λh hc=>?_)
     .exfalso;rw[df (hc ho),dt ab]at hb;cases hb
     .exfalso;rw[dt (hc ho),df ab]at hb;cases hb
  .rw[df ho,cf,aC,cf,hy,aC,hg,aC,aC,yZ hi ab];exact normal
 .obtain⟨a,v⟩:=q;obtain⟨e1,h⟩:=h;dsimp only at e1 h;subst e1;exact⟨v,by rw[zB,df ae,cf],h⟩
def YD{p:yp}(hp:FV p.Tables){known:List (aj×Int)}{zs:List aj}(hz:zs.length<=1000):∀(n:Nat)(e:Expr)(K:Nat),n<=12->n<K->p8 n e<=n ->
  zL K p.aE p.Tables p.aA p.aB p.aI p.aF p.aJ p.aG known zs e=aY (rz (λs=>(zr s known).getD 0) (tQ p.Tables) (λs=>decide (s∈zs)) n e)
 |0,e,K,_,_,h=>by simp[p8]at h
 |n+1,e,K,hn,hK,h=>by
  obtain⟨K,rfl⟩:∃K',K=K'+1:=⟨K-1,ab⟩
  obtain⟨h1,h2,h3⟩:=zAl ab h;have h4:=(Xm e.Op).2;obtain⟨v,hv,hl,v0,v1,v2⟩:=zAv (rc:=zL K) (p:=p) (known:=known) (z:=zs) (e:=e) (W:=rz (λs=>(zr s known).getD 0) (tQ p.Tables) (λs=>decide (s∈zs)) n) (λx hx=>YD hp hz n x K ab ab (h3 x hx)) ab;rw[zL,hv,aC,zD,zL3 hp,zmr ab,rz];by_cases o0:e.Op=0
  .rw[dt o0,aO o0];rfl
  by_cases o1:e.Op=1
  .rw[df o0,dt o1,aN o0,aO o1];rfl
  by_cases o2:e.Op=2
  .rw[df o0,df o1,dt o2,aN o0,aN o1,aO o2];rfl
  by_cases o3:e.Op=3
  .rw[df o0,df o1,df o2,dt o3,aN o0,aN o1,aN o2,aO o3];simp only[Sy,aC,ct,cf]
  have g0:(pq e.Op).1>=1->bD (0<=(0:Int)/\(0:Int)<((v).length:Nat))=aY ():=λh=>zy ⟨ab,ab⟩
  have g1:(pq e.Op).1>=2->bD (0<=(1:Int)/\(1:Int)<((v).length:Nat))=aY ():=λh=>zy ⟨ab,ab⟩
  have g2:(pq e.Op).1>=3->bD (0<=(2:Int)/\(2:Int)<((v).length:Nat))=aY ():=λh=>zy ⟨ab,ab⟩
  rw[df o0,df o1,df o2,df o3,aN o0,aN o1,aN o2,aN o3];by_cases o9:e.Op=9
  .have ha:(pq e.Op).1=1:=by rw[o9];rfl
   rw[dt o9,g0 ab,aO o9];simp only[aC,ct,cf];rw[show bj 0=0 from rfl,BJ ab,aC,v0 ab]
  by_cases Ef:e.Op=15
  .have ha:(pq e.Op).1=1:=by rw[Ef];rfl
   rw[df o9,dt Ef,g0 ab,aN o9,aO Ef];simp only[Sy,aC,ct,cf];rw[show bj 0=0 from rfl,BJ ab,aC,v0 ab]
  by_cases Eg:e.Op=16
  .have ha:(pq e.Op).1=3:=by rw[Eg];rfl
   rw[df o9,df Ef,dt Eg,g0 ab,g1 ab,g2 ab,aN o9,aN Ef,aO Eg];simp only[aC,ct,cf];rw[show bj 0=0 from rfl,show bj 1=1 from rfl,show bj 2=2 from rfl,BJ (v:=v) (i:=0) ab,aC,v0 ab];by_cases tk:rz (λs=>(zr s known).getD 0) (tQ p.Tables) (λs=>decide (s∈zs)) n (e.aH.getD 0 default)=0
   .rw[dt tk,aO tk,<- v2 ab λ_=>tk,BJ (v:=v) (i:=2) ab];rfl
   .rw[df tk,aN tk,<- v1 ab λ_=>tk,BJ (v:=v) (i:=1) ab];rfl
  have ha:(pq e.Op).1=2:=by unfold pq;rw[aN ab,aN ab,aN Eg]
  rw[df o9,df Ef,df Eg,g0 ab,g1 ab,aN o9,aN Ef,aN Eg];simp only[aC,ct,cf];rw[show bj 0=0 from rfl,show bj 1=1 from rfl,BJ (v:=v) (i:=0) ab,BJ (v:=v) (i:=1) ab];simp only[aC];rw[zxk,aC,v0 ab,v1 ab λh=>aQ h Eg]
end Go.Proofs.YtogbenbghgjbiaaGreatDoor
set_option maxRecDepth 100000
namespace Go.BW
def zpm{N:Nat}{U:Nat->Nat->Prop}{o:List Nat}(h:s8 N U o)(hl:o.length=N){k:Nat}(hk:k<N):k∈o:=Classical.byContradiction λhn=>by
 have:=Rk N (k::o) (cA.2 ⟨hn,h.nodup⟩) λx hx=>by
  rcases bu.1 hx with rfl|hx
  .exact hk
  .exact h.lt x hx
 rw[lc]at this;omega
def QM{o:List Nat}{j k:Nat}(h:k∈o.take j):∃i,i<j/\i<o.length/\k=o.getD i default:=by obtain⟨i,hi,e⟩:=ic.1 h;rw[bY]at hi;refine⟨i,ab,ab,?_⟩;rw[List.getElem_take]at e;rw[<- e,bB,bA ab];rfl
def zkc{o:List Nat}{i j k:Nat}(h:k∈o.take i)(tg:i<=j):k∈o.take j:=by
 have:o.take i=(o.take j).take i:=by rw[List.take_take];congr 1;omega
 rw[this]at h;exact List.mem_of_mem_take h
def zAw{o:List Nat}{j:Nat}(hn:o.Nodup)(hj:j<o.length):o.getD j default ∉ o.take j:=by intro h;obtain⟨i,hi,pf,e⟩:=QM h;rw[bB,bB,bA hj,bA pf]at e;have:=(List.getElem_inj hn).1 (show o[j]=o[i] from e);omega
end Go.BW
namespace Go.Proofs.YtogbenbghgjbiaaGreatDoor
open Go Go.RowKit Go.lG Go.EV Go.EQ Go.BW O
variable[Fuel]
def zxm{α:Type}[Inhabited α]{p:α->Bool}:∀{l:List α}{i:Nat},i<l.length->p (l.getD i default)=bh->(∀j,j<i->p (l.getD j default)=bf)->l.find? p=aY (l.getD i default)
 |[],i,h,_,_=>by simp at h
 |x::l,0,_,h,_=>by
  have:p x=bh:=h;rw[fR,this];rfl
 |x::l,i+1,h,h1,h2=>by
  have:p x=bf:=h2 0 ab;rw[fR,this]
  have:=zxm (p:=p) (l:=l) (i:=i) (by simpa using h) (by simpa using h1) λj hj=>by simpa using h2 (j+1) ab
  simpa using this
def jD(ms:List av)(s:aj):Option Int:=(ms.find? λm=>decide (m.aK=s)).map (·.N)
def WT(l:List Def)(s:aj):Option Nat:=(dn l.length).find? λk=>decide (nameAt l k=s)
def Hr(l:List Def)(ms:List av)(V:Nat->Int)(s:aj):Int:=
 match jD ms s with
 |some v=>v
 |none=>match WT l s with
  |some k=>V k
  |none=>0
def rhs(p:yp)(ms:List av)(zs:List aj)(V:Nat->Int)(k:Nat):Int:=
 if oc (p.aE.getD k default).Body then rz (Hr p.aE ms V) (tQ p.Tables) (λs=>decide (s∈zs)) 12 (p.aE.getD k default).Body else 0
def CF(p:yp)(ms:List av)(zs:List aj)(V:Nat->Int):Prop:=∀k,k<p.aE.length->V k=rhs p ms zs V k
def V6{N k:Nat}(h:k<N):(dn N).getD k default=k:=by rw[Hg (by simpa using h)];simp
def zpn{l:List Def}(hd:Gq l){k:Nat}(hk:k<l.length):WT l (nameAt l k)=aY k:=by
 unfold WT
 have h:=zxm (p:=λj=>decide (nameAt l j=nameAt l k)) (l:=dn l.length) (i:=k) (by simpa using hk) (by rw[V6 hk];simp) λj hj=>by rw[V6 ab,aW];intro e;have:=hd j k ab hk e;omega
 rw[h,V6 hk]
def AI{l:List Def}{s:aj}{k:Nat}(h:WT l s=aY k):k<l.length/\nameAt l k=s:=by unfold WT at h;have h1:=List.mem_of_find?_eq_some h;have h2:=List.find?_some h;exact⟨by simpa using h1,aX h2⟩
def PT{p:yp}{ms:List av}{zs:List aj}{V V':Nat->Int}{k:Nat}(hk:k<p.aE.length)(h:∀k',Uses p.aE k k'->V k'=V' k'):rhs p ms zs V k=rhs p ms zs V' k:=by
 unfold rhs;rw[AG 12 (p.aE.getD k default).Body (look:=Hr p.aE ms V) (look':=Hr p.aE ms V') λs hs=>?_];unfold Hr
 cases jD ms s with
 |some v=>rfl
 |none =>
  cases hx:WT p.aE s with
  |none=>rfl
  |some k' =>obtain⟨h1,h2⟩:=AI hx;exact h k' ⟨hk,h1,by rw[h2];exact hs⟩
def zdn{p:yp}{ms:List av}{zs:List aj}{o:List Nat}(ht:s8 p.aE.length (Uses p.aE) o)(hl:o.length=p.aE.length){V V':Nat->Int}(h:CF p ms zs V)(h':CF p ms zs V'):∀k,k<p.aE.length->V k=V' k:=by
 have key:∀j,∀k∈o.take j,V k=V' k:=by
  intro j
  induction j with
  |zero=>intro k hk;simp at hk
  |succ j ih =>
   intro k hk;obtain⟨i,hi,pf,rfl⟩:=QM hk;have D4:o.getD i default<p.aE.length:=ht.lt _ (jY pf);rw[h _ D4,h' _ D4]
   exact PT D4 λk' hu=>ih k' (zkc (ht.dep i pf k' hu) ab)
 intro k hk;have:=key o.length k (by rw[eh];exact zpm ht hl hk);exact this
def zdo(l:List av)(x:av)(s:aj):jD (l++[x]) s=match jD l s with|some v=>aY v|none=>if x.aK=s then aY x.N else bg:=by
 unfold jD;rw[List.find?_append]
 cases l.find? λm=>decide (m.aK=s)with
 |some y=>rfl
 |none =>
  rw[Option.none_or,fR];by_cases h:x.aK=s
  .rw[dt h,aO h];rfl
  .rw[df h,aN h];rfl
def zGh{p:yp}{zs:List aj}{ms:List av}(hm:ms.length<=1000):∃own known,yN ms ((ba ms:Nat):Int) p.aE p.Tables p.aA p.aB p.aI p.aF p.aJ p.aG zs KK (0,0,[],[])=aY (0,own,known)/\∀s,(zr s own).getD bf=(jD ms s).isSome/\zr s known=jD ms s:=by
 have key:=jq (L:=yN ms ((ba ms:Nat):Int) p.aE p.Tables p.aA p.aB p.aI p.aF p.aJ p.aG zs) (s:=((0:Int),(0:Int),([]:List (aj×Bool)),([]:List (aj×Int))))
  (λi q=>q.1=(i:Int)/\q.2.1=0/\∀s,(zr s q.2.2.1).getD bf=(jD (ms.take i) s).isSome/\zr s q.2.2.2=jD (ms.take i) s)
  (λt=>t.1=0/\∀s,(zr s t.2.1).getD bf=(jD ms s).isSome/\zr s t.2.2=jD ms s) ms.length ab ⟨rfl,rfl,λs=>⟨rfl,rfl⟩⟩ (λK i q h hi=>.inr ?_) (λK q h=>?_)
 .obtain⟨⟨z,own,known⟩,h1,h0,h2⟩:=key;dsimp only at h0;subst h0;exact⟨own,known,h1,h2⟩
 .obtain⟨a,z,own,known⟩:=q;obtain⟨e1,e2,h⟩:=h;dsimp only at e1 e2 h;subst e1 e2
  have ht:ms.take (i+1)=ms.take i++[ms.getD i default]:=by rw[Hg hi,fc]
  rw[yN,dt (by dsimp only;omega),ct,wM hi,aC];dsimp only;rw[yZ hi ab];obtain⟨ho,hk⟩:=h (ms.getD i default).aK
  cases hb:(zr (ms.getD i default).aK own).getD bf with
  |true =>
   rw[bU,cf,aC];refine⟨(((i+1:Nat):Int),0,own,known),⟨rfl,rfl,λs=>?_⟩,rfl⟩;dsimp only;rw[ht,zdo,(h s).1,(h s).2]
   cases Bv:jD (ms.take i) s with
   |some v=>exact⟨rfl,rfl⟩
   |none =>
    have lD:(ms.getD i default).aK≠s:=λe=>by rw[hb,e,Bv]at ho;cases ho
    dsimp only;rw[aN lD];exact⟨rfl,rfl⟩
  |false =>
   rw[cJ,ct,aC];refine⟨(((i+1:Nat):Int),0,vW (ms.getD i default).aK bh own,vW (ms.getD i default).aK (ms.getD i default).N known),⟨rfl,rfl,λs=>?_⟩,rfl⟩;dsimp only;rw[ht,zdo,kA,kA];by_cases e:s=(ms.getD i default).aK
   .have Bv:jD (ms.take i) s=bg:=by
     rw[hb,<- e]at ho
     cases h3:jD (ms.take i) s with
     |none=>rfl
     |some v=>rw[h3]at ho;cases ho
    rw[aO e,aO e,Bv];dsimp only;rw[aO e.symm];exact⟨rfl,rfl⟩
   .rw[aN e,aN e,(h s).1,(h s).2]
    cases Bv:jD (ms.take i) s with
    |some v=>exact⟨rfl,rfl⟩
    |none =>dsimp only;rw[aN (Ne.symm e)];exact⟨rfl,rfl⟩
 .obtain⟨a,z,own,known⟩:=q;obtain⟨e1,e2,h⟩:=h;dsimp only at e1 e2 h;subst e1 e2;rw[eh]at h;exact⟨((0:Int),own,known),by rw[yN,df ae,cf],rfl,h⟩
def Wx(l:List Def)(ms:List av)(V:Nat->Int)(done:List Nat)(s:aj):Option Int:=
 match jD ms s with
 |some v=>aY v
 |none=>match WT l s with
  |some k=>if k∈done then aY (V k)else bg
  |none=>bg
def zGi{p:yp}{ms:List av}{zs:List aj}(hN:p.aE.length<=1000)(hd:Gq p.aE)(hp:FV p.Tables)(hz:zs.length<=1000){o:List Nat}(ht:s8 p.aE.length (Uses p.aE) o)(sY:o.length=p.aE.length)
  {own:List (aj×Bool)} {TM:List (aj×Int)} (h0:∀s,(zr s own).getD bf=(jD ms s).isSome/\zr s TM=jD ms s) (z:Int):
  ∃out known,yO (Ke o) ((ba (Ke o):Nat):Int) p.aE p.Tables p.aA p.aB p.aI p.aF p.aJ p.aG z zs own KK (0,bp p.aE.length 0,TM)=aY (out,known)/\out.length=p.aE.length/\∃V,(∀k,k<p.aE.length->out.getD k default=V k)/\CF p ms zs V/\∀s,(zr s known).getD 0=Hr p.aE ms V s:=by
 have mv:(Ke o).length=p.aE.length:=by unfold Ke;rw[bM,sY]
 have key:=jq (L:=yO (Ke o) ((ba (Ke o):Nat):Int) p.aE p.Tables p.aA p.aB p.aI p.aF p.aJ p.aG z zs own) (s:=((0:Int),bp p.aE.length (0:Int),TM))
  (λj q=>q.1=(j:Int)/\q.2.1.length=p.aE.length/\∃V,(∀k,k<p.aE.length->q.2.1.getD k default=if k∈o.take j then V k else 0)/\(∀s,zr s q.2.2=Wx p.aE ms V (o.take j) s)/\∀k∈o.take j,V k=rhs p ms zs V k)
  (λt=>t.1.length=p.aE.length/\∃V,(∀k,k<p.aE.length->t.1.getD k default=V k)/\CF p ms zs V/\∀s,(zr s t.2).getD 0=Hr p.aE ms V s) p.aE.length ab
  ⟨rfl,ae,λ_=>0,λk hk=>by dsimp only;rw[Q2 hk];simp,λs=>by
   dsimp only;rw[(h0 s).2,fA];unfold Wx
   cases jD ms s with
   |some v=>rfl
   |none=>cases WT p.aE s<;>simp,λk hk=>by simp at hk⟩ (λK j q h hj=>.inr ?_) (λK q h=>?_)
 .obtain⟨⟨out,known⟩,h1,h2⟩:=key;exact⟨out,known,h1,h2⟩
 .obtain⟨a,out,known⟩:=q;obtain⟨e1,lZ,V,hV,y0,heq⟩:=h;dsimp only at e1 lZ hV y0;subst e1;have G0:j<o.length:=ab;have DZ:j<(Ke o).length:=ab
  have hx:(Ke o).getD j default=((o.getD j default:Nat):Int):=by rw[bB,bB];unfold Ke;rw[List.getElem?_map,bA G0];rfl
  have Fo:o.getD j default<p.aE.length:=ht.lt _ (jY G0);have O0:=zAw ht.nodup G0
  have B9:o.take (j+1)=o.take j++[o.getD j default]:=by rw[Hg G0,fc]
  have SU:=ht.dep j G0;generalize o.getD j default=x at hx Fo O0 B9 SU;have LH:x<out.length:=ab
  have TD:∀s∈zJ (p.aE.getD x default).Body,(zr s known).getD 0=Hr p.aE ms V s:=λs hs=>by
   rw[y0 s];unfold Wx Hr
   cases jD ms s with
   |some v=>rfl
   |none =>
    cases GV:WT p.aE s with
    |none=>rfl
    |some k =>
     obtain⟨h1,h2⟩:=AI GV;have:=SU k ⟨Fo,h1,by rw[h2];exact hs⟩;dsimp only;rw[aO this];rfl
  -- the values with the new one
  have SR:∀k∈o.take j,(if k=x then rhs p ms zs V x else V k)=V k:=λk hk=>aN λ(e:k=x)=>O0 (by rw[<- e];exact hk)
  have D8:rhs p ms zs (λk=>if k=x then rhs p ms zs V x else V k) x=rhs p ms zs V x:=PT Fo λk' hu=>SR k' (SU k' hu)
  have aaA:∀k∈o.take (j+1),(if k=x then rhs p ms zs V x else V k)=rhs p ms zs (λk=>if k=x then rhs p ms zs V x else V k) k:=λk hk=>by
   rw[B9]at hk
   rcases bJ.1 hk with hk|hk
   .rw[SR k hk,heq k hk];obtain⟨i,hi,pf,rfl⟩:=QM hk
    exact PT (ht.lt _ (jY pf)) λk' hu=>(SR k' (zkc (ht.dep i pf k' hu) ab)).symm
   .rw[b_.1 hk,aO rfl,D8]
  rw[yO,dt (by dsimp only;omega),ct];dsimp only;rw[wM DZ,aC,hx,wM Fo,aC,zD,Q3,aC,yZ hj ab]
  have aiz:∃tV,((bif decide (oc (p.aE.getD x default).Body)then(zL KK p.aE p.Tables p.aA p.aB p.aI p.aF p.aJ p.aG known zs (p.aE.getD x default).Body).bind λy3=>aM (bD (0<=(x:Int)/\(x:Int)<((out).length:Nat))) λ_=>aM ((out)[(bj (x:Int))]?) λ_=>aY (cD out (bj (x:Int)) y3)else aY out))=aY tV/\tV.length=p.aE.length/\∀k,k<p.aE.length->tV.getD k default=if k∈o.take (j+1)then(if k=x then rhs p ms zs V x else V k)else 0:=by
   by_cases hr:oc (p.aE.getD x default).Body
   .rw[dt hr,ct,YD hp hz 12 _ KK ab (by have:=Gt;omega) hr,aC,zy ⟨ab,ab⟩,aC,wg,BJ LH,aC];refine⟨_,rfl,by rw[cb];exact lZ,λk hk=>?_⟩;rw[YB LH,B9];by_cases e:k=x
    .subst e;rw[aO rfl,aO ae,aO rfl];unfold rhs;rw[aO hr];exact AG 12 _ TD
    .rw[aN e,aN e,hV k hk];simp[e]
   .rw[df hr,cf];refine⟨out,rfl,lZ,λk hk=>?_⟩;rw[B9,hV k hk];by_cases e:k=x
    .subst e;rw[aN O0,aO ae,aO rfl];unfold rhs;rw[aN hr]
    .rw[aN e];simp[e]
  obtain⟨tV,ho1,G4,OQ⟩:=aiz;rw[ho1,aC]
  have hox:tV.getD x default=rhs p ms zs V x:=by rw[OQ x Fo,B9,aO ae,aO rfl]
  have aaF:∀s,s≠nameAt p.aE x∨jD ms s≠bg->Wx p.aE ms V (o.take j) s=Wx p.aE ms (λk=>if k=x then rhs p ms zs V x else V k) (o.take (j+1)) s:=λs hs=>by
   unfold Wx
   cases Bv:jD ms s with
   |some v=>rfl
   |none =>
    have LF:s≠nameAt p.aE x:=hs.elim id λh=>aQ Bv h
    cases GV:WT p.aE s with
    |none=>rfl
    |some k =>
     obtain⟨h1,h2⟩:=AI GV
     have UO:k≠x:=λe=>LF (by rw[<- h2,e])
     dsimp only;rw[B9,aN UO];simp[UO]
  cases hb:(zr (p.aE.getD x default).aK own).getD bf with
  |true =>
   rw[bU,cf,aC];refine⟨(((j+1:Nat):Int),tV,known),⟨rfl,G4,_,OQ,λs=>?_,aaA⟩,rfl⟩;dsimp only;rw[y0 s];refine aaF s ?_;by_cases e:s=nameAt p.aE x
   .right;intro Bv;have:=(h0 (nameAt p.aE x)).1;rw[show(zr (nameAt p.aE x) own).getD bf=bh from hb,<- e,Bv]at this;cases this
   .exact .inl e
  |false =>
   rw[cJ,ct,zy ⟨ab,ab⟩,aC,wg,BJ ab,aC,hox,aC];refine⟨(((j+1:Nat):Int),tV,vW (p.aE.getD x default).aK (rhs p ms zs V x) known),⟨rfl,G4,_,OQ,λs=>?_,aaA⟩,rfl⟩;dsimp only;rw[kA];by_cases e:s=nameAt p.aE x
   .have Bv:jD ms s=bg:=by
     have:=(h0 (nameAt p.aE x)).1;rw[show(zr (nameAt p.aE x) own).getD bf=bf from hb,<- e]at this
     cases h3:jD ms s with
     |none=>rfl
     |some v=>rw[h3]at this;cases this
    rw[aO e];unfold Wx;rw[Bv,e,zpn hd Fo];dsimp only;rw[B9,aO ae,aO rfl]
   .rw[aN e,y0 s];exact aaF s (.inl e)
 .obtain⟨a,out,known⟩:=q;obtain⟨e1,lZ,V,hV,y0,heq⟩:=h;dsimp only at e1 lZ hV y0;subst e1
  have nF:∀k,k<p.aE.length->k∈o.take p.aE.length:=λk hk=>by rw[<- sY,eh];exact zpm ht sY hk
  refine⟨(out,known),?_,lZ,V,λk hk=>by dsimp only;rw[hV k hk,aO (nF k hk)],λk hk=>heq k (nF k hk),λs=>?_⟩
  .rw[yO,df (by dsimp only;omega),cf]
  .dsimp only;rw[y0 s];unfold Wx Hr
   cases jD ms s with
   |some v=>rfl
   |none =>
    cases GV:WT p.aE s with
    |none=>rfl
    |some k =>dsimp only;rw[aO (nF k (AI GV).1)];rfl
def kB{p:yp}{ms:List av}{zs:List aj}(hN:p.aE.length<=20)(CT:HA p.aE)(hp:FV p.Tables)(hm:ms.length<=1000)(hz:zs.length<=1000):
  (tv p.aE->∃o out known V,s8 p.aE.length (Uses p.aE) o/\o.length=p.aE.length/\xB p ms zs=aY (out,p.aE,p.Tables,p.aA,p.aB,p.aI,p.aF,p.aJ,p.aG,zs,known)/\out.length=p.aE.length/\(∀k,k<p.aE.length->out.getD k default=V k)/\CF p ms zs V/\∀s,(zr s known).getD 0=Hr p.aE ms V s) /\
  (¬tv p.aE->∃known,xB p ms zs=aY (bp p.aE.length 0,p.aE,p.Tables,p.aA,p.aB,p.aI,p.aF,p.aJ,p.aG,zs,known)/\∀s,zr s known=jD ms s):=by
 obtain⟨r,hr,B7,tj⟩:=zpj hN CT;obtain⟨own,known,h1,h2⟩:=zGh (p:=p) (zs:=zs) hm;have LD:VK p=aY r:=hr;constructor
 .intro hO;obtain⟨o,ho,ht,sY⟩:=tj hO;obtain⟨c1,c2,c3⟩:=r;dsimp only at ho;subst ho;have h3:c3=0:=B7.2 hO;subst h3;obtain⟨out,ajb,h4,h5,V,h6,h7,h8⟩:=zGi (p:=p) (ms:=ms) (zs:=zs) ab hO.1.N6 hp hz ht sY h2 0;refine⟨o,out,ajb,V,ht,sY,?_,h5,h6,h7,h8⟩;unfold xB;rw[h1,aC,zy ⟨ab,ab,ab⟩,aC,LD,aC];dsimp only;rw[dt rfl,bU,cf,wg,h4,aC]
 .intro hO
  have h3:¬r.2.2=0:=λh=>hO (B7.1 h)
  refine⟨known,?_,λs=>(h2 s).2⟩;unfold xB;rw[h1,aC,zy ⟨ab,ab,ab⟩,aC,LD,aC];dsimp only;rw[df h3,cJ,ct,wg]
set_option maxRecDepth 100000
structure In(p:yp)(ms:List av)(zs:List aj):Prop where
 defs:p.aE.length<=20
 ok:HA p.aE
 s9:FV p.Tables
 ms:ms.length<=1000
 zs:zs.length<=1000
def zms{l:List Def}{ms:List av}{V V':Nat->Int}(h:∀k,k<l.length->V k=V' k)(s:aj):Hr l ms V s=Hr l ms V' s:=by
 unfold Hr
 cases jD ms s with
 |some v=>rfl
 |none =>
  cases hx:WT l s with
  |none=>rfl
  |some k=>exact h k (AI hx).1
def RR{p:yp}{ms:List av}{zs:List aj}{e:Expr}(h:In p ms zs)(hr:oc e)(hO:tv p.aE){V:Nat->Int}(hV:CF p ms zs V):yr p ms zs e=aY (rz (Hr p.aE ms V) (tQ p.Tables) (λs=>decide (s∈zs)) 12 e):=by obtain⟨o,out,known,ab',h1,h2,h3,h4,h5,h6,h7⟩:=(kB h.defs h.ok h.s9 h.ms h.zs).1 hO;unfold yr;rw[zD,Q3,aC,dt hr,bU,cf,h3,aC];dsimp only;rw[YD h.s9 h.zs 12 e KK ab (by have:=Gt;omega) hr,aC];exact aP aY (AG 12 e λs _=>(h7 s).trans (zms (zdn h1 h2 h6 hV) s))
def zAx{p:yp}{ms:List av}{zs:List aj}{e:Expr}(h:In p ms zs)(hr:oc e)(hO:¬tv p.aE):yr p ms zs e=aY (rz (λs=>(jD ms s).getD 0) (tQ p.Tables) (λs=>decide (s∈zs)) 12 e):=by obtain⟨known,h3,h7⟩:=(kB h.defs h.ok h.s9 h.ms h.zs).2 hO;unfold yr;rw[zD,Q3,aC,dt hr,bU,cf,h3,aC];dsimp only;rw[YD h.s9 h.zs 12 e KK ab (by have:=Gt;omega) hr,aC];exact aP aY (AG 12 e λs _=>aP (λo=>Option.getD o 0) (h7 s))
def Xo{p:yp}{ms:List av}{zs:List aj}(h:In p ms zs)(hO:tv p.aE){V:Nat->Int}(hV:CF p ms zs V):∃out,wb p ms zs=aY out/\out.length=p.aE.length/\∀k,k<p.aE.length->out.getD k default=V k:=by obtain⟨o,out,known,ab',h1,h2,h3,h4,h5,h6,h7⟩:=(kB h.defs h.ok h.s9 h.ms h.zs).1 hO;refine⟨out,?_,h4,λk hk=>by rw[h5 k hk];exact zdn h1 h2 h6 hV k hk⟩;unfold wb;rw[h3];rfl
def zxn{p:yp}{ms:List av}{zs:List aj}(h:In p ms zs)(hO:¬tv p.aE):wb p ms zs=aY (bp p.aE.length 0):=by obtain⟨known,h3,h7⟩:=(kB h.defs h.ok h.s9 h.ms h.zs).2 hO;unfold wb;rw[h3];rfl
open Go Go.RowKit Go.lG Go.EV Go.EQ
def zGj(k:Nat)(h):(@A7 ⟨k+500,h⟩)=aY bh:=by kernel_rfl
def zAy[i:Fuel]:A7=aY bh:=by
 obtain⟨n,h⟩:=i
 obtain⟨k,rfl⟩:∃k,n=k+500:=⟨n-500,ab⟩
 exact zGj k h
def l3(p:yp):Ed->yp
 |.pT r=>{ p with aB:=p.aB++[r] }
 |.fin n d=>{ p with aB:=KL.put za.aK n (λr=>{ r with j_:=d }) oa p.aB }
 |.pP d=>{ p with aE:=KL.put Def.aK d.aK (λ_=>d) d p.aE }
 |.row n x=>{ p with Tables:=KL.put ar.aK n (sj x) (zT n) p.Tables }
 |.mV z=>{ p with aA:=KL.put zF.aK z.aK (λ_=>z) z p.aA }
 |.lim n v=>{ p with aI:=KL.put a_.aK n (λc=>{ c with pB:=v }) ⟨[],0,0,[]⟩ p.aI }
def afx(p:yp):Ed->Prop
 |.fin n _=>n∈p.aB.map za.aK
 |.lim n _=>n∈p.aI.map a_.aK
 |_=>True
def zGk{p q:yp}{e:Ed}(h:app p e=aY q):q=l3 p e/\afx p e:=by
 cases e with
 |pT x =>
  simp only[app]at h;split at h
  .cases h
  .cases h;exact⟨rfl,trivial⟩
 |fin n u =>
  simp only[app]at h;split at h
  .cases h
  .rename_i x hg;split at h
   .cases h
   .cases h;exact⟨by unfold l3;dsimp only;rw[Iz (Q0 hg)],Q0 hg⟩
 |pP x =>
  simp only[app]at h;split at h
  .cases h
  .cases h;exact⟨rfl,trivial⟩
 |row n x =>
  simp only[app]at h;split at h
  .cases h
  .cases h;exact⟨rfl,trivial⟩
 |mV x =>
  simp only[app]at h;split at h
  .cases h
  .cases h;exact⟨rfl,trivial⟩
 |lim n w =>
  simp only[app]at h;split at h
  .cases h
  .rename_i x hg;cases h;exact⟨by unfold l3;dsimp only;rw[Iz (Q0 hg)],Q0 hg⟩
def zxo(r:za):za.mk r.aK r.aA r.Except r.lA r.j_ r.lN r.lU r.aL r.Test r.zh r.Uses r.lK r.N=r:=by cases r;rfl
def zr6{p:yp}{ms:List av}{zs:List aj}{e:Expr}(hr:¬oc e):yr p ms zs e=aY 0:=by unfold yr;rw[zD,Q3,aC,df hr];rfl
mutual
def zkd:∀e:Expr,(zJ e).length<=V1 e
 |⟨op,n,s,k,az⟩=>by have:=XV az;rw[zJ,V1,la];split<;>simp<;>omega
def XV:∀l:List Expr,(xA l).length<=tw l
 |[]=>by simp[xA]
 |e::r=>by have:=zkd e;have:=XV r;rw[xA,tw,la];omega
end
def IV(e:Expr):Prop:=∀k∈zJ e,k.length<=9223372036854775807
def Sz{l:List Def}(h1:∀d∈l,rY d.Body=bh)(h2:∀d∈l,IV d.Body):HA l:=λd hd=>⟨by have:=zkd d.Body;have:=(Yw (h1 d hd)).1;omega,h2 d hd⟩
def QN{p:yp}(h:tu p):FV p.Tables:=⟨by have:=h.t;omega,λt ht=>by have:=(h.ts t ht).2.1;omega⟩
def zL4{p:yp}{e:zN}(hp:tu p)(h:¬oE p):A5 p e=aY (fp 1 zp):=by unfold A5;rw[QZ hp,Hd h];rfl
def zr7(s:aj):oc (Expr.mk 1 0 s [] []):=by
 show p8 12 (Expr.mk 1 0 s [] [])<=12
 simp[p8,pq]
def XW(s k:aj):oc (Expr.mk 2 0 s k []):=by
 show p8 12 (Expr.mk 2 0 s k [])<=12
 simp[p8,pq]
def zxq{c:Bool}{l:List Int}(hl:l.length<=1000000):yd c l l KK 0=aY (.inr ()):=by
 have key:=Yv l (λ_=>bh) (aY (bN ())) (aY (bO bf)) (yd c l l) ab (λK i x hx=>by rw[yd,jZ hx,ct,yP hx,aC,aC,dt rfl,yQ (by have:=jc hx;omega)];rfl) (λK=>by rw[yd,xy];rfl);rw[key];have:l.all (λ_=>bh)=bh:=ae;rw[this];rfl
def zAz{a b:List Int}(hl:a.length=b.length)(h:∀k,k<a.length->a.getD k default=b.getD k default):a=b:=by
 refine List.ext_getElem hl λi h1 h2=>?_
 have:=h i h1
 rwa [Hg h1,Hg h2]at this
def zA0{p q:yp}{ms:List av}{zs:List aj}(hp:In p ms zs)(hq:In q ms zs)(hd:q.aE=p.aE)(ht:q.Tables=p.Tables):∃out,wb p ms zs=aY out/\wb q ms zs=aY out/\out.length=p.aE.length:=by
 by_cases hO:tv p.aE
 .obtain⟨o,mr,known,V,h1,h2,h3,h4,h5,hV,h7⟩:=(kB hp.defs hp.ok hp.s9 hp.ms hp.zs).1 hO;obtain⟨out,a1,a2,a3⟩:=Xo hp hO hV
  have hVq:CF q ms zs V:=λk hk=>by have:=hV k (by rw[<- hd];exact hk);rw[this];unfold rhs;rw[hd,ht]
  obtain⟨tV,b1,b2,b3⟩:=Xo hq (by rw[hd];exact hO) hVq
  have:tV=out:=zAz (by rw[a2,b2,hd]) λk hk=>by rw[b3 k (by rw[<- b2];exact hk),a3 k (by rw[<- hd,<- b2];exact hk)]
  subst this;exact⟨tV,a1,b1,a2⟩
 .exact⟨_,zxn hp hO,by rw[zxn hq (by rw[hd];exact hO),hd],ae⟩
def zA1{q:yp}{ms:List av}{s k:aj}(h:In q ms []):yr q ms [] (Expr.mk 2 0 s k [])=aY (tQ q.Tables s k):=by
 by_cases hO:tv q.aE
 .obtain⟨o,mr,known,V,h1,h2,h3,h4,h5,hV,h7⟩:=(kB h.defs h.ok h.s9 h.ms h.zs).1 hO;rw[RR h (XW s k) hO hV];rfl
 .rw[zAx h (XW s k) hO];rfl
def zA2{q:yp}{ms:List av}{d:Def}(h:In q ms [])(hO:tv q.aE)(hd:d∈q.aE)(hm:jD ms d.aK=bg):∃v,yr q ms [] (Expr.mk 1 0 d.aK [] [])=aY v/\yr q ms [] d.Body=aY v:=by
 obtain⟨o,mr,known,V,h1,h2,h3,h4,h5,hV,h7⟩:=(kB h.defs h.ok h.s9 h.ms h.zs).1 hO;obtain⟨k,hk,e⟩:=YC hd
 have hn:nameAt q.aE k=d.aK:=by show(q.aE.getD k default).aK=_;rw[<- e]
 have TD:Hr q.aE ms V d.aK=V k:=by unfold Hr;rw[hm,<- hn,zpn hO.1.N6 hk]
 refine⟨V k,?_,?_⟩
 .rw[RR h (zr7 _) hO hV];exact aP aY TD
 .rw[hV k hk];unfold rhs;rw[<- e];by_cases hr:oc d.Body
  .rw[aO hr,RR h hr hO hV]
  .rw[aN hr,zr6 hr]
def zr8(p:yp)(a:zN)(name:aj)(n:Int)(hp:∀d∈p.aE,IV d.Body)(ha:IV a.Body):jh p a name n=aY bh:=by
 unfold jh;simp only[zD,zxo,zpb];rw[zAy,aC,zAk,aC];obtain⟨f,hb,hf⟩:=zGa (l:=[a]);by_cases hP:Dw p
 .rw[Z8 hP,bU,cf,hb,aC,aC]
  cases f with
  |false=>rfl
  |true =>
   obtain⟨_,hD⟩:=hf rfl;have sa:CG a:=(hD a ae).sz;rw[bU,cf];by_cases hR:oE p
   .have hk:=hP.keep hR;have hb5:=hP.l.1;rw[ag2 hk sa,aC];by_cases g:(s6 p a).1=0
    .by_cases hd:∃d:Ed,d.ok/\enc d=a
     .obtain⟨d,hd,rfl⟩:=hd;rw[zw8 hd]at g ⊢;have hs:=zF9.1 g;unfold FG
      cases hq:app p d with
      |none=>rw[hq]at hs;cases hs
      |some q =>
       have kq:=zpd hk hd (zxa sa) hq
       have inp:In p [⟨name,n⟩] []:=⟨ab,Sz hk.ds hp,QN hk.pN,ae,ae⟩
       have same:q.aE=p.aE->In q [⟨name,n⟩] []:=λe=>⟨by rw[e];omega,Sz kq.ds (by rw[e];exact hp),QN kq.pN,ae,ae⟩
       have fin:q.aE=p.aE->q.Tables=p.Tables->(aM (wb p [⟨name,n⟩] []) λmF=>aM (wb q [⟨name,n⟩] []) λrX=>aM ((bif (!(decide (((ba mF:Nat):Int)=((ba p.aE:Nat):Int))))then aY bh else aY (!(decide (((ba rX:Nat):Int)=((ba mF:Nat):Int)))))) λsD=>(bif sD then aY bf else(yd bh mF rX KK 0).bind (y9 aY λ_=>aY bh)))=aY bh:=λe1 e2=>by obtain⟨out,o1,o2,o3⟩:=zA0 inp (same e1) e1 e2;rw[o1,aC,o2,aC,o3,dt rfl];simp only[bU,cf,aC];rw[zxq ab];rfl
       obtain⟨eq,_⟩:=zGk hq
       cases d with
       |row m x =>
        show(bif bh then(yr q [⟨name,n⟩] [] (Expr.mk 2 0 m x.aK [])).bind λx6=>aY (decide (x6=x.N))else aY bf)=_
        have e1:q.aE=p.aE:=by rw[eq];rfl
        rw[ct,zA1 (same e1),aC]
        have:tQ q.Tables m x.aK=x.N:=by
         rw[eq]
         show tQ (KL.put ar.aK m (sj x) (zT m) p.Tables) m x.aK=x.N
         unfold tQ;rw[KL.MP (key:=ar.aK) (k:=m) (c:=sj x) (z:=zT m) (λ_ e=>e) rfl];dsimp only
         show((KL.get av.aK x.aK (KL.put av.aK x.aK (λ_=>x) x _)).map av.N).getD _=_
         rw[KL.MP (λ_ _=>rfl) rfl];rfl
        rw[this,dt rfl]
       |pP d =>
        show(aM (VK q) λx7=>aM ((bif (!(decide (x7.2.2=0)))then aY bh else aY (decide (d.aK=name)))) λx8=>(bif x8 then aY bh else(bif bh then(yr q [⟨name,n⟩] [] (Expr.mk 1 0 d.aK ([]:aj) [])).bind λx9=>aM (yr q [⟨name,n⟩] [] d.Body) λnS=>aY (decide (x9=nS))else aY bf)))=_
        have eD:q.aE=KL.put Def.aK d.aK (λ_=>d) d p.aE:=by rw[eq];rfl
        have O3:In q [⟨name,n⟩] []:=⟨by rw[eD,KL.RM];split<;>omega,Sz kq.ds (by rw[eD];exact u9 (c:=λ_=>d) (z:=d) (P:=λd:Def=>IV d.Body) ha hp λ_ _ _=>ha),QN kq.pN,ae,ae⟩
        obtain⟨r,hr,B7,_⟩:=zpj O3.defs O3.ok;rw[show VK q=aY r from hr,aC];by_cases hO:tv q.aE
        .rw[dt (B7.2 hO),bU,cf,aC];by_cases hn:d.aK=name
         .rw[dt hn];rfl
         .have l5:d∈q.aE:=by rw[eD];exact(KL.KW (show KL.get Def.aK d.aK (KL.put Def.aK d.aK (λ_=>d) d p.aE)=aY d by rw[KL.MP (λ_ _=>rfl) rfl])).2
          obtain⟨v,v1,v2⟩:=zA2 O3 hO l5 (by
           unfold jD
           rw[fR,df (Ne.symm hn)];rfl)
          rw[df hn,cf,ct,v1,aC,v2,aC,dt rfl]
        .rw[df (λe=>hO (B7.1 e))];rfl
       |pT r=>exact fin (by rw[eq];rfl) (by rw[eq];rfl)
       |fin m u=>exact fin (by rw[eq];rfl) (by rw[eq];rfl)
       |mV z=>exact fin (by rw[eq];rfl) (by rw[eq];rfl)
       |lim m u=>exact fin (by rw[eq];rfl) (by rw[eq];rfl)
     .rw[zw9 hd]at g;cases g
    .show(bif (!(decide ((s6 p a).1=0)))then aY bh else _)=_
     rw[df g];rfl
   .rw[zL4 hP.pN hR];rfl
 .rw[Hd hP];rfl
end Go.Proofs.YtogbenbghgjbiaaGreatDoor
