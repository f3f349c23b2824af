/- texts that the proof reaches, part 11 -/
import Derived.Test.YtkmjhipiiifekaaGreatDoorKj
set_option linter.all false
open Bool renaming false->bf,true->bg,not_true->bN,true_and->cg,not_false->cH,or_eq_true->cM,false_and->dY,and_false->fg,false_or->fy
open Int renaming toNat->bB,toNat_natCast->cm
open List renaming length->ba,all_eq_true->bm,mem_cons->bo,getElem?_eq_some_iff->bq,getElem?_eq_getElem->bx,mem_map->bF,mem_append->bI,mem_of_getElem?->bK,nil_append->cq,nodup_cons->cr,mem_map_of_mem->cv,nodup_append->cz,length_take->cD,cons_append->cK,all_cons->cZ,range->dc,getElem_mem->dq,isPrefixOf->dC,set_cons_succ->ep,getElem?_set_self->fF,foldl_cons->fJ,takeWhile->fL,zip_cons_cons->fZ
open Nat renaming zero_le->cx,le_refl->er,sub_self->eS,mod_eq_of_lt->fC,le_of_lt->gm,mod_lt->gK
open Option renaming some->aY,bind->aM,none->bh,map_eq_some_iff->bQ,bind_assoc->cC,map_some->cP,getD_some->dz,isNone_none->eY,isSome_some->fc,isNone_some->gi,isSome_map->gj
open Sum renaming inr->bp,inl->bA
set_option maxRecDepth 100000
namespace Go.Proofs.YtkmjhipiiifekaaGreatDoor
open Go Go.RowKit Go.lA Go.EV Go.EQ
variable[Fuel]
def zC{p:Prop}{i:Decidable p}(h:p):@fN p i=aY ():=aO h
def qF{n:Int}(h0:-9223372036854775808<=n)(h1:n<=9223372036854775807):EV.b_ n=n:=zmg h0 h1
def UY{α:Type}[Inhabited α]{l:List α}{i:Nat}(h:i<l.length):idx l (i:Int)=aY (l.getD i default):=by unfold idx;rw[aO ⟨ab,ab⟩];rfl
def zE{α:Type}[Inhabited α]{l:List α}{i:Nat}{x:α}(h:l[i]?=aY x):idx l (i:Int)=aY x:=by obtain⟨h1,h2⟩:=bq.1 h;rw[UY h1,List.getD_eq_getElem?_getD,h];rfl
def zI{n:Nat}(h:n<9223372036854775807):b_ ((n:Int)+1)=((n+1:Nat):Int):=by rw[qF ab ab];rfl
def oo{n:Nat}(h:n<18446744073709551616):n<KK:=Nat.lt_of_lt_of_le h Fuel.nV
def wT{α:Type}{l:List α}{i:Nat}{x:α}{r:List α}(h:l.drop i=x::r):l[i]?=aY x/\l.drop (i+1)=r/\i<l.length:=by
 have h0:l[i]?=aY x:=by have:=List.getElem?_drop (xs:=l) (i:=i) (j:=0);rw[h]at this;simpa using this.symm
 refine⟨h0,?_,(bq.1 h0).1⟩;rw[<- List.drop_drop,h];rfl
def drop_nil{α:Type}{l:List α}{i:Nat}(h:l.drop i=[])(hi:i<=l.length):i=l.length:=by have:=aP ba h;simp at this;omega
-- bytes
def KN(c:UInt8):Bool:=decide (97<=c.toNat)&&decide (c.toNat<=122)
def Mr(c:UInt8):Bool:=decide (48<=c.toNat)&&decide (c.toNat<=57)
def uL(c:UInt8):Bool:=KN c||Mr c
def vy(a b:Bool):(bif a then aY b else aY bf)=aY (a&&b):=by cases a<;>rfl
def Ms(a b:Bool):(bif a then aY bg else aY b)=aY (a||b):=by cases a<;>rfl
def vz{p q:Prop}{i:Decidable p}{j:Decidable q}(h:p↔q):@decide p i=@decide q j:=by
 by_cases hq:q
 .rw[dt hq,dt (h.2 hq)]
 .rw[df hq,df (λhp=>hq (h.1 hp))]
def UZ(n m:Nat){a:Int}(h:a=(m:Int)):decide ((n:Int)>=a)=decide (m<=n):=vz ab
def DW(n m:Nat){a:Int}(h:a=(m:Int)):decide ((n:Int)<=a)=decide (n<=m):=vz ab
def Lv(c:UInt8):vF ((c.toNat:Nat):Int)=aY (KN c):=by unfold vF;rw[vy,KN,UZ _ 97 (a:=97) rfl,DW _ 122 (a:=122) rfl]
def zyv(c:UInt8):qb ((c.toNat:Nat):Int)=aY (Mr c):=by unfold qb;rw[vy,Mr,UZ _ 48 (a:=48) rfl,DW _ 57 (a:=57) rfl]
def zyw(c:UInt8):um ((c.toNat:Nat):Int)=aY (uL c):=by unfold um;rw[Lv,aH,zyv,aH,Ms,uL]
-- runs of bytes
def zt9(l:aj)(f:UInt8->Bool)(G:UInt8->Option Bool)(F:Nat->Int->Option Int)(hG:∀b,G b=aY (f b))
  (hF:∀K q,F (K+1) q=((bif (decide (q<((ba l:Nat):Int)))then(idx l q).bind G else aY bf)).bind λx1=>(bif x1 then F K (b_ (q+1))else aY q)) (hl:l.length<4611686018427387904):
  ∀(r:aj)(i K:Nat),l.drop i=r->i<=l.length->r.length<K->F K (i:Int)=aY ((i+(r.takeWhile f).length:Nat):Int):=by
 intro r
 induction r with
 |nil =>
  intro i K hr hi hK
  obtain⟨K,rfl⟩:∃k,K=k+1:=⟨K-1,ab⟩
  have:=drop_nil hr hi;rw[hF,df ab];simp
 |cons c r ih =>
  intro i K hr hi hK
  obtain⟨K,rfl⟩:∃k,K=k+1:=⟨K-1,ab⟩
  obtain⟨h1,h2,h3⟩:=wT hr;simp only[lX]at hK;rw[hF,dt ab,ct,zE h1,aH,hG,aH]
  cases hc:f c with
  |false=>simp[fL,hc]
  |true =>
   rw[ct,zI ab,ih (i+1) K h2 ab ab];simp only[fL,hc,lX]
   congr 2;omega
def CC(f:UInt8->Bool)(l:aj):Nat:=(l.takeWhile f).length
def KO{α:Type}(o:Option α):(o.bind λx=>aY x)=o:=by cases o<;>rfl
def zyx{s:aj}(h:s.length<4611686018427387904):A9 s=aY ((CC uL s:Nat):Int):=by unfold A9;rw[KO,show((0:Int))=((0:Nat):Int) from rfl,zt9 s uL (λx2=>aM (um ((x2.toNat:Nat):Int)) λx3=>aY x3) (kd s) (λb=>by rw[zyw];rfl) (λK q=>rfl) h s 0 KK rfl ab (oo ab)];simp[CC]
def zua{f:UInt8->Bool}{l:aj}:CC f l=l.length↔l.all f=bg:=by
 induction l with
 |nil=>simp[CC]
 |cons c l ih =>
  simp only[CC,fL,cZ]at ih ⊢
  cases f c with
  |false=>simp
  |true=>simp only[lX,cg,<- ih];omega
-- words
def Yt(s:aj):Bool:=match s with
 |[]=>bf
 |c::r=>KN c&&(decide (s.length<=20)&&r.all uL)
def zyy{s:aj}(h:s.length<4611686018427387904):uW s=aY (Yt s):=by
 unfold uW
 cases s with
 |nil=>rfl
 |cons c r =>
  rw[df ae,cf,show((0:Int))=((0:Nat):Int) from rfl,zE (x:=c) rfl,aH,Lv,aH,Ms,aH,zyx h,aH]
  have e:decide ((CC uL (c::r):Int)=(((c::r).length:Nat):Int))=(uL c&&r.all uL):=by rw[<- cZ,Bool.eq_iff_iff,decide_eq_true_iff,<- zua];omega
  rw[e,Yt]
  cases hc:KN c with
  |false=>simp
  |true =>
   have:uL c=bg:=by rw[uL,hc];rfl
   rw[this];by_cases mA:(c::r).length<=20
   .rw[dt mA,df ab];simp
   .rw[df mA,dt ab];simp
def zEl{s:aj}(h:0<=s.length):uW s=aY (Yt s):=by
 by_cases hs:s.length<4611686018427387904
 .exact zyy hs
 .unfold uW
  cases s with
  |nil=>rfl
  |cons c r =>
   rw[df ae,cf,show((0:Int))=((0:Nat):Int) from rfl,zE (x:=c) rfl,aH,Lv,aH,Ms,aH];rw[dt (by omega:(((c::r).length:Nat):Int)>20),Bool.or_true,ct,Yt,df (by omega:¬(c::r).length<=20)];cases KN c<;>rfl
noncomputable def pd(p:Prop):Bool:=@decide p (Classical.propDecidable p)
def wC{p:Prop}:pd p=bg↔p:=by unfold pd;exact @decide_eq_true_iff p (Classical.propDecidable p)
def qp{p:Prop}[Decidable p]:decide p=pd p:=vz Iff.rfl
def jN{b:Bool}{p:Prop}(h:b=bg↔p):b=pd p:=by
 cases b with
 |true=>exact(wC.2 (h.1 rfl)).symm
 |false =>
  cases hp:pd p with
  |false=>rfl
  |true=>exact aQ (h.2 (wC.1 hp)) ad
def wA{p q:Prop}(h:p↔q):pd p=pd q:=jN (wC.trans h)
def Sf{α β:Type}[Inhabited α][Inhabited β](a:List α)(b:List β)(G:α->β->Option Bool)(g:α->β->Bool)(L:Nat->Int->Option (Bool⊕Unit))
  (hL:∀K q,L (K+1) q=(bif (decide (q<((ba a:Nat):Int)))then(idx a q).bind λx=>aM (idx b q) λy=>aM (G x y) λr=>(bif (!r)then aY (bA bf)else L K (b_ (q+1)))else aY (bp ())))
  (hs:a.length<4611686018427387904) (hl:b.length=a.length):
  ∀(r:List α)(t:List β)(i K:Nat),a.drop i=r->b.drop i=t->i<=a.length->r.length<K->(∀x∈r,∀y∈t,G x y=aY (g x y))->L K (i:Int)=aY (bif (r.zip t).all (λp=>g p.1 p.2)then bp ()else bA bf)
 |[],t,i,K,hr,ht,hi,hK,_=>by
  obtain⟨K,rfl⟩:∃k,K=k+1:=⟨K-1,by simp at hK;omega⟩
  have:=drop_nil hr hi;rw[hL,df ab];simp
 |x::r,[],i,K,hr,ht,hi,hK,_=>by
  have h1:=drop_nil ht ab;obtain⟨_,_,h3⟩:=wT hr;omega
 |x::r,y::t,i,K,hr,ht,hi,hK,hG=>by
  obtain⟨K,rfl⟩:∃k,K=k+1:=⟨K-1,by simp at hK;omega⟩
  obtain⟨h1,h2,h3⟩:=wT hr;obtain⟨k1,k2,k3⟩:=wT ht;simp only[lX]at hK;rw[hL,dt ab,ct,zE h1,aH,zE k1,aH,hG x ak y ak,aH];simp only[fZ,cZ]
  cases hg:g x y with
  |false=>rfl
  |true =>
   simp only[bN,cf,cg];rw[zI ab]
   exact Sf a b G g L hL hs hl r t (i+1) K h2 k2 ab ab λx hx y hy=>hG x (iT _ hx) y (iT _ hy)
def Um{α:Type}{g:α->α->Bool}:∀{a b:List α},a.length=b.length->(∀x∈a,∀y∈b,(g x y=bg↔x=y))->((a.zip b).all (λp=>g p.1 p.2)=bg↔a=b)
 |[],[],_,_=>ae
 |[],_::_,h,_=>by simp at h
 |_::_,[],h,_=>by simp at h
 |x::a,y::b,h,hg=>by simp only[lX,Nat.add_right_cancel_iff]at h;simp only[fZ,cZ,bn,List.cons.injEq];rw[hg x ak y ak,Um h λx hx y hy=>hg x (iT _ hx) y (iT _ hy)]
def we{α:Type}[Inhabited α](a b:List α)(G:α->α->Option Bool)(L:Nat->Int->Option (Bool⊕Unit))
  (hL:∀K q,L (K+1) q=(bif (decide (q<((ba a:Nat):Int)))then(idx a q).bind λx=>aM (idx b q) λy=>aM (G x y) λr=>(bif (!r)then aY (bA bf)else L K (b_ (q+1)))else aY (bp ())))
  (hs:a.length<4611686018427387904) (hG:∀x∈a,∀y∈b,G x y=aY (pd (x=y))):
  (bif (!(decide (((ba a:Nat):Int)=((ba b:Nat):Int))))then aY bf else(L KK 0).bind (yg aY λ_=>aY bg))=aY (pd (a=b)):=by
 by_cases hl:a.length=b.length
 .rw[dt ab];simp only[bN,cf];have:=Sf a b G (λx y=>pd (x=y)) L hL hs hl.symm a b 0 KK rfl rfl (cx _) (oo ab) hG;rw[show((0:Int))=((0:Nat):Int) from rfl,this]
  have hz:=Um (g:=λx y=>pd (x=y)) hl λx _ y _=>wC
  have e:=jN hz;rw[<- e];cases (a.zip b).all (λp=>pd (p.1=p.2))<;>rfl
 .rw[df ab];simp only[cH,ct];exact aP aY (jN ⟨λh=>(by cases h),λh=>aQ (aP ba h) hl⟩)
-- levels
mutual
def QN:Expr->Nat
 |⟨_,_,_,_,az⟩=>rR az+1
def rR:List Expr->Nat
 |[]=>0
 |e::r=>QN e+rR r
end
def LM:∀e:Expr,0<QN e
 |⟨_,_,_,_,az⟩=>by rw[QN];omega
def Vb:∀l:List Expr,l.length<=rR l
 |[]=>er _
 |e::r=>by rw[rR,lX];have:=Vb r;have:=LM e;omega
def Vc:∀{l:List Expr}{e:Expr},e∈l->QN e<=rR l
 |x::r,e,h=>by
  rw[rR]
  rcases bo.1 h with rfl|h
  .omega
  .have:=Vc h;omega
def zqn:∀(n:Nat)(a b:Expr)(K:Nat),QN a<=n->2*n<=K->n<=1000000000->wj K a b=aY (pd (a=b)):=by
 intro n
 induction n with
 |zero=>intro a b K h;have:=LM a;omega
 |succ n ih =>
  intro a b K h hK hn
  obtain⟨K,rfl⟩:∃k,K=k+2:=⟨K-2,ab⟩
  obtain⟨o1,n1,s1,k1,z1⟩:=a;obtain⟨o2,n2,s2,k2,z2⟩:=b;rw[QN]at h;have hz:=Vb z1
  have hl:xI (K+1) z1 z2=aY (pd (z1=z2)):=by
   rw[xI]
   refine we z1 z2 (λx y=>wj K (Expr.mk x.Op x.N x.S x.Key x.fu) (Expr.mk y.Op y.N y.S y.Key y.fu)) _ (λK q=>rfl) ab λx hx y hy=>?_
   have h1:=Vc hx;have:=ih x y K ab ab ab;cases x;cases y;exact this
  rw[wj];simp only[hl,aH];simp only[qp]
  have e:pd ((⟨o1,n1,s1,k1,z1⟩:Expr)=⟨o2,n2,s2,k2,z2⟩)=(pd (o1=o2)&&(pd (n1=n2)&&(pd (s1=s2)&&(pd (k1=k2)&&pd (z1=z2))))):=by refine(jN ?_).symm;simp only[bn,wC,Expr.mk.injEq]
  rw[e];cases pd (o1=o2)<;>cases pd (n1=n2)<;>cases pd (s1=s2)<;>cases pd (k1=k2)<;>rfl
def uM(e:Expr):Prop:=QN e<=1000000000
def Zt{a b:Expr}(h:uM a):wj KK a b=aY (pd (a=b)):=zqn 1000000000 a b KK h (gm (oo ab)) ab
def zD(e:Expr):Expr.mk e.Op e.N e.S e.Key e.fu=e:=by cases e;rfl
def xM{p q:Prop}:pd (p/\q)=(pd p&&pd q):=(jN (by simp only[bn,wC])).symm
def zqo{a b:List Def}(hs:a.length<4611686018427387904)(hE:∀d∈a,uM d.Body):yM a b=aY (pd (a=b)):=by
 unfold yM
 refine we a b (λx y=>Q3 (Def.mk x.aK (Expr.mk x.Body.Op x.Body.N x.Body.S x.Body.Key x.Body.fu)) (Def.mk y.aK (Expr.mk y.Body.Op y.Body.N y.Body.S y.Body.Key y.Body.fu))) _ (λK q=>rfl) hs λx hx y hy=>?_
 have h:=hE x hx;simp only[zD];obtain⟨n1,e1⟩:=x;obtain⟨n2,e2⟩:=y;unfold Q3;simp only[zD,Zt h,aH,qp,Def.mk.injEq,xM];cases pd (n1=n2)<;>rfl
def Zu{a b:List aj}(hs:a.length<4611686018427387904):wM a b=aY (pd (a=b)):=by
 unfold wM
 refine we a b (λx y=>aY (decide (x=y))) _ (λK q=>rfl) hs λx _ y _=>?_
 rw[qp]
def zer{a b:List av}(hs:a.length<4611686018427387904):wO a b=aY (pd (a=b)):=by
 unfold wO
 refine we a b (λx y=>aY (decide (x.aK=y.aK)&&(decide (x.N=y.N)))) _ (λK q=>rfl) hs λx _ y _=>?_
 obtain⟨n1,m1⟩:=x;obtain⟨n2,m2⟩:=y;simp only[qp,av.mk.injEq,xM]
def Je{a b:List zt}(hs:a.length<4611686018427387904):ym a b=aY (pd (a=b)):=by
 unfold ym
 refine we a b (λx y=>aY (decide (x.X=y.X)&&(decide (x.Y=y.Y)))) _ (λK q=>rfl) hs λx _ y _=>?_
 obtain⟨n1,m1⟩:=x;obtain⟨n2,m2⟩:=y;simp only[qp,zt.mk.injEq,xM]
def Qe{a b:List zh}(hs:a.length<4611686018427387904):xr a b=aY (pd (a=b)):=by
 unfold xr
 refine we a b (λx y=>aY (decide (x.X=y.X)&&(decide (x.Y=y.Y)&&(decide (x.Z_=y.Z_))))) _ (λK q=>rfl) hs λx _ y _=>?_
 obtain⟨n1,m1,k1⟩:=x;obtain⟨n2,m2,k2⟩:=y;simp only[qp,zh.mk.injEq,xM]
def zg5{a b:List ar}(hs:a.length<4611686018427387904)(hE:∀d∈a,d.Rows.length<4611686018427387904):yN a b=aY (pd (a=b)):=by
 unfold yN
 refine we a b Q4 _ (λK q=>rfl) hs λx hx y hy=>?_
 have h:=hE x hx;obtain⟨n1,r1,e1⟩:=x;obtain⟨n2,r2,e2⟩:=y;unfold Q4;simp only[zer h,aH,qp,ar.mk.injEq,xM];cases pd (n1=n2)<;>cases pd (e1=e2)<;>cases pd (r1=r2)<;>rfl
def U0{a b:Bool}:(a==b)=pd (a=b):=jN beq_iff_eq
def zlt{a b:List zq}(hs:a.length<4611686018427387904)(hE:∀d∈a,d.ay.length<4611686018427387904):yP a b=aY (pd (a=b)):=by
 unfold yP
 refine we a b Q5 _ (λK q=>rfl) hs λx hx y hy=>?_
 have h:=hE x hx;obtain⟨n1,r1,e1⟩:=x;obtain⟨n2,r2,e2⟩:=y;unfold Q5;simp only[Je h,aH,qp,U0,zq.mk.injEq,xM];cases pd (n1=n2)<;>cases pd (r1=r2)<;>rfl
def zqp{a b:List eC}(hs:a.length<4611686018427387904)(hE:∀d∈a,d.ay.length<4611686018427387904):yQ a b=aY (pd (a=b)):=by
 unfold yQ
 refine we a b Q6 _ (λK q=>rfl) hs λx hx y hy=>?_
 have h:=hE x hx;obtain⟨n1,r1,l1,e1⟩:=x;obtain⟨n2,r2,l2,e2⟩:=y;unfold Q6;simp only[Je h,aH,qp,eC.mk.injEq,xM];cases pd (n1=n2)<;>cases pd (r1=r2)<;>cases pd (l1=l2)<;>rfl
def zlu{a b:List au}(hs:a.length<4611686018427387904)(hE:∀d∈a,d.lL.length<4611686018427387904):yR a b=aY (pd (a=b)):=by
 unfold yR
 refine we a b Q7 _ (λK q=>rfl) hs λx hx y hy=>?_
 have h:=hE x hx;obtain⟨n1,⟨x1,aav,z1⟩,l1,e1⟩:=x;obtain⟨n2,⟨x2,aaw,z2⟩,l2,e2⟩:=y;unfold Q7;simp only[Qe h,aH,qp,au.mk.injEq,zh.mk.injEq,xM];cases pd (n1=n2)<;>cases pd (x1=x2)<;>cases pd (aav=aaw)<;>cases pd (z1=z2)<;>cases pd (l1=l2)<;>rfl
def Sg{a b:za}(h1:a.aA.length<4611686018427387904)(h2:a.Except.length<4611686018427387904)(h3:uM a.Test):vJ a b=aY (pd (a=b)):=by
 obtain⟨a1,a2,a3,a4,a5,a6,a7,a8,a9,⟨p1,p2,p3,p4⟩,N5,N6,a12⟩:=a;obtain⟨b1,b2,b3,b4,b5,b6,b7,b8,b9,⟨q1,q2,q3,q4⟩,aaB,aaC,afx⟩:=b;unfold vJ;simp only[Zu h1,Zu h2,zD,Zt h3,aH,qp,U0,za.mk.injEq,zg.mk.injEq,xM]
 cases pd (a2=b2)<;>cases pd (a3=b3)<;>cases pd (a9=b9)<;>simp only[bN,cH,ct,cf,aH,dY,fg,cg] <;>
 cases pd (a1=b1)<;>cases pd (a4=b4)<;>cases pd (a5=b5)<;>cases pd (a6=b6)<;>simp only[aH,ct,cf,dY,fg,cg] <;>
 cases pd (a7=b7)<;>cases pd (a8=b8)<;>simp only[aH,ct,cf,dY,fg,cg] <;>
 cases (pd (p1=q1)&&(pd (p2=q2)&&(pd (p3=q3)&&pd (p4=q4))))<;>cases pd (N5=aaB)<;>cases pd (N6=aaC)<;>rfl
def zlv{a b:List za}(hs:a.length<4611686018427387904)(hE:∀d∈a,d.aA.length<4611686018427387904/\d.Except.length<4611686018427387904/\uM d.Test):yO a b=aY (pd (a=b)):=by
 unfold yO
 refine we a b (λx1 x2=>vJ (za.mk x1.aK x1.aA x1.Except x1.il x1.hJ x1.iI x1.iN x1.aL (Expr.mk x1.Test.Op x1.Test.N x1.Test.S x1.Test.Key x1.Test.fu) x1.zg x1.Uses x1.iD x1.N) (za.mk x2.aK x2.aA x2.Except x2.il x2.hJ x2.iI x2.iN x2.aL (Expr.mk x2.Test.Op x2.Test.N x2.Test.S x2.Test.Key x2.Test.fu) x2.zg x2.Uses x2.iD x2.N)) _ (λK q=>rfl) hs λx hx y hy=>?_
 obtain⟨h1,h2,h3⟩:=hE x hx;simp only[zD];exact Sg h1 h2 h3
def U5(p:yf):Prop:=
 (p.aE.length<4611686018427387904/\∀d∈p.aE,uM d.Body)/\(p.Tables.length<4611686018427387904/\∀d∈p.Tables,d.Rows.length<4611686018427387904)/\(p.aA.length<4611686018427387904/\∀d∈p.aA,d.ay.length<4611686018427387904) /\
 (p.aB.length<4611686018427387904/\∀d∈p.aB,d.aA.length<4611686018427387904/\d.Except.length<4611686018427387904/\uM d.Test)/\(p.aI.length<4611686018427387904/\∀d∈p.aI,d.ay.length<4611686018427387904)/\(p.aF.length<4611686018427387904/\∀d∈p.aF,d.lL.length<4611686018427387904)/\p.aJ.length<4611686018427387904
def zqq{a b:yf}(h:U5 a):DO a b=aY (pd (a=b)):=by obtain⟨⟨d1,d2⟩,⟨t1,t2⟩,⟨z1,z2⟩,⟨r1,r2⟩,⟨c1,c2⟩,⟨v1,v2⟩,s1⟩:=h;obtain⟨aD,aT,aZ,aR,aC,aV,aS,afl⟩:=a;obtain⟨bD,bT,bZ,bR,bC,bV,bS,afn⟩:=b;unfold DO;simp only[zqo d1 d2,zg5 t1 t2,zlt z1 z2,zlv r1 r2,zqp c1 c2,zlu v1 v2,Qe s1,aH,qp,yf.mk.injEq,xM];cases pd (aD=bD)<;>cases pd (aT=bT)<;>cases pd (aZ=bZ)<;>cases pd (aR=bR)<;>cases pd (aC=bC)<;>cases pd (aV=bV)<;>cases pd (aS=bS)<;>rfl
def Lw{α nF:Type}(l:List α)(g:α->Bool)(ok bad:nF)(L:Nat->Int->nF)
  (hL:∀K (i:Nat) x,l[i]?=aY x->L (K+1) (i:Int)=bif g x then L K ((i+1:Nat):Int)else bad) (hE:∀K,L (K+1) (l.length:Int)=ok):
  ∀(r:List α)(i K:Nat),l.drop i=r->i<=l.length->r.length<K->L K (i:Int)=bif r.all g then ok else bad
 |[],i,K,hr,hi,hK=>by
  obtain⟨K,rfl⟩:∃k,K=k+1:=⟨K-1,by simp at hK;omega⟩
  have:=drop_nil hr hi;subst this;rw[hE];rfl
 |x::r,i,K,hr,hi,hK=>by
  obtain⟨K,rfl⟩:∃k,K=k+1:=⟨K-1,by simp at hK;omega⟩
  obtain⟨h1,h2,h3⟩:=wT hr;simp only[lX]at hK;rw[hL K i x h1,cZ]
  cases g x with
  |false=>rfl
  |true=>exact Lw l g ok bad L hL hE r (i+1) K h2 ab ab
def Hn{α nF:Type}(l:List α)(g:α->Bool)(ok bad:nF)(L:Nat->Int->nF)(hs:l.length<=9223372036854775807)
  (hL:∀K (i:Nat) x,l[i]?=aY x->L (K+1) (i:Int)=bif g x then L K ((i+1:Nat):Int)else bad) (hE:∀K,L (K+1) (l.length:Int)=ok):
  L KK 0=bif l.all g then ok else bad:=Lw l g ok bad L hL hE l 0 KK rfl (cx _) (oo ab)
def Sh{α σ nF:Type}(l:List α)(f:σ->α->σ)(fin:σ->nF)(I:Nat->σ->Prop)(L:Nat->Int->σ->nF)
  (hL:∀K (i:Nat) x s,l[i]?=aY x->I i s->L (K+1) (i:Int) s=L K ((i+1:Nat):Int) (f s x)/\I (i+1) (f s x)) (hE:∀K s,I l.length s->L (K+1) (l.length:Int) s=fin s):
  ∀(r:List α)(i K:Nat)(s:σ),l.drop i=r->i<=l.length->r.length<K->I i s->L K (i:Int) s=fin (r.foldl f s)/\I l.length (r.foldl f s)
 |[],i,K,s,hr,hi,hK,hI=>by
  obtain⟨K,rfl⟩:∃k,K=k+1:=⟨K-1,by simp at hK;omega⟩
  have:=drop_nil hr hi;subst this;exact⟨hE K s hI,hI⟩
 |x::r,i,K,s,hr,hi,hK,hI=>by
  obtain⟨K,rfl⟩:∃k,K=k+1:=⟨K-1,by simp at hK;omega⟩
  obtain⟨h1,h2,h3⟩:=wT hr;simp only[lX]at hK;obtain⟨e1,e2⟩:=hL K i x s h1 hI;rw[e1,fJ];exact Sh l f fin I L hL hE r (i+1) K (f s x) h2 ab ab e2
def Si{α σ nF:Type}(l:List α)(f:σ->α->σ)(fin:σ->nF)(I:Nat->σ->Prop)(L:Nat->Int->σ->nF)(s:σ)(hs:l.length<4611686018427387904)(h0:I 0 s)
  (hL:∀K (i:Nat) x s,l[i]?=aY x->I i s->L (K+1) (i:Int) s=L K ((i+1:Nat):Int) (f s x)/\I (i+1) (f s x)) (hE:∀K s,I l.length s->L (K+1) (l.length:Int) s=fin s):
  L KK 0 s=fin (l.foldl f s)/\I l.length (l.foldl f s):=Sh l f fin I L hL hE l 0 KK s rfl (cx _) (oo ab) h0
def xm{α:Type}{l:List α}{i:Nat}{x:α}(h:l[i]?=aY x):decide ((i:Int)<(ba l:Nat))=bg:=dt (by have:=(bq.1 h).1;omega)
def z6{α:Type}{l:List α}:decide (((ba l:Nat):Int)<(ba l:Nat))=bf:=df ab
def wB{α:Type}{l:List α}{i:Nat}{x:α}(h:l[i]?=aY x):i<l.length:=(bq.1 h).1
def zyz{o:Option (Bool⊕Unit)}{g r:Bool}{f:Unit->Option Bool}(h:o=aY (bif g then bp ()else bA bf))(hr:g=bg->f ()=aY r):o.bind (yg aY f)=aY (g&&r):=by
 subst h
 cases g with
 |false=>rfl
 |true=>rw[ct,aH,yg,hr rfl,cg]
def zub{o:Option Bool}{f:Option Bool}{g r:Bool}(h:o=aY g)(hr:g=bg->f=aY (!r)):(o.bind λx=>bif (!x)then aY bg else f)=aY (!(g&&r)):=by
 subst h
 cases g with
 |false=>rfl
 |true=>rw[aH,bN,cf,hr rfl,cg]
def zy0{a:Nat}{m:Int}(n:Nat){f:Option Bool}{r:Bool}(hm:m=(n:Int))(hr:a<=n->f=aY (!r)):(bif decide ((a:Int)>m)then aY bg else f)=aY (!(decide (a<=n)&&r)):=by
 by_cases h:a<=n
 .rw[df ab,dt h,cf,hr h,cg]
 .rw[dt ab,df h];rfl
def KP{a:Nat}{m:Int}(n:Nat)(hm:m=(n:Int)):aY (decide ((a:Int)>m))=aY (!(decide (a<=n))):=by
 by_cases h:a<=n
 .rw[df ab,dt h];rfl
 .rw[dt ab,df h];rfl
def Lg{α:Type}(l:List α)(g:α->Bool)(L:Nat->Int->Option (Bool⊕Unit))(B:Int->Option Bool)(hs:l.length<=9223372036854775807)
  (hL:∀K q,L (K+1) q=(bif (decide (q<((ba l:Nat):Int)))then(B q).bind λr=>(bif r then aY (bA bf)else L K (b_ (q+1)))else aY (bp ())))
  (hB:∀(i:Nat) x,l[i]?=aY x->B (i:Int)=aY (!(g x))):L KK 0=aY (bif l.all g then bp ()else bA bf):=by
 have:=Hn l g (aY (bp ())) (aY (bA bf)) L hs (λK i x h=>?_) (λK=>by rw[hL,z6];rfl)
 .rw[this];cases l.all g<;>rfl
 .have hi:=wB h;rw[hL,xm h,ct,hB i x h,aH,zI ab];cases g x<;>rfl
mutual
def oL:Expr->Bool
 |⟨_,_,s,k,az⟩=>WR az&&(decide (0<=s.length)&&decide (0<=k.length))
def WR:List Expr->Bool
 |[]=>bg
 |e::r=>oL e&&WR r
end
def Zv:∀l:List Expr,WR l=l.all oL
 |[]=>by rw[WR];rfl
 |e::r=>by rw[WR,Zv r,cZ]
def nR(e:Expr):Bool:=decide (QN e<=5000)&&oL e
def CH(l:List aj):Bool:=l.all (λx=>decide (0<=x.length))&&decide (l.length<=3000)
def nC(r:za):Bool:=decide (0<=r.aK.length)&&(CH r.aA&&(CH r.Except&&nR r.Test))
def U1{nF:Type}(n lo:Nat)(g:Nat->Bool)(ok bad:nF)(L:Nat->Int->nF)(hL:∀K (i:Nat),lo<=i->i<n->L (K+1) (i:Int)=bif g i then L K ((i+1:Nat):Int)else bad)(hE:∀K (i:Nat),n<=i->L (K+1) (i:Int)=ok):
  ∀(m a K:Nat),lo<=a->n-a<=m->m<K->L K (a:Int)=bif pd (∀k,a<=k->k<n->g k=bg)then ok else bad
 |0,a,K,p_,h,hK=>by
  obtain⟨K,rfl⟩:∃k,K=k+1:=⟨K-1,ab⟩
  rw[hE K a ab,wC.2 (λk h1 h2=>ab)];rfl
 |m+1,a,K,p_,h,hK=>by
  obtain⟨K,rfl⟩:∃k,K=k+1:=⟨K-1,ab⟩
  by_cases ha:n<=a
  .rw[hE K a ha,wC.2 (λk h1 h2=>ab)];rfl
  .rw[hL K a p_ ab]
   cases hg:g a with
   |false =>
    have:pd (∀k,a<=k->k<n->g k=bg)=bf:=by
     cases hp:pd (∀k,a<=k->k<n->g k=bg)with
     |false=>rfl
     |true=>rw[wC.1 hp a al ab]at hg;cases hg
    rw[this];rfl
   |true =>
    rw[ct,U1 n lo g ok bad L hL hE m (a+1) K ab ab ab]
    have:pd (∀k,a+1<=k->k<n->g k=bg)=pd (∀k,a<=k->k<n->g k=bg):=wA ⟨λh k h1 h2=>by
     by_cases hk:k=a
     .rw[hk];exact hg
     .exact h k ab h2,λh k h1 h2=>h k ab h2⟩
    rw[this]
def iS(p:List zt)(i:Nat):zt:=p.getD (i % p.length) default
def Gq(a b c:zt):Bool:=
 (decide (0<=a.X)&&(decide (a.X<=1048576)&&(decide (0<=a.Y)&&decide (a.Y<=1048576)))) &&
 (!(decide (a.X=b.X)==decide (a.Y=b.Y))&&!(decide (a.X=b.X)==decide (b.X=c.X)))
def Gr(p:List zt)(i:Nat):Bool:=Gq (iS p i) (iS p (i+1)) (iS p (i+2))
def zy1{α β:Type}{o:Option α}{v:α}{f:α->Option β}{r:Option β}(h:o=aY v)(h2:f v=r):o.bind f=r:=by rw[h,aH,h2]
def zqr(a b c:zt):(aM (Kw a) λx5=>(bif (!x5)then aY bg else(bif ((decide (a.X=b.X))==(decide (a.Y=b.Y)))then aY bg else(yd ⟨a,b⟩).bind λx6=>aM (yd ⟨b,c⟩) λx7=>aY (x6==x7))))=aY (!(Gq a b c)):=by
 show(aM (bif (decide (0<=a.X))then(bif (decide (a.X<=1048576))then(bif (decide (0<=a.Y))then aY (decide (a.Y<=1048576))else aY bf)else aY bf)else aY bf) λx5=>(bif (!x5)then aY bg else(bif ((decide (a.X=b.X))==(decide (a.Y=b.Y)))then aY bg else(aY ((decide (a.X=b.X))==(decide (b.X=c.X)))))))=_
 unfold Gq;cases decide (0<=a.X)
 .rfl
 cases decide (a.X<=1048576)
 .rfl
 cases decide (0<=a.Y)
 .rfl
 cases decide (a.Y<=1048576)
 .rfl
 cases (decide (a.X=b.X)==decide (a.Y=b.Y))<;>cases (decide (a.X=b.X)==decide (b.X=c.X))<;>rfl
def Gs(a b:zt):Bool:=decide (a.X<b.X)||(decide (a.X=b.X)&&decide (a.Y<b.Y))
def FH(p:List zt)(i:Nat):Bool:=!(decide (0<i))||Gs (iS p 0) (iS p i)
def PX(a b c d:zt):Bool:=decide (max (min a.X b.X) (min c.X d.X)<=min (max a.X b.X) (max c.X d.X))&&decide (max (min a.Y b.Y) (min c.Y d.Y)<=min (max a.Y b.Y) (max c.Y d.Y))
def CI(p:List zt)(i k:Nat):Bool:=decide ((k+1) % p.length=i)||!(PX (iS p i) (iS p (i+1)) (iS p k) (iS p (k+1)))
def QO(p:List zt):Prop:=(4<=p.length/\p.length<=60)/\(∀i,0<=i->i<p.length->(Gr p i&&FH p i)=bg)/\(∀i,0<=i->i<p.length->pd (∀k,i+2<=k->k<p.length->CI p i k=bg)=bg)/\¬(iS p 0).X=(iS p 1).X
def U2{p:List zt}{i:Nat}(h:0<p.length):idx p (((i % p.length:Nat)):Int)=aY (iS p i):=UY (gK _ h)
def Mt{p:List zt}{i:Nat}(h:i<p.length):idx p ((i:Nat):Int)=aY (iS p i):=by
 have:=U2 (p:=p) (i:=i) ab
 rwa [fC h]at this
def Tk{i n:Nat}:Int.tmod (i:Int) (n:Int)=((i % n:Nat):Int):=rfl
def zEn{p:List zt}{i:Nat}:iS p (i % p.length)=iS p i:=by unfold iS;rw[Nat.mod_mod]
def zy2{p:List zt}{i:Nat}:iS p (i % p.length+1)=iS p (i+1):=by unfold iS;rw[Nat.mod_add_mod]
def tJ(p:List zt)(i:Nat):zk:=⟨iS p i,iS p (i+1)⟩
def Sj{p:List zt}(h0:0<p.length)(h1:p.length<=60):∃l,uo p=aY l/\l.length=p.length/\∀j<p.length,l[j]?=aY (tJ p j):=by
 have hr:(dc p.length).length=p.length:=List.length_range
 have key:=Si (dc p.length) (λs i=>List.set s i (tJ p i)) (λs=>aY s) (λi s=>s.length=p.length/\∀j<i,s[j]?=aY (tJ p j)) (λK q s=>y9 p ((ba p:Nat):Int) K (q,s))
  (List.replicate (bB ((ba p:Nat):Int)) (zk.mk (zt.mk 0 0) (zt.mk 0 0))) ab ⟨ae,λj hj=>ab⟩ (λK i x s hx hs=>?_) (λK s hs=>?_)
 .refine⟨_,?_,key.2.1,λj hj=>key.2.2 j ab⟩;unfold uo;rw[zC ab,aH,key.1];rfl
 .have hi:=wB hx;rw[hr]at hi
  have hxi:x=i:=by simpa[List.getElem?_range,hi]using hx.symm
  subst hxi;obtain⟨s1,s2⟩:=hs;refine⟨?_,by rw[List.length_set];exact s1,λj hj=>?_⟩
  .show y9 p ((ba p:Nat):Int) (K+1) ((x:Int),s)=_
   rw[y9];simp only[dt (show(x:Int)<((ba p:Nat):Int) by omega),ct,Mt hi,aH];rw[zC ab,aH,zI ab,Tk,U2 h0,aH,zC ab,aH];simp only[cm];rw[bx ab,aH];rfl
  .by_cases OG:j=x
   .subst OG;rw[fF ab]
   .rw[List.getElem?_set_ne (Ne.symm OG)];exact s2 j ab
 .rw[hr,y9];simp only[z6,cf]
def zlw(a b:zt):(u5 a b).bind (λx=>aY (decide (x>=0)))=aY (!(Gs a b)):=by
 have hc:∀x y:Int,yC x y=aY (if x<y then -1 else if x>y then 1 else 0):=λx y=>by
  unfold yC u0;simp only[aH,decide_true,bN,cf];by_cases h:x<y
  .rw[dt h,aO h];rfl
  .rw[df h,aN h];by_cases h2:x>y
   .rw[dt h2,aO h2];rfl
   .rw[df h2,aN h2];rfl
 have ho:∀x y:Int,Hh [x,y]=aY (if x=0 then y else x):=λx y=>by
  unfold Hh
  have e:KK=(KK-3)+3:=by have:=oo (n:=10) ab;omega
  rw[e,xT];simp only[show decide ((0:Int)<((ba [x,y]:Nat):Int))=bg from rfl,ct,show idx [x,y] 0=aY x from rfl,aH];by_cases h:x=0
  .rw[dt h,aO h];simp only[bN,cf];rw[show b_ (0+1)=1 from rfl,xT];simp only[show decide ((1:Int)<((ba [x,y]:Nat):Int))=bg from rfl,ct,show idx [x,y] 1=aY y from rfl,aH];by_cases h2:y=0
   .rw[dt h2,h2];simp only[bN,cf];rw[show b_ (1+1)=2 from rfl,xT];rfl
   .rw[df h2];rfl
  .rw[df h,aN h];rfl
 unfold u5;simp only[hc,ho,aH];unfold Gs;refine aP aY ?_;by_cases h1:a.X<b.X
 .simp[h1]
 .by_cases h2:a.X>b.X
  .have:¬a.X=b.X:=ab;simp[h1,h2,this]
  .have:a.X=b.X:=ab;by_cases h3:a.Y<b.Y
   .simp[this,h3]
   .by_cases h4:a.Y>b.Y
    .simp[this,h3,h4]
    .simp[this,h3,h4]
def qG{p:Prop}(h:¬p):pd p=bf:=(jN (b:=bf) ⟨λh=>(by cases h),λh2=>aQ h2 h⟩).symm
def LN(n:Nat)(g:Nat->Bool)(L:Nat->Int->Option (Bool⊕Unit))(a:Nat)(hn:n<4611686018427387904)(hL:∀K (i:Nat),a<=i->i<n->L (K+1) (i:Int)=bif g i then L K ((i+1:Nat):Int)else aY (bA bf))(hE:∀K (i:Nat),n<=i->L (K+1) (i:Int)=aY (bp ())):
  L KK (a:Int)=aY (bif pd (∀k,a<=k->k<n->g k=bg)then bp ()else bA bf):=by rw[U1 n a g _ _ L hL hE n a KK al ab (oo ab)];cases pd (∀k,a<=k->k<n->g k=bg)<;>rfl
def qm{o:Option (Bool⊕Unit)}{g r:Prop}{f:Unit->Option Bool}(h:o=aY (bif pd g then bp ()else bA bf))(hr:g->f ()=aY (pd r)):o.bind (yg aY f)=aY (pd (g/\r)):=by
 rw[xM]
 exact zyz h λhg=>hr (wC.1 hg)
def LO{p:List zt}:qy p=aY (pd (QO p)):=by
 unfold qy Ae;by_cases hh:4<=p.length/\p.length<=60
 .obtain⟨h4,EG⟩:=hh;obtain⟨l,e1,e2,e3⟩:=Sj (p:=p) ab EG
  have hl:∀j<p.length,idx l (j:Int)=aY (tJ p j):=λj hj=>zE (e3 j hj)
  rw[df (show ¬((ba p:Nat):Int)<4 by omega),df (show ¬((ba p:Nat):Int)>60 by omega),cf,aH,cf,e1,aH,KO];have hp:pd (QO p)=pd ((∀i,0<=i->i<p.length->(Gr p i&&FH p i)=bg)/\(∀i,0<=i->i<p.length->pd (∀k,i+2<=k->k<p.length->CI p i k=bg)=bg)/\¬(iS p 0).X=(iS p 1).X):=wA ⟨λh=>h.2,λh=>⟨⟨h4,EG⟩,h⟩⟩;rw[hp,e2]
  refine qm ?_ λ_=>qm ?_ λ_=>?_
  .refine LN p.length (λi=>Gr p i&&FH p i) (w6 p l (ba p:Nat)) 0 ab (λK i _ hi=>?_) (λK i hi=>?_)
   .rw[w6];simp only[dt (show(i:Int)<((ba p:Nat):Int) by omega),ct,hl i hi,aH,e2];rw[zC ab,aH,zI ab,Tk,hl _ (gK _ ab)];rw[show tJ p ((i+1) % p.length)=tJ p (i+1) by unfold tJ;rw[zEn,zy2],aH];have h0:idx p 0=aY (iS p 0):=Mt (p:=p) (i:=0) ab;refine zy1 (zqr (iS p i) (iS p (i+1)) (iS p (i+2))) ?_;unfold Gr FH;cases Gq (iS p i) (iS p (i+1)) (iS p (i+2))
    .rfl
    simp only[bN,cf,cg];by_cases C6:0<i
    .rw[dt (show(i:Int)>0 by omega),dt C6,ct,h0,Mt hi];simp only[aH,zlw,bN,fy];cases Gs (iS p 0) (iS p i)<;>rfl
    .rw[df (show ¬(i:Int)>0 by omega),df C6];rfl
   .rw[w6,df ab];rfl
  .refine LN p.length (λi=>pd (∀k,i+2<=k->k<p.length->CI p i k=bg)) (w8 l (ba p:Nat)) 0 ab (λK i _ hi=>?_) (λK i hi=>?_)
   .rw[w8,dt (show(i:Int)<((ba p:Nat):Int) by omega),ct,qF ab ab,show((i:Int)+2)=((i+2:Nat):Int) by omega];rw[LN p.length (λk=>CI p i k) (w7 l (i:Int) (ba p:Nat)) (i+2) ab (λK k p_ hk=>?_) (λK k hk=>?_),zI ab]
    .cases pd (∀k,i+2<=k->k<p.length->CI p i k=bg)<;>rfl
    .rw[w7,e2,dt (show(k:Int)<((ba p:Nat):Int) by omega),ct,qF (n:=(i:Int)+_) ab ab,qF ab ab,hl i hi,hl k hk]
     have hm:decide ((i:Int)+((ba p:Nat):Int)-(k:Int)>1)=!(decide ((k+1) % p.length=i)):=by
      by_cases o4:k+1=p.length
      .rw[o4,Nat.mod_self];by_cases C6:0=i
       .rw[dt C6,df ab];rfl
       .rw[df C6,dt ab];rfl
      .rw[fC ab];rw[df (show ¬k+1=i by omega),dt ab];rfl
     rw[hm];unfold CI;cases decide ((k+1) % p.length=i)
     .simp only[cH,ct,aH,fy]
      show(aM (bif (decide (max (min (iS p i).X (iS p (i+1)).X) (min (iS p k).X (iS p (k+1)).X)<=min (max (iS p i).X (iS p (i+1)).X) (max (iS p k).X (iS p (k+1)).X)))then aY (decide (max (min (iS p i).Y (iS p (i+1)).Y) (min (iS p k).Y (iS p (k+1)).Y)<=min (max (iS p i).Y (iS p (i+1)).Y) (max (iS p k).Y (iS p (k+1)).Y)))else aY bf) λx4=>aY x4).bind _=_
      rw[vy,aH,aH,zI ab];unfold PX;cases (decide (max (min (iS p i).X (iS p (i+1)).X) (min (iS p k).X (iS p (k+1)).X)<=min (max (iS p i).X (iS p (i+1)).X) (max (iS p k).X (iS p (k+1)).X))&&decide (max (min (iS p i).Y (iS p (i+1)).Y) (min (iS p k).Y (iS p (k+1)).Y)<=min (max (iS p i).Y (iS p (i+1)).Y) (max (iS p k).Y (iS p (k+1)).Y)))<;>rfl
     .rw[zI ab];rfl
    .rw[w7,e2,df ab];rfl
   .rw[w8,df ab];rfl
  .have:=hl 0 ab;rw[show((0:Nat):Int)=0 from rfl]at this;rw[this,aH,yd,aH];exact aP aY (jN (by simp[tJ]))
 .rw[qG (λh=>hh h.1)];by_cases h4:p.length<4
  .rw[dt (show((ba p:Nat):Int)<4 by omega)];rfl
  .rw[df (show ¬((ba p:Nat):Int)<4 by omega),dt (show((ba p:Nat):Int)>60 by omega)];rfl
def aeF:aj:=[97,110,100]
def zy3:aj:=[97,112,97,114,116]
def zEo:aj:=[98,97,115,101]
def aeG:aj:=[99,97,112]
def zEp:aj:=[101,108,115,101]
def zuf:aj:=[101,120,99,101,112,116]
def zEq:aj:=[102,114,111,109]
def zy4:aj:=[103,114,97,99,101]
def zy5:aj:=[104,111,117,114,115]
def acv:aj:=[105,102]
def acw:aj:=[105,110]
def zy6:aj:=[108,101,97,115,116]
def aeH:aj:=[110,111,116]
def acx:aj:=[111,114]
def zy7:aj:=[112,108,97,110,101]
def zy8:aj:=[115,108,111,112,101]
def aeI:aj:=[115,117,110]
def zy9:aj:=[116,97,98,108,101]
def zEr:aj:=[116,104,101,110]
def zza:aj:=[117,110,116,105,108]
def zEs:aj:=[117,115,101,115]
def zEt:aj:=[118,97,114,121]
def zEu:aj:=[118,105,101,119]
def y6:Option Nat->Int
 |some i=>(i:Int)
 |none=>-1
def Et:List aj:=[aeF,zy3,zEo,aeG,Lo,zEp,zuf,zEq,zy4,zy5,acv,acw,zy6,aeH,acx,RA,zy7,DT,zy8,aeI,zy9,zEr,zza,zEs,zEt,zEu,L']
def y7(s:aj):Bool:=Yt s&&!(decide (s∈Et))
def Bm:List aj->aj
 |[]=>[32]
 |w::r=>32::(w++Bm r)
def zug:∀l,∃t,Bm l=32::t
 |[]=>⟨[],rfl⟩
 |w::r=>⟨_,rfl⟩
def U3{t:aj}:∀{s w:aj},(∀b∈s,b≠32)->(∀b∈w,b≠32)->(s++[32]).isPrefixOf (w++32::t)=decide (s=w)
 |[],[],_,_=>by simp[dC]
 |[],b::w,_,h=>by
  have:=h b ak;simp[dC,Ne.symm this]
 |a::s,[],h,_=>by
  have:=h a ak;simp[dC,this]
 |a::s,b::w,h,h'=>by
  have ih:=U3 (t:=t) (s:=s) (w:=w) (λx hx=>h x (iT _ hx)) (λx hx=>h' x (iT _ hx));simp only[cK,dC,ih];by_cases e:a=b
  .subst e;simp
  .simp[e]
def Tl{x y:aj}:∀{w:aj},(∀b∈w,b≠32)->o7 (w++x) (32::y)=o7 x (32::y)
 |[],_=>rfl
 |b::w,h=>by have h1:=h b ak;rw[cK,o7,Tl λc hc=>h c (iT _ hc)];simp[dC,Ne.symm h1]
def Sk{s:aj}(hs:∀b∈s,b≠32):∀{l:List aj},(∀w∈l,∀b∈w,b≠32)->o7 (Bm l) (32::(s++[32]))=decide (s∈l)
 |[],_=>by cases s<;>simp[Bm,o7,dC]
 |w::r,h=>by
  obtain⟨t,ht⟩:=zug r;have hw:=h w ak;rw[Bm,o7,Tl hw,Sk hs λx hx=>h x (iT _ hx)]
  have:(32::(s++[32])).isPrefixOf (32::(w++Bm r))=decide (s=w):=by rw[ht];simp only[dC,beq_self_eq_true,cg];exact U3 hs hw
  rw[this];by_cases e:s=w
  .simp[e]
  .simp[e]
def zuh{c:UInt8}(h:uL c=bg):c≠32:=by rintro rfl;revert h;decide
def zlx{s:aj}(h:Yt s=bg):s.all uL=bg:=by
 cases s with
 |nil=>cases h
 |cons c r =>simp only[Yt,bn]at h;simp only[cZ,uL,h.1,Bool.true_or,cg];exact h.2.2
def zui{s:aj}(h:Yt s=bg):s.length<=20/\s≠[]:=by
 cases s with
 |nil=>cases h
 |cons c r =>simp only[Yt,bn,aU]at h;exact⟨h.2.1,ae⟩
def yc{s:aj}(h:0<=s.length):JH s=aY (y7 s):=by
 unfold JH y7;rw[zEl h,aH]
 cases hw:Yt s with
 |false=>rfl
 |true =>
  have mA:=(zui hw).1
  have hs:∀b∈s,b≠32:=λb hb=>zuh (bm.1 (zlx hw) b hb)
  have e:=Sk hs (l:=Et) ad;have e2:Bm Et=ze:=ad;rw[e2]at e;rw[ct,zC (by simp[mw];omega),aH,zC (by simp[mw];omega),aH]
  have:Ha ze ((mw++s)++mw)=aY (decide (s∈Et)):=by unfold Ha A5;rw[zC ad,aH,<- e];rfl
  rw[this];rfl
def ve(u:Bool):List aj->List aj->Bool
 |_,[]=>bg
 |seen,s::r=>y7 s&&(!(u&&decide (s∈seen))&&ve u (seen++[s]) r)
def Qf:∀(l seen:List aj),ve bf seen l=l.all y7
 |[],_=>rfl
 |s::r,seen=>by rw[ve,Qf r,cZ,dY,cH,cg]
def Zw:∀(l seen:List aj),ve bg seen l=bg->l.all y7=bg
 |[],_,_=>rfl
 |s::r,seen,h=>by simp only[ve,bn]at h;rw[cZ,h.1,Zw r _ h.2.2];rfl
def KM(m:List (aj×Bool))(L:List aj):Prop:=∀x,(vC x m).getD bf=decide (x∈L)
def Sl{α β:Type}[DecidableEq α](a x:α)(b:β):∀l:List (α×β),vC x (Hx a b l)=if x=a then aY b else vC x l
 |[]=>by simp[Hx,vC]
 |(k,c)::r=>by
  have ih:=Sl a x b r;simp only[Hx];by_cases h:a=k
  .rw[aO h];subst h;by_cases h2:x=a
   .simp[vC,h2]
   .simp[vC,h2]
  .rw[aN h];simp only[vC,ih];by_cases h2:x=k
   .subst h2;simp[Ne.symm h]
   .simp[h2]
def KM.add{m:List (aj×Bool)}{L:List aj}(h:KM m L)(s:aj):KM (Hx s bg m) (L++[s]):=λx=>by
 rw[Sl];by_cases hx:x=s
 .rw[aO hx];simp[hx]
 .rw[aN hx,h x];exact vz (by simp[hx])
def Un(u:Bool)(l:List aj)(hs:l.length<4611686018427387904)(hn:∀s∈l,0<=s.length):
  ∀(r:List aj)(i K:Nat)(m:List (aj×Bool))(seen:List aj),l.drop i=r->i<=l.length->r.length<K->KM m seen ->
   kA u l (l.length:Nat) K ((i:Int),m)=aY (bif ve u seen r then .inr ()else .inl bf)
 |[],i,K,m,seen,hr,hi,hK,hm=>by
  obtain⟨K,rfl⟩:∃k,K=k+1:=⟨K-1,by simp at hK;omega⟩
  have:=drop_nil hr hi;subst this;rw[kA,z6];rfl
 |x::r,i,K,m,seen,hr,hi,hK,hm=>by
  obtain⟨K,rfl⟩:∃k,K=k+1:=⟨K-1,by simp at hK;omega⟩
  obtain⟨h1,h2,h3⟩:=wT hr;simp only[lX]at hK;rw[kA,xm h1,ct,ve];simp only[zE h1,aH,yc (hn x (bK h1)),hm x]
  cases y7 x with
  |false=>rfl
  |true =>
   simp only[bN,cf,cg]
   cases hu:(u&&decide (x∈seen))with
   |true =>
    simp only[bn]at hu;rw[hu.1,hu.2];rfl
   |false =>
    have:(bif u then aY (decide (x∈seen))else aY bf)=aY bf:=by
     cases u
     .rfl
     .simpa using hu
    rw[this];simp only[aH,cf,cH,cg];rw[zI ab];exact Un u l hs hn r (i+1) K _ _ h2 ab ab (hm.add x)
def Lh{u:Bool}{l:List aj}(hs:l.length<4611686018427387904)(hn:∀s∈l,0<=s.length):vG l u=aY (ve u [] l):=by unfold vG;rw[show(0:Int)=((0:Nat):Int) from rfl,Un u l hs hn l 0 KK [] [] rfl (cx _) (oo ab) (λx=>by simp[vC])];cases ve u [] l<;>rfl
def Zx{α β:Type}(g:α->β):∀(l:List α)(s:List β),l.foldl (λs x=>s++[g x]) s=s++l.map g
 |[],s=>ae
 |x::l,s=>by rw[fJ,Zx g l];simp
def zly{α nF:Type}(l:List α)(g:α->aj)(L:Nat->(Int×List aj)->nF)(fin:List aj->nF)(hs:l.length<=1000)
  (hL:∀K (i:Nat) x s,l[i]?=aY x->ba s<=1000->L (K+1) ((i:Int),s)=L K (((i+1:Nat):Int),s++[g x])) (hE:∀K s,L (K+1) ((l.length:Int),s)=fin s):L KK (0,[])=fin (l.map g):=by have:=(Si l (λs x=>s++[g x]) fin (λi s=>s.length=i/\i<=l.length) (λK q s=>L K (q,s)) [] ab ⟨rfl,cx _⟩ (λK i x s h hi=>⟨hL K i x s h ab,by have:=wB h;simp;omega⟩) (λK s _=>hE K s)).1;rw[Zx]at this;simpa using this
def vR{α:Type}[Inhabited α](l:List α)(g:α->aj)(m:Nat)(L:Nat->(Int×List aj)->Option (List aj))(B:α->Option aj)(hs:l.length<=1000)(hn:∀x∈l,0<=(g x).length)
  (hL:∀K q,L (K+1) q=(bif (decide (q.1<((ba l:Nat):Int)))then(idx l q.1).bind λx1=>aM (B x1) λx2=>aM (fN (ba (q.2++([x2]:List aj))*16<=140737488355328)) λ_=>L K ((b_ (q.1+1)),(q.2++([x2]:List aj)))else aY q.2))
  (hB:∀x,B x=aY (g x)):(L KK (0,[])).bind (λx1=>(bif (decide (((ba l:Nat):Int)<=(m:Int)))then(vG x1 bg).bind λx2=>aY x2 else aY bf))=aY (decide (l.length<=m)&&ve bg [] (l.map g)):=by
 rw[zly l g L aY hs (λK i x s h h2=>?_) (λK s=>by rw[hL];simp only[z6,cf]),aH,Lh (by simp;omega) (λs h=>?_),DW _ m rfl]
 .cases decide (l.length<=m)<;>rfl
 .obtain⟨x,h1,rfl⟩:=bF.1 h;exact hn x h1
 .have:=wB h;rw[hL];simp only[xm h,ct,zE h,aH,hB];rw[zC (by rw[pa,List.length_singleton];omega),aH,zI ab]
-- expressions
def sU(op:Int):Int:=if op<=3 then 0 else if op=9∨op=15 then 1 else if op=16 then 3 else 2
def xn(e:Expr):Bool:=decide (0<=e.Op/\e.Op<17/\((e.fu.length:Nat):Int)=sU e.Op)&&(decide (if e.Op=0 then 0<=e.N/\e.N<=1099511627776 else e.N=0) &&
 ((if e.Op=1∨e.Op=2∨e.Op=3 then y7 e.S else decide (e.S=[]))&&(if e.Op=2 then y7 e.Key else decide (e.Key=[]))))
def pc:Nat->Expr->Bool
 |0,_=>bf
 |d+1,e=>xn e&&e.fu.all (pc d)
def zuj{n:Int}(h0:0<=n)(h1:n<17):n=0∨n=1∨n=2∨n=3∨n=9∨n=15∨n=16∨(¬n=0/\¬n=1/\¬n=2/\¬n=3/\¬n=9/\¬n=15/\¬n=16/\¬n<=3):=ab
def AO{n:Int}:decide ((min (max n 0) 1099511627776)=n)=decide (0<=n/\n<=1099511627776):=vz ab
def qH{s:aj}:decide ([]=s)=decide (s=[]):=vz ⟨Eq.symm,Eq.symm⟩
def vA{n:Int}:decide (0=n)=decide (n=0):=vz ⟨Eq.symm,Eq.symm⟩
def zEv{n:Int}{s k:aj}{az:List Expr} :xn ⟨0,n,s,k,az⟩=(decide (((az.length:Nat):Int)=0)&&(decide (0<=n/\n<=1099511627776)&&(decide (s=[])&&decide (k=[])))):=by simp[xn,sU]
def abj{RK:Nat}{d n:Int}{s k:aj}{az:List Expr}{r:Bool}(hd:¬d=0)(hS:0<=s.length)(hK:0<=k.length)(h:xn ⟨0,n,s,k,az⟩=bg->yq (zJ RK) d az ((ba az:Nat):Int) KK 0=aY (bif r then bp ()else bA bf)):zJ (RK+1) ⟨0,n,s,k,az⟩ d=aY (xn ⟨0,n,s,k,az⟩&&r):=by
 rw[zEv ]at h ⊢;rw[zJ];simp only[df hd,AO,qH,vA,yc hS,yc hK,bN,cH,cf,ct,aH,yg,Int.reduceEq,Int.reduceLT,Int.reduceGE,Int.reduceLE,decide_true,decide_false,ge_iff_le]
 cases ha:decide (((az.length:Nat):Int)=0)<;>cases hb:decide (0<=n/\n<=1099511627776)<;>cases hc:decide (s=[])<;>cases he:decide (k=[])<;>(first|rfl|(rw[ha,hb,hc,he]at h;rw[h rfl];cases r<;>rfl))
def zEw{n:Int}{s k:aj}{az:List Expr} :xn ⟨1,n,s,k,az⟩=(decide (((az.length:Nat):Int)=0)&&(decide (n=0)&&(y7 s&&decide (k=[])))):=by simp[xn,sU]
def abk{RK:Nat}{d n:Int}{s k:aj}{az:List Expr}{r:Bool}(hd:¬d=0)(hS:0<=s.length)(hK:0<=k.length)(h:xn ⟨1,n,s,k,az⟩=bg->yq (zJ RK) d az ((ba az:Nat):Int) KK 0=aY (bif r then bp ()else bA bf)):zJ (RK+1) ⟨1,n,s,k,az⟩ d=aY (xn ⟨1,n,s,k,az⟩&&r):=by
 rw[zEw ]at h ⊢;rw[zJ];simp only[df hd,AO,qH,vA,yc hS,yc hK,bN,cH,cf,ct,aH,yg,Int.reduceEq,Int.reduceLT,Int.reduceGE,Int.reduceLE,decide_true,decide_false,ge_iff_le]
 cases ha:decide (((az.length:Nat):Int)=0)<;>cases hb:decide (n=0)<;>cases hc:y7 s<;>cases he:decide (k=[])<;>(first|rfl|(rw[ha,hb,hc,he]at h;rw[h rfl];cases r<;>rfl))
def zEx{n:Int}{s k:aj}{az:List Expr} :xn ⟨2,n,s,k,az⟩=(decide (((az.length:Nat):Int)=0)&&(decide (n=0)&&(y7 s&&y7 k))):=by simp[xn,sU]
def abl{RK:Nat}{d n:Int}{s k:aj}{az:List Expr}{r:Bool}(hd:¬d=0)(hS:0<=s.length)(hK:0<=k.length)(h:xn ⟨2,n,s,k,az⟩=bg->yq (zJ RK) d az ((ba az:Nat):Int) KK 0=aY (bif r then bp ()else bA bf)):zJ (RK+1) ⟨2,n,s,k,az⟩ d=aY (xn ⟨2,n,s,k,az⟩&&r):=by
 rw[zEx ]at h ⊢;rw[zJ];simp only[df hd,AO,qH,vA,yc hS,yc hK,bN,cH,cf,ct,aH,yg,Int.reduceEq,Int.reduceLT,Int.reduceGE,Int.reduceLE,decide_true,decide_false,ge_iff_le]
 cases he:y7 k with
 |false=>simp only[fg,dY];rfl
 |true =>
  simp only[bN,cf,aH,yg,vA,decide_true]
  cases ha:decide (((az.length:Nat):Int)=0)<;>cases hb:decide (n=0)<;>cases hc:y7 s<;>(first|rfl|(rw[ha,hb,hc,he]at h;rw[h rfl];cases r<;>rfl))
def zEy{n:Int}{s k:aj}{az:List Expr} :xn ⟨3,n,s,k,az⟩=(decide (((az.length:Nat):Int)=0)&&(decide (n=0)&&(y7 s&&decide (k=[])))):=by simp[xn,sU]
def abm{RK:Nat}{d n:Int}{s k:aj}{az:List Expr}{r:Bool}(hd:¬d=0)(hS:0<=s.length)(hK:0<=k.length)(h:xn ⟨3,n,s,k,az⟩=bg->yq (zJ RK) d az ((ba az:Nat):Int) KK 0=aY (bif r then bp ()else bA bf)):zJ (RK+1) ⟨3,n,s,k,az⟩ d=aY (xn ⟨3,n,s,k,az⟩&&r):=by
 rw[zEy ]at h ⊢;rw[zJ];simp only[df hd,AO,qH,vA,yc hS,yc hK,bN,cH,cf,ct,aH,yg,Int.reduceEq,Int.reduceLT,Int.reduceGE,Int.reduceLE,decide_true,decide_false,ge_iff_le]
 cases ha:decide (((az.length:Nat):Int)=0)<;>cases hb:decide (n=0)<;>cases hc:y7 s<;>cases he:decide (k=[])<;>(first|rfl|(rw[ha,hb,hc,he]at h;rw[h rfl];cases r<;>rfl))
def zEz{n:Int}{s k:aj}{az:List Expr} :xn ⟨9,n,s,k,az⟩=(decide (((az.length:Nat):Int)=1)&&(decide (n=0)&&(decide (s=[])&&decide (k=[])))):=by simp[xn,sU]
def abn{RK:Nat}{d n:Int}{s k:aj}{az:List Expr}{r:Bool}(hd:¬d=0)(hS:0<=s.length)(hK:0<=k.length)(h:xn ⟨9,n,s,k,az⟩=bg->yq (zJ RK) d az ((ba az:Nat):Int) KK 0=aY (bif r then bp ()else bA bf)):zJ (RK+1) ⟨9,n,s,k,az⟩ d=aY (xn ⟨9,n,s,k,az⟩&&r):=by
 rw[zEz ]at h ⊢;rw[zJ];simp only[df hd,AO,qH,vA,yc hS,yc hK,bN,cH,cf,ct,aH,yg,Int.reduceEq,Int.reduceLT,Int.reduceGE,Int.reduceLE,decide_true,decide_false,ge_iff_le]
 cases ha:decide (((az.length:Nat):Int)=1)<;>cases hb:decide (n=0)<;>cases hc:decide (s=[])<;>cases he:decide (k=[])<;>(first|rfl|(rw[ha,hb,hc,he]at h;rw[h rfl];cases r<;>rfl))
def zzb{n:Int}{s k:aj}{az:List Expr} :xn ⟨15,n,s,k,az⟩=(decide (((az.length:Nat):Int)=1)&&(decide (n=0)&&(decide (s=[])&&decide (k=[])))):=by simp[xn,sU]
def acs{RK:Nat}{d n:Int}{s k:aj}{az:List Expr}{r:Bool}(hd:¬d=0)(hS:0<=s.length)(hK:0<=k.length)(h:xn ⟨15,n,s,k,az⟩=bg->yq (zJ RK) d az ((ba az:Nat):Int) KK 0=aY (bif r then bp ()else bA bf)):zJ (RK+1) ⟨15,n,s,k,az⟩ d=aY (xn ⟨15,n,s,k,az⟩&&r):=by
 rw[zzb ]at h ⊢;rw[zJ];simp only[df hd,AO,qH,vA,yc hS,yc hK,bN,cH,cf,ct,aH,yg,Int.reduceEq,Int.reduceLT,Int.reduceGE,Int.reduceLE,decide_true,decide_false,ge_iff_le]
 cases ha:decide (((az.length:Nat):Int)=1)<;>cases hb:decide (n=0)<;>cases hc:decide (s=[])<;>cases he:decide (k=[])<;>(first|rfl|(rw[ha,hb,hc,he]at h;rw[h rfl];cases r<;>rfl))
def zzc{n:Int}{s k:aj}{az:List Expr} :xn ⟨16,n,s,k,az⟩=(decide (((az.length:Nat):Int)=3)&&(decide (n=0)&&(decide (s=[])&&decide (k=[])))):=by simp[xn,sU]
def acu{RK:Nat}{d n:Int}{s k:aj}{az:List Expr}{r:Bool}(hd:¬d=0)(hS:0<=s.length)(hK:0<=k.length)(h:xn ⟨16,n,s,k,az⟩=bg->yq (zJ RK) d az ((ba az:Nat):Int) KK 0=aY (bif r then bp ()else bA bf)):zJ (RK+1) ⟨16,n,s,k,az⟩ d=aY (xn ⟨16,n,s,k,az⟩&&r):=by
 rw[zzc ]at h ⊢;rw[zJ];simp only[df hd,AO,qH,vA,yc hS,yc hK,bN,cH,cf,ct,aH,yg,Int.reduceEq,Int.reduceLT,Int.reduceGE,Int.reduceLE,decide_true,decide_false,ge_iff_le]
 cases ha:decide (((az.length:Nat):Int)=3)<;>cases hb:decide (n=0)<;>cases hc:decide (s=[])<;>cases he:decide (k=[])<;>(first|rfl|(rw[ha,hb,hc,he]at h;rw[h rfl];cases r<;>rfl))
def zE0{op n:Int}{s k:aj}{az:List Expr}(p_:0<=op)(tu:op<17)(h0:¬op=0)(h1:¬op=1)(h2:¬op=2)(h3:¬op=3)(h9:¬op=9)(B5:¬op=15)(si:¬op=16)(B6:¬op<=3):xn ⟨op,n,s,k,az⟩=(decide (((az.length:Nat):Int)=2)&&(decide (n=0)&&(decide (s=[])&&decide (k=[])))):=by simp[xn,sU,h0,h1,h2,h3,h9,B5,si,B6,p_,tu]
def abo{RK:Nat}{op d n:Int}{s k:aj}{az:List Expr}{r:Bool}(p_:0<=op)(tu:op<17)(h0:¬op=0)(h1:¬op=1)(h2:¬op=2)(h3:¬op=3)(h9:¬op=9)(B5:¬op=15)(si:¬op=16)(B6:¬op<=3)(hd:¬d=0)(hS:0<=s.length)(hK:0<=k.length)(h:xn ⟨op,n,s,k,az⟩=bg->yq (zJ RK) d az ((ba az:Nat):Int) KK 0=aY (bif r then bp ()else bA bf)):zJ (RK+1) ⟨op,n,s,k,az⟩ d=aY (xn ⟨op,n,s,k,az⟩&&r):=by
 rw[zE0 p_ tu h0 h1 h2 h3 h9 B5 si B6]at h ⊢;rw[zJ];simp only[df h0,df h1,df h2,df h3,df h9,df B5,df si,df B6,df (Int.not_lt.2 p_),df (Int.not_le.2 tu),df hd,AO,qH,vA,yc hS,yc hK,bN,cH,cf,ct,aH,yg,Int.reduceEq,Int.reduceLT,Int.reduceGE,Int.reduceLE,decide_true,decide_false,ge_iff_le]
 cases ha:decide (((az.length:Nat):Int)=2)<;>cases hb:decide (n=0)<;>cases hc:decide (s=[])<;>cases he:decide (k=[])<;>(first|rfl|(rw[ha,hb,hc,he]at h;rw[h rfl];cases r<;>rfl))
def zE1{RK:Nat}{d:Int}{e:Expr}{r:Bool}(hd:¬d=0)(hS:0<=e.S.length)(hK:0<=e.Key.length)(h:xn e=bg->yq (zJ RK) d e.fu ((ba e.fu:Nat):Int) KK 0=aY (bif r then bp ()else bA bf)):zJ (RK+1) e d=aY (xn e&&r):=by
 obtain⟨op,n,s,k,az⟩:=e;by_cases p_:0<=op
 .by_cases tu:op<17
  .obtain rfl|rfl|rfl|rfl|rfl|rfl|rfl|⟨h0,h1,h2,h3,h9,B5,si,B6⟩:=zuj p_ tu
   .exact abj hd hS hK h
   .exact abk hd hS hK h
   .exact abl hd hS hK h
   .exact abm hd hS hK h
   .exact abn hd hS hK h
   .exact acs hd hS hK h
   .exact acu hd hS hK h
   .exact abo p_ tu h0 h1 h2 h3 h9 B5 si B6 hd hS hK h
  .have:xn ⟨op,n,s,k,az⟩=bf:=by simp[xn,tu]
   rw[this,zJ];simp only[df hd,df (show ¬op<0 by omega),dt (show op>=17 by omega)];rfl
 .have:xn ⟨op,n,s,k,az⟩=bf:=by simp[xn,p_]
  rw[this,zJ];simp only[df hd,dt (show op<0 by omega)];rfl
def zzd{e:Expr}(h:oL e=bg):0<=e.S.length/\0<=e.Key.length:=by obtain⟨op,n,s,k,az⟩:=e;rw[oL]at h;simp only[bn,aU]at h;exact h.2
def zlz{e x:Expr}(h:oL e=bg)(hx:x∈e.fu):oL x=bg:=by obtain⟨op,n,s,k,az⟩:=e;rw[oL,Zv]at h;simp only[bn]at h;exact bm.1 h.1 x hx
def zuk{e:Expr}{n:Nat}(h:QN e<=n):e.fu.length<n:=by
 obtain⟨op,m,s,k,az⟩:=e;rw[QN]at h;have:=Vb az
 show az.length<n
 omega
def zul{e x:Expr}{n:Nat}(h:QN e<=n)(hx:x∈e.fu):QN x<=n:=by obtain⟨op,m,s,k,az⟩:=e;rw[QN]at h;have:=Vc (show x∈az from hx);omega
def zum:∀(d:Nat)(e:Expr)(K:Nat),d<K->d<=1000->QN e<=5000->oL e=bg->zJ K e (d:Int)=aY (pc d e):=by
 intro d
 induction d with
 |zero =>
  intro e K hK _ _ _
  obtain⟨K,rfl⟩:∃k,K=k+1:=⟨K-1,ab⟩
  rw[zJ];rfl
 |succ d ih =>
  intro e K hK hd hn hs
  obtain⟨K,rfl⟩:∃k,K=k+1:=⟨K-1,ab⟩
  have h1:=zzd hs;have hz:=zuk hn;rw[pc]
  refine zE1 ab ab ab λ_=>?_
  refine Lg e.fu (pc d) _ (λq=>aM (idx e.fu q) λx1=>aM (zJ K (Expr.mk x1.Op x1.N x1.S x1.Key x1.fu) (b_ (((d+1:Nat):Int)-1))) λx2=>aY (!x2)) ab (λK q=>?_) λi x hx=>?_
  .rw[yq];simp only[cC,aH]
  .have z_:=bK hx;rw[zE hx,aH,zD,qF ab ab,show(((d+1:Nat):Int)-1)=(d:Int) by omega,ih x K ab ab (zul hn z_) (zlz hs z_)];rfl
def Li{e:Expr}(h:nR e=bg):QN e<=5000/\oL e=bg:=by unfold nR at h;simp only[bn,aU]at h;exact h
def Qg{e:Expr}(h:nR e=bg):vH e=aY (pc 12 e):=by unfold vH;obtain⟨h1,h2⟩:=Li h;rw[zD,show(12:Int)=((12:Nat):Int) from rfl,zum 12 e KK (oo ab) ab ab h2];rfl
def WS{a b:Int}{l:List Int}(h:l.length<1000):zB a b l=aY (l.all λn=>decide (a<=n)&&decide (n<=b)):=by
 unfold zB;rw[Lg l (λn=>decide (a<=n)&&decide (n<=b)) (qc a b l (ba l:Nat)) (λq=>aM (idx l q) λx1=>(bif (decide (x1<a))then aY bg else aY (decide (x1>b)))) ab (λK q=>?_) λi x hx=>?_]
 .cases l.all λn=>decide (a<=n)&&decide (n<=b)<;>rfl
 .rw[qc];simp only[cC]
 .rw[zE hx,aH];by_cases h1:a<=x
  .rw[df (show ¬x<a by omega),dt h1,cf,cg];by_cases h2:x<=b
   .rw[dt h2,df (show ¬x>b by omega)];rfl
   .rw[df h2,dt (show x>b by omega)];rfl
  .rw[dt (show x<a by omega),df h1];rfl
def qn{a b x:Int}:zB a b [x]=aY (pd (a<=x/\x<=b)):=by rw[WS ae];exact aP aY (jN ae)
def KQ{a b x y:Int}:zB a b [x,y]=aY (pd ((a<=x/\x<=b)/\(a<=y/\y<=b))):=by rw[WS ae];exact aP aY (jN ae)
def zze{a b x y z:Int}:zB a b [x,y,z]=aY (pd ((a<=x/\x<=b)/\(a<=y/\y<=b)/\(a<=z/\z<=b))):=by rw[WS ae];exact aP aY (jN ae)
def km:Expr:=⟨0,0,[],[],[]⟩
def WT(r:za):Prop:=
 (0<=r.aL/\r.aL<=3)/\(r.aL=0->pc 12 r.Test=bg)/\(¬r.aL=0->r.Test=km) /\
 (r.aL=1->(0<=r.zg.me/\r.zg.me<=3)/\(0<=r.zg.mb/\r.zg.mb<=4096)/\(0<=r.zg.l8/\r.zg.l8<=4096)/\(1<=r.zg.Den/\r.zg.Den<=4096))/\(¬r.aL=1->r.zg=⟨0,0,0,0⟩) /\
 (r.aL=2->1<=r.Uses/\r.Uses<=63)/\(r.aL=3->(0<=r.Uses/\r.Uses<=5)/\(0<=r.iD/\r.iD<=5)/\(0<=r.N/\r.N<=1048576)) /\
 (¬r.aL=2->¬r.aL=3->r.Uses=0)/\(¬r.aL=3->r.iD=0/\r.N=0)
def PT(r:za):Prop:=(0<=r.il/\r.il<=1073741824)/\(0<=r.iI/\r.iI<=1073741824)/\(0<=r.hJ/\r.hJ<=1073741824)/\(r.hJ=0∨r.il<r.hJ)
def WU(r:za):Prop:=((r.aA.all y7=bg/\r.Except.all y7=bg)/\PT r)/\WT r
def R3{l:List aj}(h:CH l=bg):l.length<=3000/\∀s∈l,0<=s.length:=by unfold CH at h;simp only[bn,aU,bm]at h;exact⟨h.2,h.1⟩
def Vd{r:za}(h:nC r=bg):0<=r.aK.length/\(r.aA.length<=3000/\∀s∈r.aA,0<=s.length)/\(r.Except.length<=3000/\∀s∈r.Except,0<=s.length)/\nR r.Test=bg:=by unfold nC at h;simp only[bn,aU]at h;exact⟨h.1,R3 h.2.1,R3 h.2.2.1,h.2.2.2⟩
def uN{e:Expr}(h:nR e=bg):uM e:=by have:=(Li h).1;unfold uM;omega
def zqu{A B C:Bool}{un fr:Int}:((bif (!A)then aY bg else(bif (!B)then aY bg else(bif (!C)then aY bg else(bif (!(decide (un=0)))then aY (decide (un<=fr))else aY bf)))):Option Bool)=aY (!(A&&(B&&(C&&pd (un=0∨fr<un))))):=by
 have:pd (un=0∨fr<un)=(decide (un=0)||decide (fr<un)):=(jN ae).symm;rw[this]
 have lt:decide (un<=fr)=!(decide (fr<un)):=by
  by_cases h:un<=fr
  .rw[dt h,df ab];rfl
  .rw[df h,dt ab];rfl
 rw[lt];cases A<;>cases B<;>cases C<;>cases decide (un=0)<;>rfl
def KR{p:Prop}(h:p):pd p=bg:=wC.2 h
def zqv{r:za}(h:nC r=bg):qd r=aY (pd (WU r)):=by
 obtain⟨_,⟨z1,z2⟩,⟨x1,x2⟩,te⟩:=Vd h;obtain⟨nm,zs,ex,fr,un,gr,va,ki,t,⟨ps,pb,pn,nq⟩,us,ot,n⟩:=r;simp only at z1 z2 x1 x2 te;have n1:=Lh (u:=bf) (l:=zs) ab (λs hs=>by have:=z2 s hs;omega);have n2:=Lh (u:=bf) (l:=ex) ab (λs hs=>by have:=x2 s hs;omega);rw[Qf]at n1 n2
 have sm:∀x,vJ ⟨nm,zs,ex,fr,un,gr,va,ki,t,⟨ps,pb,pn,nq⟩,us,ot,n⟩ x=aY (pd ((⟨nm,zs,ex,fr,un,gr,va,ki,t,⟨ps,pb,pn,nq⟩,us,ot,n⟩:za)=x)):=λx=>Sg (a:=⟨nm,zs,ex,fr,un,gr,va,ki,t,⟨ps,pb,pn,nq⟩,us,ot,n⟩) (by show zs.length<_;omega) (by show ex.length<_;omega) (uN te)
 have hp:pd (WU ⟨nm,zs,ex,fr,un,gr,va,ki,t,⟨ps,pb,pn,nq⟩,us,ot,n⟩)=((zs.all y7&&(ex.all y7&&(pd ((0<=fr/\fr<=1073741824)/\(0<=gr/\gr<=1073741824)/\(0<=un/\un<=1073741824))&&pd (un=0∨fr<un))))&&pd (WT ⟨nm,zs,ex,fr,un,gr,va,ki,t,⟨ps,pb,pn,nq⟩,us,ot,n⟩)):=by
  refine(jN ?_).symm;simp only[bn,wC,WU,PT];constructor
  .rintro⟨⟨a,b,⟨c,d,e⟩,f⟩,g⟩;exact⟨⟨⟨a,b⟩,c,d,e,f⟩,g⟩
  .rintro⟨⟨⟨a,b⟩,c,d,e,f⟩,g⟩;exact⟨⟨a,b,⟨c,d,e⟩,f⟩,g⟩
 rw[hp];unfold qd;simp only[n1,n2,zze,aH];rw[zqu,aH];cases hh:(zs.all y7&&(ex.all y7&&(pd ((0<=fr/\fr<=1073741824)/\(0<=gr/\gr<=1073741824)/\(0<=un/\un<=1073741824))&&pd (un=0∨fr<un))))
 .rfl
 simp only[bN,cf,cg];by_cases k0:ki=0
 .subst k0;simp only[decide_true,ct,zD,Qg te,aH]
  have hb:pd (WT ⟨nm,zs,ex,fr,un,gr,va,0,t,⟨ps,pb,pn,nq⟩,us,ot,n⟩)=(pc 12 t&&pd ((⟨nm,zs,ex,fr,un,gr,va,0,t,⟨ps,pb,pn,nq⟩,us,ot,n⟩:za)=⟨nm,zs,ex,fr,un,gr,va,0,t,⟨0,0,0,0⟩,0,0,0⟩)):=by refine(jN ?_).symm;simp only[bn,wC,WT,za.mk.injEq,zg.mk.injEq];simp
  rw[hb,sm];cases pc 12 t<;>rfl
 .by_cases k1:ki=1
  .subst k1;simp only[df k0,decide_true,ct,cf,zD,qn,KQ,aH]
   have hb:pd (WT ⟨nm,zs,ex,fr,un,gr,va,1,t,⟨ps,pb,pn,nq⟩,us,ot,n⟩)=(pd (0<=ps/\ps<=3)&&(pd ((0<=pb/\pb<=4096)/\(0<=pn/\pn<=4096))&&(pd (1<=nq/\nq<=4096)&&pd ((⟨nm,zs,ex,fr,un,gr,va,1,t,⟨ps,pb,pn,nq⟩,us,ot,n⟩:za)=⟨nm,zs,ex,fr,un,gr,va,1,⟨0,0,[],[],[]⟩,⟨ps,pb,pn,nq⟩,0,0,0⟩)))):=by
    refine(jN ?_).symm;simp only[bn,wC,WT,za.mk.injEq,zg.mk.injEq,km];simp
    grind
   rw[hb];cases pd (0<=ps/\ps<=3)
   .rfl
   cases pd ((0<=pb/\pb<=4096)/\(0<=pn/\pn<=4096))
   .rfl
   cases pd (1<=nq/\nq<=4096)
   .rfl
   simp only[ct,aH,sm,cg]
  .by_cases k2:ki=2
   .subst k2;simp only[df k0,df k1,decide_true,ct,cf,zD,qn,KQ,aH]
    have hb:pd (WT ⟨nm,zs,ex,fr,un,gr,va,2,t,⟨ps,pb,pn,nq⟩,us,ot,n⟩)=(pd (1<=us/\us<=63)&&pd ((⟨nm,zs,ex,fr,un,gr,va,2,t,⟨ps,pb,pn,nq⟩,us,ot,n⟩:za)=⟨nm,zs,ex,fr,un,gr,va,2,⟨0,0,[],[],[]⟩,⟨0,0,0,0⟩,us,0,0⟩)):=by
     refine(jN ?_).symm;simp only[bn,wC,WT,za.mk.injEq,zg.mk.injEq,km];simp
     grind
    rw[hb];cases pd (1<=us/\us<=63)
    .rfl
    simp only[ct,aH,sm,cg]
   .by_cases k3:ki=3
    .subst k3;simp only[df k0,df k1,df k2,decide_true,ct,cf,zD,qn,KQ,aH]
     have hb:pd (WT ⟨nm,zs,ex,fr,un,gr,va,3,t,⟨ps,pb,pn,nq⟩,us,ot,n⟩)=(pd ((0<=us/\us<=5)/\(0<=ot/\ot<=5))&&(pd (0<=n/\n<=1048576)&&pd ((⟨nm,zs,ex,fr,un,gr,va,3,t,⟨ps,pb,pn,nq⟩,us,ot,n⟩:za)=⟨nm,zs,ex,fr,un,gr,va,3,⟨0,0,[],[],[]⟩,⟨0,0,0,0⟩,us,ot,n⟩))):=by
      refine(jN ?_).symm;simp only[bn,wC,WT,za.mk.injEq,zg.mk.injEq,km];simp
      grind
     rw[hb];cases pd ((0<=us/\us<=5)/\(0<=ot/\ot<=5))
     .rfl
     cases pd (0<=n/\n<=1048576)
     .rfl
     simp only[ct,aH,sm,cg]
    .simp only[df k0,df k1,df k2,df k3,cf,aH]
     have hb:pd (WT ⟨nm,zs,ex,fr,un,gr,va,ki,t,⟨ps,pb,pn,nq⟩,us,ot,n⟩)=bf:=by refine(jN (b:=bf) ⟨λh=>(by cases h),λh=>?_⟩).symm;obtain⟨⟨h1,h2⟩,_⟩:=h;simp only at h1 h2;omega
     rw[hb]
def vS{α:Type}(l:List α)(P:α->Prop)(L:Nat->Int->Option (Bool⊕Unit))(B:Int->Option Bool)(hs:l.length<4611686018427387904)
  (hL:∀K q,L (K+1) q=(bif (decide (q<((ba l:Nat):Int)))then(B q).bind λr=>(bif r then aY (bA bf)else L K (b_ (q+1)))else aY (bp ())))
  (hB:∀(i:Nat) x,l[i]?=aY x->B (i:Int)=aY (!(pd (P x)))):L KK 0=aY (bif pd (∀x∈l,P x)then bp ()else bA bf):=by rw[Lg l (λx=>pd (P x)) L B ab hL hB];have:l.all (λx=>pd (P x))=pd (∀x∈l,P x):=jN (by simp only[bm,wC]);rw[this]
def DV(p:zh):Prop:=(0<=p.X/\p.X<=1048576)/\(0<=p.Y/\p.Y<=1048576)/\(0<=p.Z_/\p.Z_<=4096)
def FI(p:zh):Prop:=(-4096<=p.X/\p.X<=4096)/\(-4096<=p.Y/\p.Y<=4096)/\(1<=p.Z_/\p.Z_<=4096)
def AP(t:ar):Prop:=(t.Rows.length<=60/\ve bg [] (t.Rows.map av.aK)=bg)/\(-1099511627776<=t.mD/\t.mD<=1099511627776)/\∀x∈t.Rows,-1099511627776<=x.N/\x.N<=1099511627776
def CJ(c:eC):Prop:=(0<=c.oS/\c.oS<=2)/\(0<=c.mM/\c.mM<=1099511627776)/\QO c.ay
def tI(v:au):Prop:=(0<=v.oU/\v.oU<=20)/\(1<=((v.lL.length:Nat):Int)/\((v.lL.length:Nat):Int)<=20)/\DV v.l3/\∀x∈v.lL,DV x
def xG{α:Type}(l:List α)(g:α->aj)(m:Nat):Prop:=l.length<=m/\ve bg [] (l.map g)=bg
def FJ(p:yf):Prop:=(∀d∈p.aE,pc 12 d.Body=bg)/\(∀t∈p.Tables,AP t)/\(∀z∈p.aA,QO z.ay)/\(∀r∈p.aB,WU r)/\(∀c∈p.aI,CJ c)/\(∀v∈p.aF,tI v)/\(∀d∈p.aJ,FI d)
def qI(p:yf):Prop:=
 (xG p.aE Def.aK 60/\xG p.Tables ar.aK 60/\xG p.aA zq.aK 60/\xG p.aB za.aK 200/\xG p.aI eC.aK 30/\xG p.aF au.aK 60)/\FJ p/\(0<=p.aG/\p.aG<=24)/\p.aJ.length<=24
def Jf{α:Type}{l:List α}{g:α->aj}{m:Nat}:(decide (l.length<=m)&&ve bg [] (l.map g))=pd (xG l g m):=jN (by simp[xG])
def zzf{l:List Def}(hs:l.length<=1000)(hn:∀x∈l,0<=x.aK.length):Q2 l 60=aY (pd (xG l Def.aK 60)):=by
 rw[<- Jf];unfold Q2
 exact vR l Def.aK 60 (uZ l 60 (ba l:Nat)) (λx=>aY x.aK) hs hn (λK q=>rfl) λx=>rfl
def zzg{l:List ar}(hs:l.length<=1000)(hn:∀x∈l,0<=x.aK.length):Hb l 60=aY (pd (xG l ar.aK 60)):=by
 rw[<- Jf];unfold Hb
 exact vR l ar.aK 60 (ke l 60 (ba l:Nat)) (λx=>aY x.aK) hs hn (λK q=>rfl) λx=>rfl
def zzh{l:List zq}(hs:l.length<=1000)(hn:∀x∈l,0<=x.aK.length):Hc l 60=aY (pd (xG l zq.aK 60)):=by
 rw[<- Jf];unfold Hc
 exact vR l zq.aK 60 (kf l 60 (ba l:Nat)) (λx=>aY x.aK) hs hn (λK q=>rfl) λx=>rfl
def zzi{l:List za}(hs:l.length<=1000)(hn:∀x∈l,0<=x.aK.length):Hd l 200=aY (pd (xG l za.aK 200)):=by
 rw[<- Jf];unfold Hd
 exact vR l za.aK 200 (kg l 200 (ba l:Nat)) (λx=>aY x.aK) hs hn (λK q=>rfl) λx=>rfl
def zzj{l:List eC}(hs:l.length<=1000)(hn:∀x∈l,0<=x.aK.length):He l 30=aY (pd (xG l eC.aK 30)):=by
 rw[<- Jf];unfold He
 exact vR l eC.aK 30 (kh l 30 (ba l:Nat)) (λx=>aY x.aK) hs hn (λK q=>rfl) λx=>rfl
def zzk{l:List au}(hs:l.length<=1000)(hn:∀x∈l,0<=x.aK.length):Hf l 60=aY (pd (xG l au.aK 60)):=by
 rw[<- Jf];unfold Hf
 exact vR l au.aK 60 (kj l 60 (ba l:Nat)) (λx=>aY x.aK) hs hn (λK q=>rfl) λx=>rfl
def zzl{l:List av}(hs:l.length<=1000)(hn:∀x∈l,0<=x.aK.length):Hg l 60=aY (pd (xG l av.aK 60)):=by
 rw[<- Jf];unfold Hg
 exact vR l av.aK 60 (kl l 60 (ba l:Nat)) (λx=>aY x.aK) hs hn (λK q=>rfl) λx=>rfl
structure rf(p:yf):Prop where
 d:p.aE.length<=300
 t:p.Tables.length<=300
 z:p.aA.length<=300
 r:p.aB.length<=300
 c:p.aI.length<=300
 v:p.aF.length<=300
 s:p.aJ.length<=64
 ds:∀x∈p.aE,0<=x.aK.length/\nR x.Body=bg
 ts:∀x∈p.Tables,0<=x.aK.length/\x.Rows.length<=64/\∀y∈x.Rows,0<=y.aK.length
 zs:∀x∈p.aA,0<=x.aK.length/\x.ay.length<=64
 rs:∀x∈p.aB,nC x=bg
 cs:∀x∈p.aI,0<=x.aK.length/\x.ay.length<=64
 vs:∀x∈p.aF,0<=x.aK.length/\x.lL.length<=64
def AQ{o:Option Bool}{f:Option Bool}{g r:Prop}(h:o=aY (pd g))(hr:g->f=aY (!(pd r))):(o.bind λx=>bif (!x)then aY bg else f)=aY (!(pd (g/\r))):=by
 rw[xM]
 exact zub h λhg=>hr (wC.1 hg)
def jb{o:Option Bool}{g:Prop}(h:o=aY (pd g)):(o.bind λx=>aY (!x))=aY (!(pd g)):=by rw[h];rfl
def pdb{b:Bool}:aY b=aY (pd (b=bg)):=aP aY (jN Iff.rfl)
section code
variable{c0:List Def}{c1:Int}{c2:List ar}{c3:List zq}{c4:List za}{c5:List eC}{c6:List au}{c7:List zh}{c8:Int}
def acB(hl:c0.length<=300)(h:∀x∈c0,0<=x.aK.length/\nR x.Body=bg):kB c0 (ba c0:Nat) c2 c3 c4 c5 c6 c7 c8 KK 0=aY (bif pd (∀d∈c0,pc 12 d.Body=bg)then .inr ()else .inl bf):=by
 refine vS c0 (λd=>pc 12 d.Body=bg) (kB c0 (ba c0:Nat) c2 c3 c4 c5 c6 c7 c8) (λq=>aM (idx c0 q) λx1=>aM (vH (Expr.mk x1.Body.Op x1.Body.N x1.Body.S x1.Body.Key x1.Body.fu)) λx2=>aY (!x2)) ab (λK q=>?_) λi x hx=>?_
 .rw[kB];simp only[cC,aH]
 .rw[zE hx,aH,zD];exact jb ((Qg (h x (bK hx)).2).trans pdb)
def acC{c0:List ar}{c2:List Def}(hl:c0.length<=300)(h:∀x∈c0,0<=x.aK.length/\x.Rows.length<=64/\∀y∈x.Rows,0<=y.aK.length):vK c0 (ba c0:Nat) c2 c3 c4 c5 c6 c7 c8 KK 0=aY (bif pd (∀d∈c0,AP d)then .inr ()else .inl bf):=by
 have key:=Hn c0 (λx=>pd (AP x)) (aY (bp ())) (aY (bA bf)) (vK c0 (ba c0:Nat) c2 c3 c4 c5 c6 c7 c8) ab (λK i x hx=>?_) (λK=>by rw[vK,z6];rfl)
 .have:c0.all (λx=>pd (AP x))=pd (∀x∈c0,AP x):=jN (by simp only[bm,wC]);rw[key,this];cases pd (∀x∈c0,AP x)<;>rfl
 .have hi:=wB hx;obtain⟨_,h2,h3⟩:=h x (bK hx);rw[vK,xm hx,ct,zE hx,aH,zI ab];rw[AQ (zzl (l:=x.Rows) ab (λy hy=>by have:=h3 y hy;omega)) (λ_=>jb qn),aH]
  have hp:pd (AP x)=(pd (xG x.Rows av.aK 60/\-1099511627776<=x.mD/\x.mD<=1099511627776)&&pd (∀y∈x.Rows,-1099511627776<=y.N/\y.N<=1099511627776)):=by rw[<- xM];exact wA ⟨λ⟨a,b,c⟩=>⟨⟨a,b⟩,c⟩,λ⟨⟨a,b⟩,c⟩=>⟨a,b,c⟩⟩
  simp only[hp];cases pd (xG x.Rows av.aK 60/\-1099511627776<=x.mD/\x.mD<=1099511627776)
  .rfl
  rw[bN,cf,cg];rw[vS x.Rows (λy=>-1099511627776<=y.N/\y.N<=1099511627776) (uq c0 (ba c0:Nat) (i:Int) x.Rows (ba x.Rows:Nat) c2 c3 c4 c5 c6 c7 c8) (λq=>aM (idx x.Rows q) λx1=>aM (zB (-1099511627776) 1099511627776 ([x1.N]:List Int)) λx2=>aY (!x2)) ab (λK q=>?_) λj y hy=>?_]
  .cases pd (∀y∈x.Rows,-1099511627776<=y.N/\y.N<=1099511627776)<;>rfl
  .rw[uq];simp only[cC,aH]
  .rw[zE hy,aH];exact jb qn
def acD{c0:List zq}{c2:List Def}{c3:List ar}(hl:c0.length<=300):kC c0 (ba c0:Nat) c2 c3 c4 c5 c6 c7 c8 KK 0=aY (bif pd (∀d∈c0,QO d.ay)then .inr ()else .inl bf):=by
 refine vS c0 (λd=>QO d.ay) (kC c0 (ba c0:Nat) c2 c3 c4 c5 c6 c7 c8) (λq=>aM (idx c0 q) λx1=>aM (qy x1.ay) λx2=>aY (!x2)) ab (λK q=>?_) λi x hx=>?_
 .rw[kC];simp only[cC,aH]
 .rw[zE hx,aH];exact jb LO
def acE{c0:List za}{c2:List Def}{c3:List ar}{c4:List zq}(hl:c0.length<=300)(h:∀x∈c0,nC x=bg):kD c0 (ba c0:Nat) c2 c3 c4 c5 c6 c7 c8 KK 0=aY (bif pd (∀d∈c0,WU d)then .inr ()else .inl bf):=by
 refine vS c0 WU (kD c0 (ba c0:Nat) c2 c3 c4 c5 c6 c7 c8) (λq=>aM (idx c0 q) λx1=>aM (qd (za.mk x1.aK x1.aA x1.Except x1.il x1.hJ x1.iI x1.iN x1.aL (Expr.mk x1.Test.Op x1.Test.N x1.Test.S x1.Test.Key x1.Test.fu) x1.zg x1.Uses x1.iD x1.N)) λx2=>aY (!x2)) ab (λK q=>?_) λi x hx=>?_
 .rw[kD];simp only[cC,aH]
 .rw[zE hx,aH,zD];exact jb (zqv (h x (bK hx)))
def acF{c0:List eC}{c2:List Def}{c3:List ar}{c4:List zq}{c5:List za}(hl:c0.length<=300):kE c0 (ba c0:Nat) c2 c3 c4 c5 c6 c7 c8 KK 0=aY (bif pd (∀d∈c0,CJ d)then .inr ()else .inl bf):=by
 refine vS c0 CJ (kE c0 (ba c0:Nat) c2 c3 c4 c5 c6 c7 c8) (λq=>aM (idx c0 q) λx1=>(aM (zB 0 2 ([x1.oS]:List Int)) λx3=>(bif (!x3)then aY bg else(zB 0 1099511627776 ([x1.mM]:List Int)).bind λx4=>(bif (!x4)then aY bg else(qy x1.ay).bind λx5=>aY (!x5))))) ab (λK q=>?_) λi x hx=>?_
 .rw[kE];simp only[cC]
 .rw[zE hx,aH]
  exact AQ qn λ_=>AQ qn λ_=>jb LO
def acG{c0:List au}{c2:List Def}{c3:List ar}{c4:List zq}{c5:List za}{c6:List eC}(hl:c0.length<=300)(h:∀x∈c0,0<=x.aK.length/\x.lL.length<=64):vL c0 (ba c0:Nat) c2 c3 c4 c5 c6 c7 c8 KK 0=aY (bif pd (∀d∈c0,tI d)then .inr ()else .inl bf):=by
 have key:=Hn c0 (λx=>pd (tI x)) (aY (bp ())) (aY (bA bf)) (vL c0 (ba c0:Nat) c2 c3 c4 c5 c6 c7 c8) ab (λK i x hx=>?_) (λK=>by rw[vL,z6];rfl)
 .have:c0.all (λx=>pd (tI x))=pd (∀x∈c0,tI x):=jN (by simp only[bm,wC]);rw[key,this];cases pd (∀x∈c0,tI x)<;>rfl
 .have hi:=wB hx;obtain⟨_,h2⟩:=h x (bK hx);rw[vL,xm hx,ct,zE hx,aH,zI ab];rw[AQ qn (λ_=>jb qn),aH]
  have hp:pd (tI x)=(pd ((0<=x.oU/\x.oU<=20)/\(1<=((x.lL.length:Nat):Int)/\((x.lL.length:Nat):Int)<=20))&&pd (∀y∈([x.l3]++x.lL),DV y)):=by
   rw[<- xM]
   exact wA ⟨λ⟨a,b,c,d⟩=>⟨⟨a,b⟩,λy hy=>by
    rcases bI.1 hy with h1|h1
    .rw[gX.1 h1];exact c
    .exact d y h1⟩,λ⟨⟨a,b⟩,c⟩=>⟨a,b,c _ ae,λy hy=>c y (by simp[hy])⟩⟩
  simp only[hp];cases pd ((0<=x.oU/\x.oU<=20)/\(1<=((x.lL.length:Nat):Int)/\((x.lL.length:Nat):Int)<=20))
  .rfl
  have hlen:([x.l3]++x.lL).length<=65:=by simp;omega
  rw[bN,cf,cg,zC ab,aH];rw[vS ([x.l3]++x.lL) DV (ur c0 (ba c0:Nat) (i:Int) (ba ([x.l3]++x.lL):Nat) c2 c3 c4 c5 c6 c7 c8 ([x.l3]++x.lL)) (λq=>aM (fN (0<=q/\q<(((ba ([x.l3]++x.lL)):Nat):Int))) λ_=>aM ((([x.l3]++x.lL))[(bB q)]?) λx2=>(aM (zB 0 1048576 ([x2.X,x2.Y]:List Int)) λx4=>(bif (!x4)then aY bg else(zB 0 4096 ([x2.Z_]:List Int)).bind λx5=>aY (!x5)))) ab (λK q=>?_) λj y hy=>?_]
  .cases pd (∀y∈([x.l3]++x.lL),DV y)<;>rfl
  .rw[ur];simp only[cC]
  .have hj:=wB hy;rw[zC ab,aH,cm,hy,aH,AQ KQ (λ_=>jb qn)];exact aP (λb=>aY (!b)) (wA ⟨λ⟨⟨a,b⟩,c⟩=>⟨a,b,c⟩,λ⟨a,b,c⟩=>⟨⟨a,b⟩,c⟩⟩)
def acH{c0:List zh}{c2:List Def}{c3:List ar}{c4:List zq}{c5:List za}{c6:List eC}{c7:List au}(hl:c0.length<=64):kG c0 (ba c0:Nat) c2 c3 c4 c5 c6 c7 c8 KK 0=aY (bif pd (∀d∈c0,FI d)then .inr ()else .inl bf):=by
 refine vS c0 FI (kG c0 (ba c0:Nat) c2 c3 c4 c5 c6 c7 c8) (λq=>aM (idx c0 q) λx1=>(aM (zB (-4096) 4096 ([x1.X,x1.Y]:List Int)) λx3=>(bif (!x3)then aY bg else(zB 1 4096 ([x1.Z_]:List Int)).bind λx4=>aY (!x4)))) ab (λK q=>?_) λi x hx=>?_
 .rw[kG];simp only[cC]
 .rw[zE hx,aH,AQ KQ (λ_=>jb qn)];exact aP (λb=>aY (!b)) (wA ⟨λ⟨⟨a,b⟩,c⟩=>⟨a,b,c⟩,λ⟨a,b,c⟩=>⟨⟨a,b⟩,c⟩⟩)
end code
def Ke{p:yf}(h:rf p):Af p=aY (pd (qI p)):=by
 unfold Af;have hd:=h.d;have ht:=h.t;have hz:=h.z;have hr:=h.r;have hc:=h.c;have hv:=h.v;have hs:=h.s;rw[AQ (zzf (l:=p.aE) ab (λx hx=>by have:=(h.ds x hx).1;omega)) λ_=>AQ (zzg (l:=p.Tables) ab (λx hx=>by have:=(h.ts x hx).1;omega)) λ_=>AQ (zzh (l:=p.aA) ab (λx hx=>by have:=(h.zs x hx).1;omega)) λ_=>AQ (zzi (l:=p.aB) ab (λx hx=>by have:=(Vd (h.rs x hx)).1;omega)) λ_=>AQ (zzj (l:=p.aI) ab (λx hx=>by have:=(h.cs x hx).1;omega)) λ_=>jb (zzk (l:=p.aF) ab (λx hx=>by have:=(h.vs x hx).1;omega)),aH]
 have hp:pd (qI p)=(pd (xG p.aE Def.aK 60/\xG p.Tables ar.aK 60/\xG p.aA zq.aK 60/\xG p.aB za.aK 200/\xG p.aI eC.aK 30/\xG p.aF au.aK 60)&&pd ((∀d∈p.aE,pc 12 d.Body=bg)/\(∀t∈p.Tables,AP t)/\(∀z∈p.aA,QO z.ay)/\(∀r∈p.aB,WU r)/\(∀c∈p.aI,CJ c)/\(∀v∈p.aF,tI v)/\(∀d∈p.aJ,FI d)/\(0<=p.aG/\p.aG<=24)/\(0<=((p.aJ.length:Nat):Int)/\((p.aJ.length:Nat):Int)<=24))):=by rw[<- xM];exact wA ⟨λ⟨a,⟨b1,b2,b3,b4,b5,b6,b7⟩,c,d⟩=>⟨a,b1,b2,b3,b4,b5,b6,b7,c,ab⟩,λ⟨a,b1,b2,b3,b4,b5,b6,b7,c,d⟩=>⟨a,⟨b1,b2,b3,b4,b5,b6,b7⟩,c,ab⟩⟩
 rw[hp];cases pd (xG p.aE Def.aK 60/\xG p.Tables ar.aK 60/\xG p.aA zq.aK 60/\xG p.aB za.aK 200/\xG p.aI eC.aK 30/\xG p.aF au.aK 60)
 .rfl
 rw[bN,cf,cg]
 exact qm (acB hd h.ds) λ_=>qm (acC ht h.ts) λ_=>qm (acD hz) λ_=>qm (acE hr h.rs) λ_=>qm (acF hc) λ_=>qm (acG hv h.vs) λ_=>qm (acH hs) λ_=>by rw[KQ];rfl
end Go.Proofs.YtkmjhipiiifekaaGreatDoor
namespace Go.KL
variable{α sC:Type}[DecidableEq sC](key:α->sC)
def put(k:sC)(c:α->α)(z:α):List α->List α
 |[]=>[c z]
 |x::r=>if key x=k then c x::r else x::put k c z r
def get(k:sC):List α->Option α
 |[]=>bh
 |x::r=>if key x=k then aY x else get k r
variable{key}
def get_none{k:sC}:∀{l:List α},get key k l=bh↔k ∉ l.map key
 |[]=>by simp[get]
 |x::r=>by
  rw[get];by_cases h:key x=k
  .simp[h]
  .rw[aN h,get_none];simp[Ne.symm h]
def KS{k:sC}{x:α}:∀{l:List α},get key k l=aY x->key x=k/\x∈l
 |[],h=>by cases h
 |y::r,h=>by
  rw[get]at h;by_cases e:key y=k
  .rw[aO e]at h;cases h;exact⟨e,ak⟩
  .rw[aN e]at h;exact⟨(KS h).1,iT _ (KS h).2⟩
def get_mem{x:α}:∀{l:List α},(l.map key).Nodup->x∈l->get key (key x) l=aY x
 |[],_,h=>by cases h
 |y::r,hn,h=>by
  rw[ig,cr]at hn;rw[get]
  rcases bo.1 h with rfl|h
  .rw[aO rfl]
  .rw[aN (λe=>hn.1 (by rw[e];exact cv h)),get_mem hn.2 h]
def ext:∀{a b:List α},(a.map key).Nodup->a.map key=b.map key->(∀k,get key k a=get key k b)->a=b
 |[],b,_,h,_=>by cases b with|nil=>rfl|cons=>cases h
 |x::a,[],_,h,_=>by cases h
 |x::a,y::b,hn,h,hg=>by
  rw[ig,ig]at h;obtain⟨h1,h2⟩:=List.cons.inj h;rw[ig,cr]at hn;have e:=hg (key x);rw[get,get,aO rfl,aO h1.symm]at e;cases e
  rw[ext hn.2 h2 λk=>by
   have:=hg k;rw[get,get]at this;by_cases hk:key x=k
   .subst hk;rw[get_none.2 hn.1,get_none.2 (by rw[<- h2];exact hn.1)]
   .rw[aN hk,aN hk]at this;exact this]
def Tn{k:sC}{c:α->α}{z:α}(hc:∀x,key x=k->key (c x)=k)(hz:key (c z)=k):
  ∀l:List α,(put key k c z l).map key=if k∈l.map key then l.map key else l.map key++[k]
 |[]=>by simp[put,hz]
 |x::r=>by
  rw[put];by_cases h:key x=k
  .rw[aO h,aO (by simp[h]),ig,ig,hc x h,h]
  .rw[aN h,ig,ig,Tn hc hz r];by_cases hk:k∈r.map key
   .rw[aO hk,aO (iT _ hk)]
   .rw[aN hk,aN (by rw[bo];rintro(e|e);exact h e.symm;exact hk e),cK]
def zqw{k:sC}{c:α->α}{z:α}(hc:∀x,key x=k->key (c x)=k)(hz:key (c z)=k){l:List α}(h:(l.map key).Nodup):((put key k c z l).map key).Nodup:=by
 rw[Tn hc hz];by_cases hk:k∈l.map key
 .rw[aO hk];exact h
 .rw[aN hk,cz];exact⟨h,ae,λa ha b hb=>by rw[gX]at hb;subst hb;intro e;subst e;exact hk ha⟩
def Uo{k:sC}{c:α->α}{z:α}:∀l:List α,(put key k c z l).length=if k∈l.map key then l.length else l.length+1
 |[]=>by simp[put]
 |x::r=>by
  rw[put];by_cases h:key x=k
  .rw[aO h,aO (by simp[h])];rfl
  .rw[aN h,lX,Uo r];by_cases hk:k∈r.map key
   .rw[aO hk,aO (by rw[ig];exact iT _ hk),lX]
   .rw[aN hk,aN (by rw[ig,bo];rintro(e|e);exact h e.symm;exact hk e),lX]
end Go.KL
set_option maxRecDepth 100000
namespace Go.Proofs.YtkmjhipiiifekaaGreatDoor
open Go Go.RowKit Go.lA Go.EV Go.EQ
variable[Fuel]
def WV:∀(l seen:List aj),ve bg seen l=bg->l.Nodup/\∀s∈l,s ∉ seen
 |[],_,_=>⟨List.nodup_nil,λ_ h=>by cases h⟩
 |s::l,seen,h=>by
  rw[ve]at h;simp only[bn,cg,Bool.not_eq_true',aW]at h;obtain⟨_,h2,h3⟩:=h;obtain⟨i1,i2⟩:=WV l (seen++[s]) h3;refine⟨cr.2 ⟨λhm=>i2 s hm ae,i1⟩,λx hx=>?_⟩
  rcases bo.1 hx with rfl|hx
  .exact h2
  .exact λhm=>i2 x hx (List.mem_append_left _ hm)
def PU:∀(l seen:List aj),l.all y7=bg->l.Nodup->(∀s∈l,s ∉ seen)->ve bg seen l=bg
 |[],_,_,_,_=>rfl
 |s::r,seen,h,hn,hs=>by
  rw[cZ,bn]at h;rw[cr]at hn;rw[ve,h.1,cg,cg,df (hs s ak),cH,cg]
  refine PU r _ h.2 hn.2 λx hx=>?_
  rw[bI,gX];rintro(e|rfl)
  .exact hs x (iT _ hx) e
  .exact hn.1 hx
def Ho{α:Type}{l:List α}{g:α->aj}{m:Nat}:xG l g m↔l.length<=m/\(∀x∈l,y7 (g x)=bg)/\(l.map g).Nodup:=by
 unfold xG;refine⟨λ⟨a,b⟩=>⟨a,?_,(WV _ _ b).1⟩,λ⟨a,b,c⟩=>⟨a,PU _ _ ?_ c λ_ _ h=>by cases h⟩⟩
 .have:=Zw _ _ b;simpa using this
 .simpa using b
inductive Ed where
 |mY (r:za)
 |fin (n:aj) (d:Int)
 |mU (d:Def)
 |row (n:aj) (x:av)
 |mZ (z:zq)
 |lim (n:aj) (v:Int)
def Ed.ok:Ed->Prop
 |.mY r=>y7 r.aK=bg/\WU r
 |.fin n d=>y7 n=bg/\1<=d/\d<=1073741824
 |.mU d=>y7 d.aK=bg/\pc 12 d.Body=bg
 |.row n x=>y7 n=bg/\y7 x.aK=bg/\-1099511627776<=x.N/\x.N<=1099511627776
 |.mZ z=>y7 z.aK=bg/\QO z.ay
 |.lim n v=>y7 n=bg/\0<=v/\v<=1099511627776
def zT(n:aj):ar:=⟨n,[],0⟩
def pg(x:av)(t:ar):ar:={ t with Rows:=KL.put av.aK x.aK (λ_=>x) x t.Rows }
def app(p:yf):Ed->Option yf
 |.mY r=>if r.aK∈p.aB.map za.aK∨200<=p.aB.length then bh else aY { p with aB:=p.aB++[r] }
 |.fin n d=>match KL.get za.aK n p.aB with
  |none=>bh
  |some r=>if d<=r.il then bh else aY { p with aB:=KL.put za.aK n (λr=>{ r with hJ:=d }) r p.aB }
 |.mU d=>if d.aK ∉ p.aE.map Def.aK/\60<=p.aE.length then bh else aY { p with aE:=KL.put Def.aK d.aK (λ_=>d) d p.aE }
 |.row n x=>if(n ∉ p.Tables.map ar.aK/\60<=p.Tables.length)∨(x.aK ∉ ((KL.get ar.aK n p.Tables).getD (zT n)).Rows.map av.aK/\60<=((KL.get ar.aK n p.Tables).getD (zT n)).Rows.length)then bh
  else aY { p with Tables:=KL.put ar.aK n (pg x) (zT n) p.Tables }
 |.mZ z=>if(z.aK ∉ p.aA.map zq.aK/\60<=p.aA.length)∨(∃y,KL.get zq.aK z.aK p.aA=aY y/\y.lQ≠z.lQ)then bh
  else aY { p with aA:=KL.put zq.aK z.aK (λ_=>z) z p.aA }
 |.lim n v=>match KL.get eC.aK n p.aI with
  |none=>bh
  |some c=>aY { p with aI:=KL.put eC.aK n (λc=>{ c with mM:=v }) c p.aI }
def q9{α:Type}{g:α->aj}{k:aj}{c:α->α}{z:α}{P:α->Prop}(hz:P (c z)):∀{l:List α},(∀x∈l,P x)->(∀x∈l,g x=k->P (c x))->∀x∈KL.put g k c z l,P x
 |[],_,_,x,hx=>by rw[KL.put,gX]at hx;exact hx▸hz
 |y::r,h,hc,x,hx=>by
  rw[KL.put]at hx;by_cases e:g y=k
  .rw[aO e]at hx
   rcases bo.1 hx with rfl|hx
   .exact hc y ak e
   .exact h x (iT _ hx)
  .rw[aN e]at hx
   rcases bo.1 hx with rfl|hx
   .exact h _ ak
   .exact q9 hz (λx hx=>h x (iT _ hx)) (λx hx=>hc x (iT _ hx)) x hx
def Hp{α:Type}{g:α->aj}{m:Nat}{k:aj}{c:α->α}{z:α}(hc:∀x,g x=k->g (c x)=k)(hz:g (c z)=k)(hk:y7 k=bg){l:List α}(h:xG l g m)(hm:¬(k ∉ l.map g/\m<=l.length)):xG (KL.put g k c z l) g m:=by
 rw[Ho]at h ⊢;obtain⟨h1,h2,h3⟩:=h;refine⟨?_,q9 (P:=λx=>y7 (g x)=bg) (by rw[hz];exact hk) h2 (λx _ e=>by rw[hc x e];exact hk),KL.zqw hc hz h3⟩;rw[KL.Uo];by_cases hi:k∈l.map g
 .rw[aO hi];exact h1
 .rw[aN hi]
  have:¬m<=l.length:=λe=>hm ⟨hi,e⟩
  omega
def Kf{α:Type}{g:α->aj}{k:aj}{x:α}{l:List α}(h:KL.get g k l=aY x):k∈l.map g:=by
 by_cases hk:k∈l.map g
 .exact hk
 .rw[KL.get_none.2 hk]at h;cases h
def R4{x:av}{t:ar}(hn:y7 x.aK=bg)(h1:-1099511627776<=x.N/\x.N<=1099511627776)(h:AP t)(hm:¬(x.aK ∉ t.Rows.map av.aK/\60<=t.Rows.length)):AP (pg x t):=by have hh:xG t.Rows av.aK 60:=h.1;exact⟨Hp (c:=λ_=>x) (z:=x) (λ_ _=>rfl) rfl hn hh hm,h.2.1,q9 (P:=λx:av=>-1099511627776<=x.N/\x.N<=1099511627776) h1 h.2.2 λ_ _ _=>h1⟩
def zqy{p q:yf}{e:Ed}(hp:qI p)(he:e.ok)(h:app p e=aY q):qI q:=by
 obtain⟨⟨d,t,z,r,c,v⟩,⟨bd,bt,bz,br,bc,bv⟩,hr⟩:=hp
 cases e with
 |mY x =>
  simp only[app]at h;by_cases g:x.aK∈p.aB.map za.aK∨200<=p.aB.length
  .rw[aO g]at h;cases h
  .rw[aN g]at h;cases h;rw[not_or]at g;refine⟨⟨d,t,z,?_,c,v⟩,⟨bd,bt,bz,?_,bc,bv⟩,hr⟩
   .rw[Ho]at r ⊢;refine⟨by simp;omega,?_,?_⟩
    .intro y hy
     rcases bI.1 hy with hy|hy
     .exact r.2.1 y hy
     .rw[gX]at hy;subst hy;exact he.1
    .rw[List.map_append,cz];exact⟨r.2.2,ae,λa ha b hb=>by simp at hb;subst hb;intro e;subst e;exact g.1 ha⟩
   .intro y hy
    rcases bI.1 hy with hy|hy
    .exact br y hy
    .rw[gX]at hy;subst hy;exact he.2
 |fin n dd =>
  simp only[app]at h
  cases hg:KL.get za.aK n p.aB with
  |none=>rw[hg]at h;cases h
  |some x =>
   rw[hg]at h;dsimp only at h;by_cases g:dd<=x.il
   .rw[aO g]at h;cases h
   .rw[aN g]at h;cases h;have hx:=KL.KS hg;have hn:(p.aB.map za.aK).Nodup:=(Ho.1 r).2.2
    have hu:∀y∈p.aB,y.aK=n->WU { y with hJ:=dd }:=λy hy e=>by
     have:y=x:=by have:=KL.get_mem hn hy;rw[e,hg]at this;exact(Option.some.inj this).symm
     subst this;have:=br y hy;refine⟨⟨this.1.1,⟨this.1.2.1,this.1.2.2.1,⟨?_,he.2.2⟩,.inr ?_⟩⟩,this.2⟩
     .show(0:Int)<=dd
      have:=he.2.1;omega
     .show y.il<dd
      omega
    exact⟨⟨d,t,z,Hp (g:=za.aK) (k:=n) (c:=λr:za=>{ r with hJ:=dd }) (λ_ e=>e) hx.1 he.1 r (λe=>e.1 (Kf hg)),c,v⟩,⟨bd,bt,bz,q9 (P:=WU) (hu x hx.2 hx.1) br hu,bc,bv⟩,hr⟩
 |mU x =>
  simp only[app]at h;by_cases g:x.aK ∉ p.aE.map Def.aK/\60<=p.aE.length
  .rw[aO g]at h;cases h
  .rw[aN g]at h;cases h;exact⟨⟨Hp (λ_ _=>rfl) rfl he.1 d g,t,z,r,c,v⟩,⟨q9 (P:=λd:Def=>pc 12 d.Body=bg) he.2 bd λ_ _ _=>he.2,bt,bz,br,bc,bv⟩,hr⟩
 |row n x =>
  simp only[app]at h;by_cases g:(n ∉ p.Tables.map ar.aK/\60<=p.Tables.length)∨(x.aK ∉ ((KL.get ar.aK n p.Tables).getD (zT n)).Rows.map av.aK/\60<=((KL.get ar.aK n p.Tables).getD (zT n)).Rows.length)
  .rw[aO g]at h;cases h
  .rw[aN g]at h;cases h;rw[not_or]at g;have hn:(p.Tables.map ar.aK).Nodup:=(Ho.1 t).2.2;refine⟨⟨d,Hp (g:=ar.aK) (k:=n) (c:=pg x) (z:=zT n) (λ_ e=>e) rfl he.1 t g.1,z,r,c,v⟩,⟨bd,q9 (P:=AP) (R4 he.2.1 he.2.2 ⟨⟨by simp[zT],rfl⟩,by simp[zT],λ_ h=>by cases h⟩ (by simp[zT])) bt λy hy e=>?_,bz,br,bc,bv⟩,hr⟩;have OZ:=KL.get_mem hn hy;rw[e]at OZ;have:=g.2;rw[OZ]at this;exact R4 he.2.1 he.2.2 (bt y hy) this
 |mZ x =>
  simp only[app]at h;by_cases g:(x.aK ∉ p.aA.map zq.aK/\60<=p.aA.length)∨(∃y,KL.get zq.aK x.aK p.aA=aY y/\y.lQ≠x.lQ)
  .rw[aO g]at h;cases h
  .rw[aN g]at h;cases h;rw[not_or]at g;exact⟨⟨d,t,Hp (λ_ _=>rfl) rfl he.1 z g.1,r,c,v⟩,⟨bd,bt,q9 (P:=λz:zq=>QO z.ay) he.2 bz λ_ _ _=>he.2,br,bc,bv⟩,hr⟩
 |lim n w =>
  simp only[app]at h
  cases hg:KL.get eC.aK n p.aI with
  |none=>rw[hg]at h;cases h
  |some x =>
   rw[hg]at h;cases h;have hx:=KL.KS hg
   have hu:∀y∈p.aI,y.aK=n->CJ { y with mM:=w }:=λy hy _=>⟨(bc y hy).1,he.2,(bc y hy).2.2⟩
   exact⟨⟨d,t,z,r,Hp (g:=eC.aK) (k:=n) (c:=λc:eC=>{ c with mM:=w }) (λ_ e=>e) hx.1 he.1 c (λe=>e.1 (Kf hg)),v⟩,⟨bd,bt,bz,br,q9 (P:=CJ) (hu x hx.2 hx.1) bc hu,bv⟩,hr⟩
def kP{α:Type}(g:α->Bool):List α->Option Nat
 |[]=>bh
 |x::r=>bif g x then aY 0 else(kP g r).map (·+1)
def Zy{α:Type}(l:List α)(g:α->Bool)(L:Nat->Int->Option (Int⊕Unit))
  (hL:∀K (i:Nat) x,l[i]?=aY x->L (K+1) (i:Int)=bif g x then aY (.inl (i:Int))else L K ((i+1:Nat):Int)) (hE:∀K,L (K+1) (l.length:Int)=aY (.inr ())):
  ∀(r:List α)(i K:Nat),l.drop i=r->i<=l.length->r.length<K->L K (i:Int)=aY (match kP g r with|some j=>.inl ((i+j:Nat):Int)|none=>.inr ())
 |[],i,K,hr,hi,hK=>by
  obtain⟨K,rfl⟩:∃k,K=k+1:=⟨K-1,ab⟩
  have:=drop_nil hr hi;have e:i=l.length:=ab;rw[e,hE];rfl
 |x::r,i,K,hr,hi,hK=>by
  obtain⟨K,rfl⟩:∃k,K=k+1:=⟨K-1,ab⟩
  obtain⟨h1,h2,h3⟩:=wT hr;simp only[lX]at hK;rw[hL K i x h1,kP]
  cases g x with
  |true=>rfl
  |false =>
   rw[cf,cf,Zy l g L hL hE r (i+1) K h2 ab ab]
   cases kP g r with
   |none=>rfl
   |some j=>simp only[cP];congr 3;omega
def xz{α:Type}(l:List α)(g:α->Bool)(L:Nat->Int->Option (Int⊕Unit))(hs:l.length<=9223372036854775807)
  (hL:∀K (i:Nat) x,l[i]?=aY x->L (K+1) (i:Int)=bif g x then aY (.inl (i:Int))else L K ((i+1:Nat):Int)) (hE:∀K,L (K+1) (l.length:Int)=aY (.inr ())):
  (L KK 0).bind (yg aY λ_=>aY (-1))=aY (y6 (kP g l)):=by
 rw[show(0:Int)=((0:Nat):Int) from rfl,Zy l g L hL hE l 0 KK rfl (cx _) (oo ab)]
 cases kP g l with
 |none=>rfl
 |some j=>simp[yg,y6]
def oq{α β:Type}{l:List α}{i:Nat}{x:α}(h:l[i]?=aY x)(f:α->Option β):(aM (fN (0<=(i:Int)/\(i:Int)<((ba l:Nat):Int))) λ_=>(l[bB (i:Int)]?).bind f)=f x:=by have:=wB h;rw[zC ab,aH,cm,h,aH]
def PV{o:Option Nat}:decide (y6 o<0)=o.isNone:=by
 cases o with
 |none=>rfl
 |some i=>exact df (by simp only[y6];omega)
def D9{o:Option Nat}:decide (y6 o>=0)=o.isSome:=by
 cases o with
 |none=>rfl
 |some i=>exact dt (by simp[y6])
def FK{α:Type}{g:α->Bool}:∀{l:List α}{i:Nat},kP g l=aY i->∃x,l[i]?=aY x/\g x=bg
 |x::r,i,h=>by
  rw[kP]at h
  cases hx:g x with
  |true=>rw[hx]at h;cases h;exact⟨x,rfl,hx⟩
  |false =>rw[hx,cf]at h;obtain⟨j,h1,rfl⟩:=bQ.1 h;obtain⟨y,h2,h3⟩:=FK h1;exact⟨y,by simpa using h2,h3⟩
def Ve{α:Type}{key:α->aj}{k:aj}:∀{l:List α},(kP (λx=>decide (key x=k)) l).isSome=decide (k∈l.map key)
 |[]=>by simp[kP]
 |x::r=>by
  rw[kP];by_cases h:key x=k
  .rw[dt h,ct];simp[h]
  .rw[df h,cf,gj,Ve];exact vz (by simp[Ne.symm h])
def Lj{α:Type}{key:α->aj}{k:aj}:∀{l:List α},(kP (λx=>decide (key x=k)) l).bind (λi=>l[i]?)=KL.get key k l
 |[]=>rfl
 |x::r=>by
  rw[kP,KL.get];by_cases h:key x=k
  .rw[dt h,ct,aO h];rfl
  .rw[df h,cf,aN h,<- Lj];cases kP (λx=>decide (key x=k)) r<;>rfl
def nQ{α:Type}(g:α->Bool)(c:α->α)(z:α):List α->List α
 |[]=>[c z]
 |x::r=>bif g x then c x::r else x::nQ g c z r
def Lk{α:Type}{key:α->aj}{k:aj}{c:α->α}{z:α}:∀{l:List α},nQ (λx=>decide (key x=k)) c z l=KL.put key k c z l
 |[]=>rfl
 |x::r=>by
  rw[nQ,KL.put,Lk];by_cases h:key x=k
  .rw[dt h,aO h];rfl
  .rw[df h,aN h];rfl
def WW{α:Type}{g:α->Bool}{c:α->α}{z:α}:∀{l:List α}{i:Nat}{x:α},kP g l=aY i->l[i]?=aY x->l.set i (c x)=nQ g c z l
 |y::r,i,x,h,hx=>by
  rw[kP]at h;rw[nQ]
  cases hy:g y with
  |true=>rw[hy]at h;cases h;cases hx;rfl
  |false =>rw[hy,cf]at h;obtain⟨j,h1,rfl⟩:=bQ.1 h;rw[cf,ep,WW h1 (by simpa using hx)]
def WX{α:Type}{g:α->Bool}{c:α->α}{z:α}:∀{l:List α},kP g l=bh->(l++[z]).set l.length (c z)=nQ g c z l
 |[],_=>rfl
 |y::r,h=>by
  rw[kP]at h;rw[nQ]
  cases hy:g y with
  |true=>rw[hy]at h;cases h
  |false =>rw[hy,cf,Option.map_eq_none_iff]at h;rw[cf,cK,lX,ep,WX h]
def FL{α:Type}{a b:List α}(h:a.length=b.length):mF [(a.length,b.length)]=bg:=by simp[mF,h,Nat.beq_refl]
section
variable{α σ:Type}{l:List α}{g:α->Bool}{z:α}{c:α->α}{most bytes:Nat}{m:Int}{Cl:Option (List α)}{Ix:List α->Option Int}{Ap:List α->Int->Option (List α)}
def KT(hm:m=(most:Int))(hs:(l.length+1)*bytes<=140737488355328)(hC:Cl=aY l)(hI:Ix l=aY (y6 (kP g l)))(hA:∀(q:List α)(i:Nat) x,q[i]?=aY x->Ap q (i:Int)=aY (q.set i (c x))):
  (Cl.bind λx1=>aM (Ix x1) λx2=>((bif (decide (x2<0))then(bif (decide (((ba x1:Nat):Int)>=m))then(fN (mF []=bg)).bind λ_=>aY (bA (([]:List α),(6:Int)))else(fN (ba (x1++([z]:List α))*bytes<=140737488355328)).bind λ_=>aY (bp (((ba x1:Nat):Int),(x1++([z]:List α)))))else aY (bp (x2,x1)))).bind (yg aY λx3=>aM (fN (0<=x3.1/\x3.1<((ba x3.2:Nat):Int))) λ_=>aM (Ap x3.2 ((bB x3.1:Nat):Int)) λx6=>aM (fN (mF [(ba x3.2,ba x6)]=bg)) λ_=>aY (x6,(0:Int)))) =
   aY (bif (kP g l).isNone&&decide (most<=l.length)then([],6)else(nQ g c z l,0)):=by
 subst hC;rw[aH,hI,aH,PV]
 cases hf:kP g l with
 |none =>
  rw[eY,ct,cg];by_cases h:most<=l.length
  .rw[dt (by omega:((ba l:Nat):Int)>=m),dt h];rfl
  .rw[df (by omega:¬((ba l:Nat):Int)>=m),df h,cf,cf,zC (by simpa using hs),aH,aH];simp only[yg,cm];rw[zC (by simp;omega),aH,hA (l++[z]) l.length z ae,aH,zC (FL ae),aH,WX hf]
 |some i =>
  obtain⟨x,h1,_⟩:=FK hf;have:=wB h1;rw[gi,cf,dY,cf,aH]
  show(fN (0<=(i:Int)/\(i:Int)<((ba l:Nat):Int))).bind (λ_=>aM (Ap l ((bB (i:Int):Nat):Int)) λx6=>aM (fN (mF [(ba l,ba x6)]=bg)) λ_=>aY (x6,(0:Int)))=_
  rw[zC ab,aH,cm,hA l i x h1,aH,zC (FL ae),aH,WW hf h1]
end
def ko:za:=⟨[],[],[],0,0,0,bf,0,km,⟨0,0,0,0⟩,0,0,0⟩
def O1{l:List za}{n:aj}(h:l.length<=9223372036854775807):yS l n=aY (y6 (kP (λx=>decide (x.aK=n)) l)):=
 xz l _ (zM n l ((ba l:Nat):Int)) h (λK i x hx=>by rw[zM,xm hx,ct,zE hx,aH,zI (by have:=wB hx;omega)];rfl) (λK=>by rw[zM,z6];rfl)
def ix3{l:List za}(h:l.length<=9223372036854775807):wD l=aY (y6 (kP (λx=>bf) l)):=
 xz l _ (zN l ((ba l:Nat):Int)) h (λK i x hx=>by rw[zN,xm hx,ct,oq hx,zI (by have:=wB hx;omega)];rfl) (λK=>by rw[zN,z6];rfl)
def ix4{l:List za}{n:aj}(h:l.length<=9223372036854775807):wE l n=aY (y6 (kP (λx=>decide (x.aK=n)) l)):=
 xz l _ (zO l n ((ba l:Nat):Int)) h (λK i x hx=>by rw[zO,xm hx,ct,oq hx,zI (by have:=wB hx;omega)];rfl) (λK=>by rw[zO,z6];rfl)
def ix5{l:List Def}{ed:EB}(h:l.length<=9223372036854775807):wF l ed=aY (y6 (kP (λx=>decide (x.aK=ed.n)) l)):=
 xz l _ (zP ed l ((ba l:Nat):Int)) h (λK i x hx=>by rw[zP,xm hx,ct,oq hx,zI (by have:=wB hx;omega)];rfl) (λK=>by rw[zP,z6];rfl)
def ix6{l:List ar}{ed:EB}(h:l.length<=9223372036854775807):wG l ed=aY (y6 (kP (λx=>decide (x.aK=ed.n)) l)):=
 xz l _ (zQ ed l ((ba l:Nat):Int)) h (λK i x hx=>by rw[zQ,xm hx,ct,oq hx,zI (by have:=wB hx;omega)];rfl) (λK=>by rw[zQ,z6];rfl)
def ix7{l:List av}{ed:EB}(h:l.length<=9223372036854775807):wH l ed=aY (y6 (kP (λx=>decide (x.aK=ed.y)) l)):=
 xz l _ (zR ed l ((ba l:Nat):Int)) h (λK i x hx=>by rw[zR,xm hx,ct,oq hx,zI (by have:=wB hx;omega)];rfl) (λK=>by rw[zR,z6];rfl)
def ix8{l:List zq}{ed:EB}(h:l.length<=9223372036854775807):wI l ed=aY (y6 (kP (λx=>decide (x.aK=ed.n)) l)):=
 xz l _ (zS ed l ((ba l:Nat):Int)) h (λK i x hx=>by rw[zS,xm hx,ct,zE hx,aH,zI (by have:=wB hx;omega)];rfl) (λK=>by rw[zS,z6];rfl)
def ix9{l:List zq}{ed:EB}(h:l.length<=9223372036854775807):wJ l ed=aY (y6 (kP (λx=>decide (x.aK=ed.n)) l)):=
 xz l _ (zU ed l ((ba l:Nat):Int)) h (λK i x hx=>by rw[zU,xm hx,ct,oq hx,zI (by have:=wB hx;omega)];rfl) (λK=>by rw[zU,z6];rfl)
def aca{l:List eC}{ed:EB}(h:l.length<=9223372036854775807):xX l ed=aY (y6 (kP (λx=>decide (x.aK=ed.n)) l)):=
 xz l _ (zG ed l ((ba l:Nat):Int)) h (λK i x hx=>by rw[zG,xm hx,ct,oq hx,zI (by have:=wB hx;omega)];rfl) (λK=>by rw[zG,z6];rfl)
def ab'{l:List eC}{ed:EB}(h:l.length<=9223372036854775807):xW l ed=aY (y6 (kP (λx=>decide (x.aK=ed.n)) l)):=
 xz l _ (zF ed l ((ba l:Nat):Int)) h (λK i x hx=>by rw[zF,xm hx,ct,zE hx,aH,zI (by have:=wB hx;omega)];rfl) (λK=>by rw[zF,z6];rfl)
def GO{l:List za}(h:l.length<=100000):yB l=aY l:=by unfold yB;rw[cq,zC ab];rfl
def N9{l:List Def}(h:l.length<=100000):xt l=aY l:=by unfold xt;rw[cq,zC ab];rfl
def N_{l:List ar}(h:l.length<=100000):xu l=aY l:=by unfold xu;rw[cq,zC ab];rfl
def cl5{l:List av}(h:l.length<=100000):wP l=aY l:=by unfold wP;rw[cq,zC ab];rfl
def N'{l:List zq}(h:l.length<=100000):xv l=aY l:=by unfold xv;rw[cq,zC ab];rfl
def Oa{l:List eC}(h:l.length<=100000):xw l=aY l:=by unfold xw;rw[cq,zC ab];rfl
def cl8{l:List au}(h:l.length<=100000):wQ l=aY l:=by unfold wQ;rw[cq,zC ab];rfl
def Ob{l:List zh}(h:l.length<=100000):xx l=aY l:=by unfold xx;rw[cq,zC ab];rfl
def abK{l:List av}(h:l.length<=100000):wk l=aY l:=by unfold wk;rw[cq,zC ab];rfl
def U9{l:List zt}(h:l.length<=100000):yV l=aY l:=by unfold yV;rw[cq,zC ab];rfl
def U_{l:List aj}(h:l.length<=100000):yW l=aY l:=by unfold yW;rw[cq,zC ab];rfl
def acj{l:List za}{ed:EB}{most:Nat}{m:Int}(hm:m=(most:Int))(h:l.length<=100000):FR l ed m=aY (bif (kP (λx=>bf) l).isNone&&decide (most<=l.length)then([],6)else(nQ (λx=>bf) (λx=>⟨ed.r0,ed.r1,ed.r2,ed.r3,ed.r4,ed.r5,ed.r6,ed.r7,⟨ed.r8,ed.r9,ed.E6,ed.E7,ed.E8⟩,⟨ed.E9,ed.E_,ed.Fb,ed.r16⟩,ed.Fc,ed.Fe,ed.Ff⟩) ko l,0)):=by
 unfold FR
 exact KT (g:=λx:za=>bf) (c:=λx:za=>⟨ed.r0,ed.r1,ed.r2,ed.r3,ed.r4,ed.r5,ed.r6,ed.r7,⟨ed.r8,ed.r9,ed.E6,ed.E7,ed.E8⟩,⟨ed.E9,ed.E_,ed.Fb,ed.r16⟩,ed.Fc,ed.Fe,ed.Ff⟩) (z:=(ko:za)) (bytes:=232) (Ap:=λq i=>qe q i ed) hm ab (GO h) (ix3 ab) (λq i x hx=>by
  show qe q (i:Int) ed=_
  unfold qe
  rw[cm,hx];rfl)
def ack{l:List za}{n:aj}{ed:EB}{most:Nat}{m:Int}(hm:m=(most:Int))(h:l.length<=100000):JJ l n ed m=aY (bif (kP (λx=>decide (x.aK=n)) l).isNone&&decide (most<=l.length)then([],6)else(nQ (λx=>decide (x.aK=n)) (λx=>{ x with hJ:=ed.m }) ko l,0)):=by
 unfold JJ
 exact KT (g:=λx:za=>decide (x.aK=n)) (c:=λx:za=>{ x with hJ:=ed.m }) (z:=(ko:za)) (bytes:=232) (Ap:=λq i=>qf q i ed) hm ab (GO h) (ix4 ab) (λq i x hx=>by
  show qf q (i:Int) ed=_
  unfold qf
  rw[cm,hx,aH,zD])
def acm{l:List Def}{ed:EB}{most:Nat}{m:Int}(hm:m=(most:Int))(h:l.length<=100000):JK l ed m=aY (bif (kP (λx=>decide (x.aK=ed.n)) l).isNone&&decide (most<=l.length)then([],6)else(nQ (λx=>decide (x.aK=ed.n)) (λx=>⟨ed.n,⟨ed.b0,ed.b1,ed.b2,ed.b3,ed.b4⟩⟩) ⟨[],km⟩ l,0)):=by
 unfold JK
 exact KT (g:=λx:Def=>decide (x.aK=ed.n)) (c:=λx:Def=>⟨ed.n,⟨ed.b0,ed.b1,ed.b2,ed.b3,ed.b4⟩⟩) (z:=(⟨[],km⟩:Def)) (bytes:=88) (Ap:=λq i=>qg q i ed) hm ab (N9 h) (ix5 ab) (λq i x hx=>by
  show qg q (i:Int) ed=_
  unfold qg
  rw[cm,hx];rfl)
def aco{l:List av}{ed:EB}{most:Nat}{m:Int}(hm:m=(most:Int))(h:l.length<=100000):Ah l ed m=aY (bif (kP (λx=>decide (x.aK=ed.y)) l).isNone&&decide (most<=l.length)then([],6)else(nQ (λx=>decide (x.aK=ed.y)) (λx=>⟨ed.y,ed.m⟩) ⟨[],0⟩ l,0)):=by
 unfold Ah
 exact KT (g:=λx:av=>decide (x.aK=ed.y)) (c:=λx:av=>⟨ed.y,ed.m⟩) (z:=(⟨[],0⟩:av)) (bytes:=24) (Ap:=λq i=>vi q i ed) hm ab (cl5 h) (ix7 ab) (λq i x hx=>by
  show vi q (i:Int) ed=_
  unfold vi
  rw[cm,hx];rfl)
def acp{l:List zq}{ed:EB}{most:Nat}{m:Int}(hm:m=(most:Int))(h:l.length<=100000):JN l ed m=aY (bif (kP (λx=>decide (x.aK=ed.n)) l).isNone&&decide (most<=l.length)then([],6)else(nQ (λx=>decide (x.aK=ed.n)) (λx=>⟨ed.n,decide (ed.m=1),ed.c⟩) ⟨[],bf,[]⟩ l,0)):=by
 unfold JN
 exact KT (g:=λx:zq=>decide (x.aK=ed.n)) (c:=λx:zq=>⟨ed.n,decide (ed.m=1),ed.c⟩) (z:=(⟨[],bf,[]⟩:zq)) (bytes:=48) (Ap:=λq i=>jf q i ed) hm ab (N' h) (ix9 ab) (λq i x hx=>by
  show jf q (i:Int) ed=_
  unfold jf
  rw[cm,hx];rfl)
def acq{l:List eC}{ed:EB}{most:Nat}{m:Int}(hm:m=(most:Int))(h:l.length<=100000):JO l ed m=aY (bif (kP (λx=>decide (x.aK=ed.n)) l).isNone&&decide (most<=l.length)then([],6)else(nQ (λx=>decide (x.aK=ed.n)) (λx=>{ x with mM:=ed.m }) ⟨[],0,0,[]⟩ l,0)):=by
 unfold JO
 exact KT (g:=λx:eC=>decide (x.aK=ed.n)) (c:=λx:eC=>{ x with mM:=ed.m }) (z:=(⟨[],0,0,[]⟩:eC)) (bytes:=56) (Ap:=λq i=>jg q i ed) hm ab (Oa h) (aca ab) (λq i x hx=>by
  show jg q (i:Int) ed=_
  unfold jg
  rw[cm,hx];rfl)
def enc:Ed->zA
 |.mY r=>⟨0,[],[],0,r,km,[]⟩
 |.fin n d=>⟨1,n,[],d,ko,km,[]⟩
 |.mU d=>⟨2,d.aK,[],0,ko,d.Body,[]⟩
 |.row n x=>⟨3,n,x.aK,x.N,ko,km,[]⟩
 |.mZ z=>⟨4,z.aK,[],bif z.lQ then 1 else 0,ko,km,z.ay⟩
 |.lim n v=>⟨5,n,[],v,ko,km,[]⟩
def AR(p:yf):Ed->Int
 |.mY r=>if r.aK∈p.aB.map za.aK then 5 else if 200<=p.aB.length then 6 else 0
 |.fin n d=>match KL.get za.aK n p.aB with
  |none=>4
  |some r=>if d<=r.il then 20 else 0
 |.mU d=>if d.aK ∉ p.aE.map Def.aK/\60<=p.aE.length then 6 else 0
 |.row n x=>if(n ∉ p.Tables.map ar.aK/\60<=p.Tables.length)∨(x.aK ∉ ((KL.get ar.aK n p.Tables).getD (zT n)).Rows.map av.aK/\60<=((KL.get ar.aK n p.Tables).getD (zT n)).Rows.length)then 6 else 0
 |.mZ z=>if(∃y,KL.get zq.aK z.aK p.aA=aY y/\y.lQ≠z.lQ)then 17 else if z.aK ∉ p.aA.map zq.aK/\60<=p.aA.length then 6 else 0
 |.lim n _=>match KL.get eC.aK n p.aI with
  |none=>4
  |some _=>0
def Ll{p:yf}{e:Ed}:(app p e).isSome=bg↔AR p e=0:=by
 cases e with
 |mY r =>
  simp only[app,AR];by_cases h1:r.aK∈p.aB.map za.aK
  .rw[aO (.inl h1),aO h1];simp
  .by_cases h2:200<=p.aB.length
   .rw[aO (.inr h2),aN h1,aO h2];simp
   .rw[aN (λh=>h.elim h1 h2),aN h1,aN h2];simp
 |fin n d =>
  simp only[app,AR]
  cases KL.get za.aK n p.aB with
  |none=>simp
  |some r =>
   dsimp only;by_cases h:d<=r.il
   .rw[aO h,aO h];simp
   .rw[aN h,aN h];simp
 |mU d =>
  simp only[app,AR];by_cases h:d.aK ∉ p.aE.map Def.aK/\60<=p.aE.length
  .rw[aO h,aO h];simp
  .rw[aN h,aN h];simp
 |row n x =>
  simp only[app,AR];by_cases h:(n ∉ p.Tables.map ar.aK/\60<=p.Tables.length)∨(x.aK ∉ ((KL.get ar.aK n p.Tables).getD (zT n)).Rows.map av.aK/\60<=((KL.get ar.aK n p.Tables).getD (zT n)).Rows.length)
  .rw[aO h,aO h];simp
  .rw[aN h,aN h];simp
 |mZ z =>
  simp only[app,AR];by_cases h1:∃y,KL.get zq.aK z.aK p.aA=aY y/\y.lQ≠z.lQ
  .rw[aO (.inr h1),aO h1];simp
  .by_cases h2:z.aK ∉ p.aA.map zq.aK/\60<=p.aA.length
   .rw[aO (.inl h2),aN h1,aO h2];simp
   .rw[aN (λh=>h.elim h2 h1),aN h1,aN h2];simp
 |lim n v =>simp only[app,AR];cases KL.get eC.aK n p.aI<;>simp
def fp(c:Int)(q:yf):Int×(List Def)×(List ar)×(List zq)×(List za)×(List eC)×(List au)×(List zh)×Int:=(c,q.aE,q.Tables,q.aA,q.aB,q.aI,q.aF,q.aJ,q.aG)
structure MV(p:yf):Prop where
 d:p.aE.length<=100000
 t:p.Tables.length<=100000
 z:p.aA.length<=100000
 r:p.aB.length<=100000
 c:p.aI.length<=100000
 rows:∀t∈p.Tables,t.Rows.length<=100000
def Tq{α:Type}{key:α->aj}{k:aj}{l:List α}:(kP (λx=>decide (key x=k)) l).isNone=decide (k ∉ l.map key):=by
 have:=Ve (key:=key) (k:=k) (l:=l)
 cases h:kP (λx=>decide (key x=k)) l with
 |none=>rw[h]at this;rw[dt (of_decide_eq_false this.symm)];rfl
 |some i=>rw[h]at this;rw[df (λg=>g (aX this.symm))];rfl
def Zz{α:Type}:∀{l:List α},kP (λ_=>bf) l=bh
 |[]=>rfl
 |x::r=>by rw[kP,cf,Zz];rfl
def ZA{α:Type}{c:α->α}{z:α}:∀{l:List α},nQ (λ_=>bf) c z l=l++[c z]
 |[]=>rfl
 |x::r=>by rw[nQ,cf,ZA];rfl
def zzn{p q:Prop}[Decidable p][Decidable q]:(decide p&&decide q)=decide (p/\q):=by by_cases hp:p<;>by_cases hq:q<;>simp[hp,hq]
def WY{α:Type}{key:α->aj}{k:aj}{c:α->α}{z:α}{most:Nat}{l:List α}:(bif (kP (λx=>decide (key x=k)) l).isNone&&decide (most<=l.length)then(([]:List α),(6:Int))else(nQ (λx=>decide (key x=k)) c z l,0))=if k ∉ l.map key/\most<=l.length then([],6)else(KL.put key k c z l,0):=by
 rw[Tq,zzn,Lk];by_cases h:k ∉ l.map key/\most<=l.length
 .rw[dt h,aO h];rfl
 .rw[df h,aN h];rfl
def Ud{α:Type}[Inhabited α]{β:Type}{key:α->aj}{k:aj}{l:List α}{f:α->β}{b:β}:(bif decide (y6 (kP (λx=>decide (key x=k)) l)>=0)then(idx l (y6 (kP (λx=>decide (key x=k)) l))).bind λx=>aY (f x)else aY b)=aY (((KL.get key k l).map f).getD b):=by
 rw[D9,<- Lj]
 cases h:kP (λx=>decide (key x=k)) l with
 |none=>rfl
 |some i =>obtain⟨x,h1,_⟩:=FK h;rw[fc,ct,aH,h1,y6,zE h1,aH];rfl
def Xb{l:List za}{n:aj}(h:l.length<=9223372036854775807):z8 l n=aY (decide (n∈l.map za.aK)):=by unfold z8;rw[O1 h,aH,D9,Ve]
def abO{l:List eC}{ed:EB}(h:l.length<=9223372036854775807):yo l ed=aY (decide (ed.n∈l.map eC.aK)):=by unfold yo;rw[ab' h,aH,D9,Ve]
def get_some{α:Type}{key:α->aj}{k:aj}{l:List α}:(KL.get key k l).isSome=decide (k∈l.map key):=by
 cases h:KL.get key k l with
 |none=>rw[df (KL.get_none.1 h)];rfl
 |some x=>rw[dt (Kf h)];rfl
def WZ{α:Type}{key:α->aj}{k:aj}{c:α->α}{z z':α}:∀{l:List α},k∈l.map key->KL.put key k c z l=KL.put key k c z' l
 |[],h=>by cases h
 |x::r,h=>by
  rw[KL.put,KL.put];by_cases e:key x=k
  .rw[aO e,aO e]
  .rw[aN e,aN e,WZ (by
    rw[ig,bo]at h
    exact h.resolve_left (Ne.symm e))]
def zE5{l:List za}{n:aj}{ed:EB}(h:l.length<=100000):qA l n ed=aY (match KL.get za.aK n l with|none=>([],4)|some r=>(KL.put za.aK n (λx=>{ x with hJ:=ed.m }) r l,0)):=by
 unfold qA;rw[Xb ab,aH,<- get_some]
 cases hg:KL.get za.aK n l with
 |none=>rfl
 |some r =>
  have hin:=Kf hg;rw[fc,bN,cf,ack (most:=l.length) rfl h,WY,aN (λe=>e.1 hin),aH]
  congr 3
  exact WZ hin
def zE6{l:List eC}{ed:EB}(h:l.length<=100000):vY l ed=aY (match KL.get eC.aK ed.n l with|none=>([],4)|some r=>(KL.put eC.aK ed.n (λx=>{ x with mM:=ed.m }) r l,0)):=by
 unfold vY;rw[abO ab,aH,<- get_some]
 cases hg:KL.get eC.aK ed.n l with
 |none=>rfl
 |some r =>
  have hin:=Kf hg;rw[fc,bN,cf,acq (most:=l.length) rfl h,WY,aN (λe=>e.1 hin),aH]
  congr 3
  exact WZ hin
def AS{α:Type}{key:α->aj}{k:aj}{c c':α->α}{z z':α}(hz:c z=c' z'):∀{l:List α},(∀x,KL.get key k l=aY x->c x=c' x)->KL.put key k c z l=KL.put key k c' z' l
 |[],_=>by rw[KL.put,KL.put,hz]
 |x::r,h=>by
  rw[KL.put,KL.put];by_cases e:key x=k
  .rw[aO e,aO e,h x (by rw[KL.get,aO e])]
  .rw[aN e,aN e,AS hz λy hy=>h y (by rw[KL.get,aN e];exact hy)]
def W1(y:aj)(m:Int)(l:List av):List av×Int:=if y ∉ l.map av.aK/\60<=l.length then([],6)else(KL.put av.aK y (λ_=>⟨y,m⟩) ⟨[],0⟩ l,0)
def aeC{l:List av}{ed:EB}(h:l.length<=100000):Ah l ed 60=aY (W1 ed.y ed.m l):=by rw[aco (m:=60) (most:=60) rfl h,WY];rfl
def N7{q:List ar}{i:Nat}{x:ar}{ed:EB}{t:Int}(hx:q[i]?=aY x)(h:x.Rows.length<=100000):qh q (i:Int) ed t=aY (q.set i ⟨ed.n,(W1 ed.y ed.m x.Rows).1,x.mD⟩,(W1 ed.y ed.m x.Rows).2):=by have hl:=wB hx;unfold qh;rw[cm,hx,aH,fF hl,aH,aeC h,aH,aH,List.set_set]
def acn{l:List ar}{ed:EB}(h:l.length<=100000)(hr:∀t∈l,t.Rows.length<=100000):
  JM l ed 0 60=aY (if ed.n ∉ l.map ar.aK/\60<=l.length then([],6,0)else(KL.put ar.aK ed.n (λx=>⟨ed.n,(W1 ed.y ed.m x.Rows).1,x.mD⟩) ⟨[],[],0⟩ l,0,(W1 ed.y ed.m ((KL.get ar.aK ed.n l).getD ⟨[],[],0⟩).Rows).2)):=by
 unfold JM;rw[N_ h,aH,ix6 ab,aH,PV,<- Lj,<- Lk]
 cases hf:kP (λx:ar=>decide (x.aK=ed.n)) l with
 |none =>
  have hk:ed.n ∉ l.map ar.aK:=by have:=Tq (key:=ar.aK) (k:=ed.n) (l:=l);rw[hf]at this;exact aX this.symm
  rw[eY,ct];by_cases h6:60<=l.length
  .rw[dt (by omega:((ba l:Nat):Int)>=60),aO ⟨hk,h6⟩];rfl
  .rw[df (by omega:¬((ba l:Nat):Int)>=60),aN (λe=>h6 e.2),cf,zC (by simp;omega),aH,aH];simp only[yg,cm];rw[zC (by simp;omega),aH,N7 (q:=l++[(⟨[],[],0⟩:ar)]) (i:=l.length) (x:=(⟨[],[],0⟩:ar)) ae ae,aH,zC (FL ae),aH];rw[<- WX hf];rfl
 |some i =>
  obtain⟨x,h1,h2⟩:=FK hf;have:=wB h1;have hk:ed.n∈l.map ar.aK:=bF.2 ⟨x,bK h1,aX h2⟩;rw[gi,cf,aH,aN (λe=>e.1 hk),aH,h1]
  show(fN (0<=(i:Int)/\(i:Int)<((ba l:Nat):Int))).bind (λ_=>aM (qh l ((bB (i:Int):Nat):Int) ed 0) λx6=>aM (fN (mF [(ba l,ba x6.1)]=bg)) λ_=>aY (x6.1,(0:Int),x6.2))=_
  rw[zC ab,aH,cm,N7 h1 (hr x (bK h1)),aH,zC (FL ae),aH,<- WW hf h1];rfl
def zzo{p:yf}{d:Ed}(h:MV p):∃q,yy p (enc d)=aY (fp (AR p d) q)/\∀r,app p d=aY r->q=r:=by
 cases d with
 |mY r =>
  show ∃q,yy p (⟨0,[],[],0,r,km,[]⟩:zA)=_/\_
  unfold yy;dsimp only;simp only[decide_true,ct,vM,aH];rw[Xb (by have:=h.r;omega),aH,acj (m:=200) (most:=200) rfl h.r,Zz,eY,cg,ZA];simp only[app,AR];by_cases h1:r.aK∈p.aB.map za.aK
  .rw[dt h1,aO h1];exact⟨p,rfl,λq hq=>by rw[aO (.inl h1)]at hq;cases hq⟩
  .rw[df h1,aN h1];by_cases h2:200<=p.aB.length
   .rw[dt h2,aO h2];exact⟨{ p with aB:=[] },rfl,λq hq=>by rw[aO (.inr h2)]at hq;cases hq⟩
   .rw[df h2,aN h2,aN (λe=>e.elim h1 h2)]
    exact⟨{ p with aB:=p.aB++[r] },by
     obtain⟨a1,a2,a3,a4,a5,a6,a7,a8,⟨b1,b2,b3,b4,b5⟩,N5,N6,a12,afw⟩:=r
     rfl,λq hq=>Option.some.inj hq⟩
 |fin n d =>
  show ∃q,yy p (⟨1,n,[],d,ko,km,[]⟩:zA)=_/\_
  unfold yy;dsimp only;simp only[Int.reduceEq,decide_true,decide_false,ct,cf,vM,aH];rw[O1 (by have:=h.r;omega),aH,Ud (key:=za.aK) (k:=n) (l:=p.aB) (b:=bf) (f:=λx8:za=>decide (d<=x8.il)),aH,zE5 h.r,aH];simp only[app,AR]
  cases hg:KL.get za.aK n p.aB with
  |none=>exact⟨{ p with aB:=[] },rfl,λq hq=>by cases hq⟩
  |some r =>
   dsimp only[cP,dz];by_cases h1:d<=r.il
   .rw[dt h1,aO h1,aO h1];exact⟨p,rfl,λq hq=>by cases hq⟩
   .rw[df h1,aN h1,aN h1];exact⟨_,rfl,λq hq=>Option.some.inj hq⟩
 |mU d =>
  show ∃q,yy p (⟨2,d.aK,[],0,ko,d.Body,[]⟩:zA)=_/\_
  unfold yy;dsimp only;simp only[Int.reduceEq,decide_true,decide_false,ct,cf];rw[acm (m:=60) (most:=60) rfl h.d,WY,aH];simp only[app,AR];by_cases h1:d.aK ∉ p.aE.map Def.aK/\60<=p.aE.length
  .rw[aO h1,aO h1,aO h1];exact⟨{ p with aE:=[] },rfl,λq hq=>by cases hq⟩
  .rw[aN h1,aN h1,aN h1];refine⟨{ p with aE:=KL.put Def.aK d.aK (λ_=>d) d p.aE },?_,λq hq=>Option.some.inj hq⟩
   have hd:(⟨d.aK,⟨d.Body.Op,d.Body.N,d.Body.S,d.Body.Key,d.Body.fu⟩⟩:Def)=d:=by rw[zD]
   simp only[hd];rw[AS (c':=λ_=>d) (z':=d) rfl λ_ _=>rfl];rfl
 |row n x =>
  show ∃q,yy p (⟨3,n,x.aK,x.N,ko,km,[]⟩:zA)=_/\_
  unfold yy;dsimp only;simp only[Int.reduceEq,decide_true,decide_false,ct,cf];rw[acn h.t h.rows,aH];simp only[app,AR];by_cases h1:n ∉ p.Tables.map ar.aK/\60<=p.Tables.length
  .rw[aO h1,aO (.inl h1),aO (.inl h1)];exact⟨{ p with Tables:=[] },rfl,λq hq=>by cases hq⟩
  .rw[aN h1]
   have nD:((KL.get ar.aK n p.Tables).getD ⟨[],[],0⟩).Rows=((KL.get ar.aK n p.Tables).getD (zT n)).Rows:=by
    cases KL.get ar.aK n p.Tables<;>rfl
   by_cases h2:x.aK ∉ ((KL.get ar.aK n p.Tables).getD (zT n)).Rows.map av.aK/\60<=((KL.get ar.aK n p.Tables).getD (zT n)).Rows.length
   .rw[aO (.inr h2),aO (.inr h2)];simp only[nD,W1,aO h2];exact⟨{ p with Tables:=_ },rfl,λq hq=>by cases hq⟩
   .rw[aN (λe=>e.elim h1 h2),aN (λe=>e.elim h1 h2)];refine⟨{ p with Tables:=KL.put ar.aK n (pg x) (zT n) p.Tables },?_,λq hq=>Option.some.inj hq⟩
    have e2:(W1 x.aK x.N ((KL.get ar.aK n p.Tables).getD (zT n)).Rows).2=0:=by unfold W1;rw[aN h2]
    simp only[nD];rw[e2]
    show aY (max 0 0,p.aE,KL.put ar.aK n (λy:ar=>(⟨n,(W1 x.aK x.N y.Rows).1,y.mD⟩:ar)) ⟨[],[],0⟩ p.Tables,p.aA,p.aB,p.aI,p.aF,p.aJ,p.aG)=aY (0,p.aE,KL.put ar.aK n (pg x) (zT n) p.Tables,p.aA,p.aB,p.aI,p.aF,p.aJ,p.aG)
    rw[AS (c':=pg x) (z':=zT n) ?_ ?_]
    .rfl
    .unfold W1;rw[aN ae];rfl
    .intro y hg;have hy:=(KL.KS hg).1;rw[hg]at h2;have h2:¬(x.aK ∉ y.Rows.map av.aK/\60<=y.Rows.length):=h2;unfold W1 pg;rw[aN h2];obtain⟨a,b,c⟩:=y;dsimp only at hy;subst hy
     show(⟨a,KL.put av.aK x.aK (λ_=>x) ⟨[],0⟩ b,c⟩:ar)=⟨a,KL.put av.aK x.aK (λ_=>x) x b,c⟩
     rw[AS (c':=λ_=>x) (z':=x) rfl λ_ _=>rfl]
 |mZ z =>
  show ∃q,yy p (⟨4,z.aK,[],bif z.lQ then 1 else 0,ko,km,z.ay⟩:zA)=_/\_
  unfold yy;dsimp only
  have ho:decide ((bif z.lQ then(1:Int)else 0)=1)=z.lQ:=by cases z.lQ<;>rfl
  simp only[Int.reduceEq,decide_true,decide_false,ct,cf,ho];rw[ix8 (by have:=h.z;omega),aH,Ud (key:=zq.aK) (k:=z.aK) (l:=p.aA) (b:=bf) (f:=λx:zq=>!(x.lQ==z.lQ)),aH,acp (m:=60) (most:=60) rfl h.z,WY];simp only[app,AR];by_cases h1:∃y,KL.get zq.aK z.aK p.aA=aY y/\y.lQ≠z.lQ
  .rw[aO h1,aO (Or.inr h1)];obtain⟨y,hg,hy⟩:=h1
   have:(y.lQ==z.lQ)=bf:=by simpa using hy
   rw[hg,cP,dz,this];exact⟨p,rfl,λq hq=>by cases hq⟩
  .have:((KL.get zq.aK z.aK p.aA).map λx:zq=>!(x.lQ==z.lQ)).getD bf=bf:=by
    cases hg:KL.get zq.aK z.aK p.aA with
    |none=>rfl
    |some y =>
     have:y.lQ=z.lQ:=Classical.byContradiction λe=>h1 ⟨y,hg,e⟩
     simp[this]
   rw[this,aN h1,cf];by_cases h2:z.aK ∉ p.aA.map zq.aK/\60<=p.aA.length
   .rw[aO h2,aO h2,aO (Or.inl h2)];exact⟨{ p with aA:=[] },rfl,λq hq=>by cases hq⟩
   .rw[aN h2,aN h2,aN (λe=>e.elim h2 h1)];refine⟨{ p with aA:=KL.put zq.aK z.aK (λ_=>z) z p.aA },?_,λq hq=>Option.some.inj hq⟩;simp only[ho];rw[AS (c':=λ_=>z) (z':=z) rfl λ_ _=>rfl];rfl
 |lim n v =>
  show ∃q,yy p (⟨5,n,[],v,ko,km,[]⟩:zA)=_/\_
  unfold yy;dsimp only;simp only[Int.reduceEq,decide_true,decide_false,ct,cf];rw[zE6 h.c,aH];simp only[app,AR]
  cases hg:KL.get eC.aK n p.aI with
  |none=>exact⟨{ p with aI:=[] },rfl,λq hq=>by cases hq⟩
  |some c=>exact⟨_,rfl,λq hq=>Option.some.inj hq⟩
def Ts{α:Type}(l:List α)(L:Nat->(Int×List α)->Option (List α))(hL:∀K (i:Nat) x,l[i]?=aY x->L (K+1) ((i:Int),l)=L K (((i+1:Nat):Int),l))(hE:∀K,L (K+1) ((l.length:Int),l)=aY l):
  ∀(r:List α)(i K:Nat),l.drop i=r->i<=l.length->r.length<K->L K ((i:Int),l)=aY l
 |[],i,K,hr,hi,hK=>by
  obtain⟨K,rfl⟩:∃k,K=k+1:=⟨K-1,ab⟩
  have:=drop_nil hr hi;have e:i=l.length:=ab;rw[e,hE]
 |x::r,i,K,hr,hi,hK=>by
  obtain⟨K,rfl⟩:∃k,K=k+1:=⟨K-1,ab⟩
  obtain⟨h1,h2,h3⟩:=wT hr;simp only[lX]at hK;rw[hL K i x h1,Ts l L hL hE r (i+1) K h2 ab ab]
def KU{α:Type}(l:List α)(L:Nat->(Int×List α)->Option (List α))(hs:l.length<=100000)(hL:∀K (i:Nat) x,l[i]?=aY x->L (K+1) ((i:Int),l)=L K (((i+1:Nat):Int),l))(hE:∀K,L (K+1) ((l.length:Int),l)=aY l):L KK (0,l)=aY l:=Ts l L hL hE l 0 KK rfl (cx _) (oo ab)
def ou{α:Type}:∀{l:List α}{i:Nat}{x:α},l[i]?=aY x->l.set i x=l
 |y::r,0,x,h=>by cases h;rfl
 |y::r,i+1,x,h=>by rw[ep,ou (by simpa using h)]
def se(e:Expr):Int×Int×aj×aj×(List Expr):=(e.Op,e.N,e.S,e.Key,e.fu)
def U4{R:Expr->Option (Int×Int×aj×aj×(List Expr))}{l:List Expr}{c2 c3 c6:Int}{c4 c5 c7:aj}{c8:List Expr}(hl:l.length<=1000000000)(hR:∀x∈l,R x=aY (se x)):
  ∀(r:List Expr)(i K:Nat),l.drop i=r->i<=l.length->r.length<K->xC R l ((ba l:Nat):Int) c2 c3 c4 c5 c6 c7 c8 K ((i:Int),l.take i)=aY l
 |[],i,K,hr,hi,hK=>by
  obtain⟨K,rfl⟩:∃k,K=k+1:=⟨K-1,ab⟩
  have:=drop_nil hr hi;have e:i=l.length:=ab;rw[xC];simp only[e,z6,cf,List.take_length]
 |x::r,i,K,hr,hi,hK=>by
  obtain⟨K,rfl⟩:∃k,K=k+1:=⟨K-1,ab⟩
  obtain⟨h1,h2,h3⟩:=wT hr;simp only[lX]at hK;rw[xC];simp only[xm h1,ct,zE h1,aH,zD,hR x (bK h1),se]
  have e:l.take i++[x]=l.take (i+1):=by rw[List.take_succ,h1];rfl
  rw[e,zC (by rw[cD];omega),aH,zI ab,U4 hl hR r (i+1) K h2 ab ab]
def acd:∀(n:Nat)(e:Expr)(K:Nat),QN e<=n->n<=K->n<=1000000000->xh K e=aY (se e):=by
 intro n
 induction n with
 |zero=>intro e K h;have:=LM e;omega
 |succ n ih =>
  intro e K h hK hn
  obtain⟨K,rfl⟩:∃k,K=k+1:=⟨K-1,ab⟩
  obtain⟨o,m,s,k,az⟩:=e;rw[QN]at h;have hz:=Vb az;rw[xh];have:=U4 (R:=xh K) (l:=az) (c2:=o) (c3:=m) (c6:=0) (c4:=s) (c5:=k) (c7:=[]) (c8:=[]) ab (λx hx=>ih x K (by have:=Vc hx;omega) ab ab) az 0 KK rfl (cx _) (oo ab);rw[List.take_zero]at this;rw[show((0:Int),([]:List Expr))=(((0:Nat):Int),[]) from rfl,this];rfl
def PW{e:Expr}(h:uM e):xh KK e=aY (se e):=acd 1000000000 e KK h (gm (oo ab)) ab
structure U6(p:yf):Prop where
 lens:MV p
 v:p.aF.length<=100000
 s:p.aJ.length<=100000
 ds:∀x∈p.aE,uM x.Body
 zs:∀x∈p.aA,x.ay.length<=100000
 rs:∀x∈p.aB,x.aA.length<=100000/\x.Except.length<=100000/\uM x.Test
 cs:∀x∈p.aI,x.ay.length<=100000
 vs:∀x∈p.aF,x.lL.length<=100000
def zE8{c1:(List zh)}{c2:Int}{c3:(List zh)}{c4:Int}{c5:(List ar)}{c6:(List zq)}{c7:(List za)}{c8:(List eC)}{c9:(List au)}{iE:(List Def)}{iK:(List ar)}{iQ:(List zq)}{iF:(List za)}{iL:(List eC)}{iX:(List au)}{l:List Def}(hl:l.length<=100000)(hb:∀x∈l,uM x.Body):kH ((ba l:Nat):Int) c1 c2 c3 c4 c5 c6 c7 c8 c9 iE iK iQ iF iL iX KK (0,l)=aY l:=by
 refine KU l _ hl (λK i x hx=>?_) (λK=>by rw[kH];simp only[z6,cf])
 .rw[kH];have iB:=wB hx;have hg:(0:Int)<=(i:Int)/\(i:Int)<((ba l:Nat):Int):=ab;simp only[xm hx,ct,zC hg,hx,cm,aH,PW (hb x (bK hx)),se,zD];rw[ou hx,zI ab]
def zE9{c1:(List zh)}{c2:Int}{c3:(List zh)}{c4:Int}{c5:(List Def)}{c6:(List zq)}{c7:(List za)}{c8:(List eC)}{c9:(List au)}{iE:(List Def)}{iK:(List ar)}{iQ:(List zq)}{iF:(List za)}{iL:(List eC)}{iX:(List au)}{l:List ar}(hl:l.length<=100000)(hb:∀x∈l,x.Rows.length<=100000):kI ((ba l:Nat):Int) c1 c2 c3 c4 c5 c6 c7 c8 c9 iE iK iQ iF iL iX KK (0,l)=aY l:=by
 refine KU l _ hl (λK i x hx=>?_) (λK=>by rw[kI];simp only[z6,cf])
 .rw[kI];have iB:=wB hx;have hg:(0:Int)<=(i:Int)/\(i:Int)<((ba l:Nat):Int):=ab;simp only[xm hx,ct,zC hg,hx,cm,aH,abK (hb x (bK hx)),se,zD];rw[ou hx,zI ab]
def zFa{c1:(List zh)}{c2:Int}{c3:(List zh)}{c4:Int}{c5:(List Def)}{c6:(List ar)}{c7:(List za)}{c8:(List eC)}{c9:(List au)}{iE:(List Def)}{iK:(List ar)}{iQ:(List zq)}{iF:(List za)}{iL:(List eC)}{iX:(List au)}{l:List zq}(hl:l.length<=100000)(hb:∀x∈l,x.ay.length<=100000):kJ ((ba l:Nat):Int) c1 c2 c3 c4 c5 c6 c7 c8 c9 iE iK iQ iF iL iX KK (0,l)=aY l:=by
 refine KU l _ hl (λK i x hx=>?_) (λK=>by rw[kJ];simp only[z6,cf])
 .rw[kJ];have iB:=wB hx;have hg:(0:Int)<=(i:Int)/\(i:Int)<((ba l:Nat):Int):=ab;simp only[xm hx,ct,zC hg,hx,cm,aH,U9 (hb x (bK hx)),se,zD];rw[ou hx,zI ab]
def zFb{c1:(List zh)}{c2:Int}{c3:(List zh)}{c4:Int}{c5:(List Def)}{c6:(List ar)}{c7:(List zq)}{c8:(List eC)}{c9:(List au)}{iE:(List Def)}{iK:(List ar)}{iQ:(List zq)}{iF:(List za)}{iL:(List eC)}{iX:(List au)}{l:List za}(hl:l.length<=100000)(hb:∀x∈l,x.aA.length<=100000/\x.Except.length<=100000/\uM x.Test):kK ((ba l:Nat):Int) c1 c2 c3 c4 c5 c6 c7 c8 c9 iE iK iQ iF iL iX KK (0,l)=aY l:=by
 refine KU l _ hl (λK i x hx=>?_) (λK=>by rw[kK];simp only[z6,cf])
 .rw[kK];have hr:=hb x (bK hx);have iB:=wB hx;have hg:(0:Int)<=(i:Int)/\(i:Int)<((ba l:Nat):Int):=ab;simp only[xm hx,ct,zC hg,hx,cm,aH,U_ hr.1,U_ hr.2.1,zD,PW hr.2.2,se];simp only[ou hx,hx,zC hg,aH];rw[zI ab]
def zFc{c1:(List zh)}{c2:Int}{c3:(List zh)}{c4:Int}{c5:(List Def)}{c6:(List ar)}{c7:(List zq)}{c8:(List za)}{c9:(List au)}{iE:(List Def)}{iK:(List ar)}{iQ:(List zq)}{iF:(List za)}{iL:(List eC)}{iX:(List au)}{l:List eC}(hl:l.length<=100000)(hb:∀x∈l,x.ay.length<=100000):kL ((ba l:Nat):Int) c1 c2 c3 c4 c5 c6 c7 c8 c9 iE iK iQ iF iL iX KK (0,l)=aY l:=by
 refine KU l _ hl (λK i x hx=>?_) (λK=>by rw[kL];simp only[z6,cf])
 .rw[kL];have iB:=wB hx;have hg:(0:Int)<=(i:Int)/\(i:Int)<((ba l:Nat):Int):=ab;simp only[xm hx,ct,zC hg,hx,cm,aH,U9 (hb x (bK hx)),se,zD];rw[ou hx,zI ab]
def zFd{c1:(List zh)}{c2:Int}{c3:(List zh)}{c4:Int}{c5:(List Def)}{c6:(List ar)}{c7:(List zq)}{c8:(List za)}{c9:(List eC)}{iE:(List Def)}{iK:(List ar)}{iQ:(List zq)}{iF:(List za)}{iL:(List eC)}{iX:(List au)}{l:List au}(hl:l.length<=100000)(hb:∀x∈l,x.lL.length<=100000):kM ((ba l:Nat):Int) c1 c2 c3 c4 c5 c6 c7 c8 c9 iE iK iQ iF iL iX KK (0,l)=aY l:=by
 refine KU l _ hl (λK i x hx=>?_) (λK=>by rw[kM];simp only[z6,cf])
 .rw[kM];have iB:=wB hx;have hg:(0:Int)<=(i:Int)/\(i:Int)<((ba l:Nat):Int):=ab;simp only[xm hx,ct,zC hg,hx,cm,aH,Ob (hb x (bK hx)),se,zD];rw[ou hx,zI ab]
def acO{p:yf}(h:U6 p):HZ p=aY (p.aJ,p.aG,p.aE,p.Tables,p.aA,p.aB,p.aI,p.aF):=by unfold HZ;rw[N9 h.lens.d,aH,N_ h.lens.t,aH,N' h.lens.z,aH,GO h.lens.r,aH,Oa h.lens.c,aH,cl8 h.v,aH,Ob h.s,aH];rw[zE8 h.lens.d h.ds,aH,zE9 h.lens.t h.lens.rows,aH,zFa h.lens.z h.zs,aH,zFb h.lens.r h.rs,aH,zFc h.lens.c h.cs,aH,zFd h.v h.vs,aH]
mutual
def R5:∀e:Expr,oL e=bg
 |⟨_,_,s,k,az⟩=>by rw[oL,W2 az];simp
def W2:∀l:List Expr,WR l=bg
 |[]=>rfl
 |e::r=>by rw[WR,R5 e,W2 r];rfl
end
def LP{e:Expr}(h:QN e<=5000):nR e=bg:=by unfold nR;rw[R5,dt h];rfl
def Ue{r:za}(h1:r.aA.length<=3000)(h2:r.Except.length<=3000)(h3:QN r.Test<=5000):nC r=bg:=by unfold nC CH;rw[LP h3,dt h1,dt h2];simp
def tg(e:zA):Prop:=nC e.za=bg/\nR e.Body=bg/\e.ay.length<=64
def Gt(D:List Def)(Z:List zq)(R:List za)(hD:D.length<=300/\∀x∈D,nR x.Body=bg)(hZ:Z.length<=300/\∀x∈Z,x.ay.length<=64)(hR:R.length<=300/\∀x∈R,nC x=bg):rf ⟨D,[],Z,R,[],[],[],0⟩:=⟨hD.1,ae,hZ.1,hR.1,ae,ae,ae,λx hx=>⟨ab,hD.2 x hx⟩,λx hx=>(by cases hx),λx hx=>⟨ab,hZ.2 x hx⟩,hR.2,λx hx=>(by cases hx),λx hx=>(by cases hx)⟩
def rf.fit{p:yf}(h:rf p):U5 p:=by refine⟨⟨by have:=h.d;omega,λx hx=>uN (h.ds x hx).2⟩,⟨by have:=h.t;omega,λx hx=>by have:=(h.ts x hx).2.1;omega⟩,⟨by have:=h.z;omega,λx hx=>by have:=(h.zs x hx).2;omega⟩,⟨by have:=h.r;omega,λx hx=>?_⟩,⟨by have:=h.c;omega,λx hx=>by have:=(h.cs x hx).2;omega⟩,⟨by have:=h.v;omega,λx hx=>by have:=(h.vs x hx).2;omega⟩,by have:=h.s;omega⟩;obtain⟨_,h2,h3,h4⟩:=Vd (h.rs x hx);exact⟨by have:=h2.1;omega,by have:=h3.1;omega,uN h4⟩
def Kg(r:za):za.mk r.aK r.aA r.Except r.il r.hJ r.iI r.iN r.aL (Expr.mk r.Test.Op r.Test.N r.Test.S r.Test.Key r.Test.fu) r.zg r.Uses r.iD r.N=r:=by rw[zD]
def Tt(e:zA):zA.mk e.aL e.aK e.Key e.N e.za e.Body e.ay=e:=by cases e;rfl
def F_{a b:zA}(h:tg a):vX a b=aY (pd (a=b)):=by
 obtain⟨k,n,y,m,r,b1,c⟩:=a;obtain⟨k',n',y',m',r',GM,c'⟩:=b;obtain⟨h1,h2,h3⟩:=h;dsimp only at h1 h2 h3;unfold vX;dsimp only;rw[Kg r,Kg r',zD b1,zD GM,Je ab,zqq (rf.fit (Gt _ _ _ ⟨ae,λx hx=>by rw[gX]at hx;subst hx;exact h2⟩ ⟨ae,λx hx=>by cases hx⟩ ⟨ae,λx hx=>by rw[gX]at hx;subst hx;exact h1⟩))];simp only[aH,qp]
 have e:pd ((⟨k,n,y,m,r,b1,c⟩:zA)=⟨k',n',y',m',r',GM,c'⟩)=(pd (k=k')&&(pd (n=n')&&(pd (y=y')&&(pd (m=m')&&(pd (c=c')&&pd ((⟨[⟨[],b1⟩],[],[],[r],[],[],[],0⟩:yf)=⟨[⟨[],GM⟩],[],[],[r'],[],[],[],0⟩)))))):=by
  simp only[<- xM];refine wA ?_;simp only[zA.mk.injEq,yf.mk.injEq,List.cons.injEq,Def.mk.injEq,true_and,and_true];constructor
  .rintro⟨rfl,rfl,rfl,rfl,rfl,rfl,rfl⟩;simp
  .rintro⟨rfl,rfl,rfl,rfl,rfl,rfl,rfl⟩;simp
 rw[e];cases pd (k=k')<;>cases pd (n=n')<;>cases pd (y=y')<;>cases pd (m=m')<;>cases pd (c=c')<;>rfl
def zl0{r:za}:qI ⟨[],[],[],[r],[],[],[],0⟩↔y7 r.aK=bg/\WU r:=by simp[qI,xG,FJ,ve]
def zq2{d:Def}:qI ⟨[d],[],[],[],[],[],[],0⟩↔y7 d.aK=bg/\pc 12 d.Body=bg:=by simp[qI,xG,FJ,ve]
def zl1{z:zq}:qI ⟨[],[],[z],[],[],[],[],0⟩↔y7 z.aK=bg/\QO z.ay:=by simp[qI,xG,FJ,ve]
def fe(e:zA):Int×aj×aj×Int×aj×(List aj)×(List aj)×Int×Int×Int×Bool×Int×Int×Int×aj×aj×(List Expr)×Int×Int×Int×Int×Int×Int×Int×Int×Int×aj×aj×(List Expr)×(List zt):=(e.aL,e.aK,e.Key,e.N,e.za.aK,e.za.aA,e.za.Except,e.za.il,e.za.hJ,e.za.iI,e.za.iN,e.za.aL,e.za.Test.Op,e.za.Test.N,e.za.Test.S,e.za.Test.Key,e.za.Test.fu,e.za.zg.me,e.za.zg.mb,e.za.zg.l8,e.za.zg.Den,e.za.Uses,e.za.iD,e.za.N,e.Body.Op,e.Body.N,e.Body.S,e.Body.Key,e.Body.fu,e.ay)
def zq3{r:za}:Hi ⟨[],[],[],[r],[],[],[],0⟩=aY (fe (enc (.mY r))):=rfl
def zuo{d:Def}:Hi ⟨[d],[],[],[],[],[],[],0⟩=aY (fe (enc (.mU d))):=rfl
def zq4{z:zq}:Hi ⟨[],[],[z],[],[],[],[],0⟩=aY (fe (enc (.mZ z))):=by obtain⟨n,o,c⟩:=z;cases o<;>rfl
def GL:Ed->Prop
 |.mY r=>nC r=bg
 |.mU d=>nR d.Body=bg
 |.mZ z=>z.ay.length<=64
 |_=>True
def Mo:nR km=bg:=LP (by simp[km,QN,rR])
def Mp:nC ko=bg:=Ue (by simp[ko]) (by simp[ko]) (by simp[ko,km,QN,rR])
def LX{d:Ed}(h:GL d):tg (enc d):=by
 cases d with
 |mY r=>exact⟨h,Mo,by simp[enc]⟩
 |mU r=>exact⟨Mp,h,by simp[enc]⟩
 |mZ z=>exact⟨Mp,Mo,h⟩
 |_=>exact⟨Mp,Mo,by simp[enc]⟩
def CB{P:Prop}{b:Bool}(h:b=bg↔P):aY b=aY (pd P):=aP aY (jN h)
def zzp{e:zA}(h:tg e):vh e=aY (pd (∃d:Ed,d.ok/\enc d=e)):=by
 obtain⟨k,n,y,m,r,b1,c⟩:=e;have hz:tg ⟨k,n,y,m,r,b1,c⟩:=h;obtain⟨h1,h2,h3⟩:=h;dsimp only at h1 h2 h3;unfold vh;dsimp only;rw[Kg r,zD b1];unfold JI;dsimp only;rw[Kg r,zD b1];by_cases k0:k=0
 .subst k0;simp only[decide_true,ct,aH];rw[Ke (Gt [] [] [r] ⟨ae,λx hx=>by cases hx⟩ ⟨ae,λx hx=>by cases hx⟩ ⟨ae,λx hx=>by rw[gX]at hx;subst hx;exact h1⟩),aH];rw[zq3,aH]
  show(bif _ then(vX (enc (.mY r)) ⟨0,n,y,m,r,b1,c⟩).bind λx4=>aY x4 else aY bf)=_
  rw[F_ (b:=⟨0,n,y,m,r,b1,c⟩) (LX (d:=.mY r) h1),aH,vy,<- xM];refine aP aY (wA ?_);rw[zl0];constructor
  .rintro⟨g,e⟩;exact⟨.mY r,g,e⟩
  .rintro⟨d,g,e⟩
   cases d with
   |mY r' =>
    have:r'=r:=by injection e
    subst this;exact⟨g,e⟩
   |_=>simp[enc]at e
 by_cases k2:k=2
 .subst k2;simp only[Int.reduceEq,decide_false,cf,decide_true,ct,aH];rw[Ke (Gt [⟨n,b1⟩] [] [] ⟨ae,λx hx=>by rw[gX]at hx;subst hx;exact h2⟩ ⟨ae,λx hx=>by cases hx⟩ ⟨ae,λx hx=>by cases hx⟩),aH];rw[zuo,aH]
  show(bif _ then(vX (enc (.mU ⟨n,b1⟩)) ⟨2,n,y,m,r,b1,c⟩).bind λx4=>aY x4 else aY bf)=_
  rw[F_ (b:=⟨2,n,y,m,r,b1,c⟩) (LX (d:=.mU ⟨n,b1⟩) h2),aH,vy,<- xM];refine aP aY (wA ?_);rw[zq2];constructor
  .rintro⟨g,e⟩;exact⟨.mU ⟨n,b1⟩,g,e⟩
  .rintro⟨d,g,e⟩
   cases d with
   |mU d' =>
    obtain⟨n',b'⟩:=d';simp only[enc,zA.mk.injEq]at e;obtain⟨_,rfl,rfl,rfl,rfl,rfl,rfl⟩:=e;exact⟨g,rfl⟩
   |_=>simp[enc]at e
 by_cases k4:k=4
 .subst k4;simp only[Int.reduceEq,decide_false,cf,decide_true,ct,aH];rw[Ke (Gt [] [⟨n,decide (m=1),c⟩] [] ⟨ae,λx hx=>by cases hx⟩ ⟨ae,λx hx=>by rw[gX]at hx;subst hx;exact h3⟩ ⟨ae,λx hx=>by cases hx⟩),aH];rw[zq4,aH]
  show(bif _ then(vX (enc (.mZ ⟨n,decide (m=1),c⟩)) ⟨4,n,y,m,r,b1,c⟩).bind λx4=>aY x4 else aY bf)=_
  rw[F_ (b:=⟨4,n,y,m,r,b1,c⟩) (LX (d:=.mZ ⟨n,decide (m=1),c⟩) h3),aH,vy,<- xM];refine aP aY (wA ?_);rw[zl1];constructor
  .rintro⟨g,e⟩;exact⟨.mZ ⟨n,decide (m=1),c⟩,g,e⟩
  .rintro⟨d,g,e⟩
   cases d with
   |mZ d' =>
    obtain⟨n',o',c'⟩:=d';simp only[enc,zA.mk.injEq]at e;obtain⟨_,rfl,rfl,rfl,rfl,rfl,rfl⟩:=e
    have:decide ((bif o' then(1:Int)else 0)=1)=o':=by cases o'<;>rfl
    rw[this];exact⟨g,rfl⟩
   |_=>simp[enc]at e
 rw[df k0,df k2,df k4];simp only[cf,aH];rw[F_ hz];simp only[aH];rw[yc (cx _)]
 have EY:(⟨k,n,y,m,r,b1,c⟩:zA)=⟨k,n,y,m,ko,km,[]⟩↔(r=ko/\b1=km/\c=[]):=by simp only[zA.mk.injEq,true_and]
 show(aM (bif (!(pd ((⟨k,n,y,m,r,b1,c⟩:zA)=⟨k,n,y,m,ko,km,[]⟩)))then aY bg else(aY (y7 n)).bind λx7=>aY (!x7)) _)=_
 by_cases hq:r=ko/\b1=km/\c=[]
 .rw[wC.2 (EY.2 hq)];obtain⟨rfl,rfl,rfl⟩:=hq;by_cases hn:y7 n=bg
  .rw[hn];simp only[bN,cf,aH];rw[yc (cx _)];simp only[aH];by_cases k1:k=1
   .subst k1;simp only[decide_true,ct];rw[vy,vy];refine CB ?_;simp only[bn,aU];constructor
    .rintro⟨rfl,g1,g2⟩;exact⟨.fin n m,⟨hn,g1,g2⟩,rfl⟩
    .rintro⟨d,g,e⟩
     cases d with
     |fin n' d' =>
      simp only[enc,zA.mk.injEq]at e;obtain⟨_,rfl,rfl,rfl,_⟩:=e;exact⟨rfl,g.2⟩
     |_=>simp[enc]at e
   by_cases k3:k=3
   .subst k3;simp only[Int.reduceEq,decide_false,cf,decide_true,ct];rw[vy,vy];refine CB ?_;simp only[bn,aU];constructor
    .rintro⟨g0,g1,g2⟩;exact⟨.row n ⟨y,m⟩,⟨hn,g0,g1,g2⟩,rfl⟩
    .rintro⟨d,g,e⟩
     cases d with
     |row n' d' =>
      simp only[enc,zA.mk.injEq]at e;obtain⟨_,rfl,rfl,rfl,_⟩:=e;exact g.2
     |_=>simp[enc]at e
   by_cases k5:k=5
   .subst k5;simp only[Int.reduceEq,decide_false,cf,decide_true,ct];rw[vy,vy];refine CB ?_;simp only[bn,aU];constructor
    .rintro⟨rfl,g1,g2⟩;exact⟨.lim n m,⟨hn,g1,g2⟩,rfl⟩
    .rintro⟨d,g,e⟩
     cases d with
     |lim n' d' =>
      simp only[enc,zA.mk.injEq]at e;obtain⟨_,rfl,rfl,rfl,_⟩:=e;exact⟨rfl,g.2⟩
     |_=>simp[enc]at e
   rw[df k1,df k3,df k5];simp only[cf];refine CB ⟨λh=>(by cases h),?_⟩;rintro⟨d,g,e⟩;cases d<;>simp only[enc,zA.mk.injEq]at e<;>omega
  .have EU:y7 n=bf:=by simpa using hn
   rw[EU];simp only[bN,cH,cf,ct,aH];refine CB ⟨λh=>(by cases h),?_⟩;rintro⟨d,g,e⟩
   cases d with
   |fin n' d' =>
    simp only[enc,zA.mk.injEq]at e;obtain⟨_,rfl,_⟩:=e;exact aQ g.1 hn
   |row n' d' =>
    simp only[enc,zA.mk.injEq]at e;obtain⟨_,rfl,_⟩:=e;exact aQ g.1 hn
   |lim n' d' =>
    simp only[enc,zA.mk.injEq]at e;obtain⟨_,rfl,_⟩:=e;exact aQ g.1 hn
   |_=>simp only[enc,zA.mk.injEq]at e;omega
 .rw[qG (λe=>hq (EY.1 e))];simp only[cH,ct,aH];refine CB ⟨λh=>(by cases h),?_⟩;rintro⟨d,g,e⟩
  cases d with
  |fin n' d' =>
   simp only[enc,zA.mk.injEq]at e;exact aQ ⟨e.2.2.2.2.1.symm,e.2.2.2.2.2.1.symm,e.2.2.2.2.2.2.symm⟩ hq
  |row n' d' =>
   simp only[enc,zA.mk.injEq]at e;exact aQ ⟨e.2.2.2.2.1.symm,e.2.2.2.2.2.1.symm,e.2.2.2.2.2.2.symm⟩ hq
  |lim n' d' =>
   simp only[enc,zA.mk.injEq]at e;exact aQ ⟨e.2.2.2.2.1.symm,e.2.2.2.2.2.1.symm,e.2.2.2.2.2.2.symm⟩ hq
  |_=>simp only[enc,zA.mk.injEq]at e;omega
def zzq{a b:Ed}(h:enc a=enc b):a=b:=by
 cases a<;>cases b<;>simp only[enc,zA.mk.injEq]at h<;>first|(exfalso;omega)|skip
 case mY.mY r s=>rw[h.2.2.2.2.1]
 case fin.fin n d m e=>rw[h.2.1,h.2.2.2.1]
 case mU.mU d e =>obtain⟨n,b⟩:=d;obtain⟨n',b'⟩:=e;obtain⟨_,h1,_,_,_,h2,_⟩:=h;dsimp only at h1 h2;rw[h1,h2]
 case row.row n x m y =>obtain⟨k,v⟩:=x;obtain⟨k',v'⟩:=y;obtain⟨_,h1,h2,h3,_⟩:=h;dsimp only at h1 h2 h3;rw[h1,h2,h3]
 case mZ.mZ x y =>
  obtain⟨k,o,v⟩:=x;obtain⟨k',o',v'⟩:=y;obtain⟨_,h1,_,h2,_,_,h3⟩:=h;dsimp only at h1 h2 h3
  have:o=o':=by revert h2;cases o<;>cases o'<;>simp
  rw[h1,this,h3]
 case lim.lim n d m e=>rw[h.2.1,h.2.2.2.1]
structure CK(p:yf):Prop where
 right:qI p
 ds:∀x∈p.aE,nR x.Body=bg
 rs:∀x∈p.aB,nC x=bg
def CK.nV{p:yf}(h:CK p):rf p:=by obtain⟨⟨⟨d,t,z,r,c,v⟩,⟨bd,bt,bz,br,bc,bv,bs⟩,hr,hs⟩,e1,e2⟩:=h;exact⟨by have:=d.1;omega,by have:=t.1;omega,by have:=z.1;omega,by have:=r.1;omega,by have:=c.1;omega,by have:=v.1;omega,ab,λx hx=>⟨ab,e1 x hx⟩,λx hx=>⟨ab,by have:=(bt x hx).1.1;omega,λy _=>ab⟩,λx hx=>⟨ab,by have:=(bz x hx).1.2;omega⟩,e2,λx hx=>⟨ab,by have:=(bc x hx).2.2.1.2;omega⟩,λx hx=>⟨ab,by have:=(bv x hx).2.1.2;omega⟩⟩
def rf.lens{p:yf}(h:rf p):MV p:=
 ⟨by have:=h.d;omega,by have:=h.t;omega,by have:=h.z;omega,by have:=h.r;omega,by have:=h.c;omega,λt ht=>by have:=(h.ts t ht).2.1;omega⟩
def rf.own{p:yf}(h:rf p):U6 p:=
 ⟨h.lens,by have:=h.v;omega,by have:=h.s;omega,λx hx=>uN (h.ds x hx).2,λx hx=>by have:=(h.zs x hx).2;omega,λx hx=>by
  obtain⟨_,h2,h3,h4⟩:=Vd (h.rs x hx)
  exact⟨by have:=h2.1;omega,by have:=h3.1;omega,uN h4⟩,λx hx=>by have:=(h.cs x hx).2;omega,λx hx=>by have:=(h.vs x hx).2;omega⟩
def Tu{p q:yf}{e:Ed}(h:CK p)(he:e.ok)(hs:GL e)(ha:app p e=aY q):CK q:=by
 refine⟨zqy h.right he ha,?_,?_⟩
 .intro x hx
  cases e with
  |mU d =>
   simp only[app]at ha;split at ha
   .cases ha
   .cases ha;exact q9 (c:=λ_=>d) (z:=d) (P:=λd:Def=>nR d.Body=bg) hs h.ds (λ_ _ _=>hs) x hx
  |mY r =>
   simp only[app]at ha;split at ha
   .cases ha
   .cases ha;exact h.ds x hx
  |fin n d =>
   simp only[app]at ha;split at ha
   .cases ha
   .split at ha
    .cases ha
    .cases ha;exact h.ds x hx
  |row n d =>
   simp only[app]at ha;split at ha
   .cases ha
   .cases ha;exact h.ds x hx
  |mZ n =>
   simp only[app]at ha;split at ha
   .cases ha
   .cases ha;exact h.ds x hx
  |lim n d =>
   simp only[app]at ha;split at ha
   .cases ha
   .cases ha;exact h.ds x hx
 .intro x hx
  cases e with
  |mY r =>
   simp only[app]at ha;split at ha
   .cases ha
   .cases ha
    rcases bI.1 hx with hx|hx
    .exact h.rs x hx
    .rw[gX]at hx;subst hx;exact hs
  |mU d =>
   simp only[app]at ha;split at ha
   .cases ha
   .cases ha;exact h.rs x hx
  |fin n d =>
   simp only[app]at ha;split at ha
   .cases ha
   .rename_i r hg;split at ha
    .cases ha
    .cases ha
     have hu:∀y:za,nC y=bg->nC { y with hJ:=d }=bg:=λy hy=>hy
     exact q9 (c:=λy:za=>{ y with hJ:=d }) (z:=r) (P:=λr:za=>nC r=bg) (hu r (h.rs r (KL.KS hg).2)) h.rs (λy hy _=>hu y (h.rs y hy)) x hx
  |row n d =>
   simp only[app]at ha;split at ha
   .cases ha
   .cases ha;exact h.rs x hx
  |mZ n =>
   simp only[app]at ha;split at ha
   .cases ha
   .cases ha;exact h.rs x hx
  |lim n d =>
   simp only[app]at ha;split at ha
   .cases ha
   .cases ha;exact h.rs x hx
def zp:yf:=⟨[],[],[],[],[],[],[],0⟩
def CL(p:yf)(d:Ed):Int×yf:=match app p d with
 |some q=>(0,q)
 |none=>(AR p d,zp)
open Classical in
noncomputable def pA(p:yf)(e:zA):Int×yf:=if h:∃d:Ed,d.ok/\enc d=e then CL p h.choose else(1,zp)
def Uf{p:yf}{d:Ed}(hd:d.ok):pA p (enc d)=CL p d:=by
 have h:∃d':Ed,d'.ok/\enc d'=enc d:=⟨d,hd,rfl⟩
 unfold pA;rw[dif_pos h,zzq h.choose_spec.2]
def Ug{p:yf}{e:zA}(h:¬∃d:Ed,d.ok/\enc d=e):pA p e=(1,zp):=by unfold pA;rw[dif_neg h]
def Uh{d:Ed}(h:tg (enc d)):GL d:=by
 cases d with
 |mY r=>exact h.1
 |mU d=>exact h.2.1
 |mZ z=>exact h.2.2
 |_=>trivial
def zzr{p:yf}{d:Ed}:(CL p d).1=0↔(app p d).isSome=bg:=by
 unfold CL
 cases h:app p d with
 |some q=>simp
 |none =>
  have:=(not_congr (Ll (p:=p) (e:=d))).1 (by rw[h];simp);simp[this]
def acN{p:yf}{e:zA}(hp:CK p)(he:tg e):u7 p e=aY (fp (pA p e).1 (pA p e).2):=by
 unfold u7;simp only[Kg,zD,Tt];rw[Ke hp.nV,KR hp.right,zzp he];simp only[aH,bN,cf];by_cases h:∃d:Ed,d.ok/\enc d=e
 .rw[KR h,bN,cf];obtain⟨d,hd,rfl⟩:=h;obtain⟨q,h1,h2⟩:=zzo (d:=d) hp.nV.lens;rw[h1,Uf hd,aH];unfold CL
  cases hq:app p d with
  |none =>
   have:=(not_congr (Ll (p:=p) (e:=d))).1 (by rw[hq];simp)
   show(bif (!(decide (AR p d=0)))then _ else _)=_
   rw[df this];rfl
  |some r =>
   have hc:=(Ll (p:=p) (e:=d)).1 (by rw[hq];rfl);cases h2 r hq;have hk:=Tu hp hd (Uh he) hq
   show(bif (!(decide (AR p d=0)))then _ else(HZ q).bind _)=_
   rw[hc,acO hk.nV.own];rfl
 .rw[qG h,Ug h];rfl
def Up{R:Expr->Int->Int->Option Int}{m:Nat}{lv:Int}{c2 c3:Int}{c4 c5:aj}{l:List Expr}(y_:1<=lv/\lv<=1000)(hm:m<=1000)
  (hR:∀x∈l,∀k:Nat,k<=1000->∃v:Nat,R x (k:Int) (lv-1)=aY (v:Int)/\1<=v/\v<=k+1/\(v<=k->QN x<=v)):
  ∀(r:List Expr)(i K n:Nat),l.drop i=r->i<=l.length->m+1-n<K->n<=m+1->i<=n->∃v:Nat,xD R (m:Int) lv c2 c3 c4 c5 l K ((n:Int),(i:Int))=aY (v:Int)/\n<=v/\v<=m+1/\(v<=m->n+rR r<=v)
 |[],i,K,n,hr,hi,hK,hn,hin=>by
  obtain⟨K,rfl⟩:∃k,K=k+1:=⟨K-1,ab⟩
  have:=drop_nil hr hi;have e:i=l.length:=ab;refine⟨n,?_,ab,ab,λ_=>by simp[rR]⟩;rw[xD,e];simp only[z6,cf,aH]
 |x::r,i,K,n,hr,hi,hK,hn,hin=>by
  obtain⟨K,rfl⟩:∃k,K=k+1:=⟨K-1,ab⟩
  obtain⟨h1,h2,h3⟩:=wT hr;rw[xD];simp only[xm h1,ct,aH];by_cases g:n<=m
  .rw[dt (by omega:(n:Int)<=(m:Int)),ct,zE h1,aH];obtain⟨v,e1,e2,e3,e4⟩:=hR x (bK h1) (m-n) ab;rw[qF (n:=(m:Int)-(n:Int)) ab ab,qF (n:=lv-1) ab ab,show(m:Int)-(n:Int)=((m-n:Nat):Int) by omega,e1,aH,qF (n:=(n:Int)+(v:Int)) ab ab,zI ab,show(n:Int)+(v:Int)=((n+v:Nat):Int) by omega];obtain⟨u,f1,f2,f3,f4⟩:=Up y_ hm hR r (i+1) K (n+v) h2 ab ab ab ab;refine⟨u,f1,ab,f3,λhu=>?_⟩;have:=f4 hu;have:=e4 ab;rw[rR];omega
  .rw[df (by omega:¬(n:Int)<=(m:Int)),cf];exact⟨n,rfl,ab,hn,λh=>aQ h g⟩
def zup:∀(lv K:Nat)(e:Expr)(m:Nat),lv<K->lv<=1000->m<=1000->∃v:Nat,zZ K e (m:Int) (lv:Int)=aY (v:Int)/\1<=v/\v<=m+1/\(v<=m->QN e<=v):=by
 intro lv
 induction lv with
 |zero =>
  intro K e m hK _ hm
  obtain⟨K,rfl⟩:∃k,K=k+1:=⟨K-1,ab⟩
  refine⟨m+1,?_,ab,ab,ab⟩;rw[zZ]
  show(bif bg then aY (b_ ((m:Int)+1))else _)=_
  rw[ct,zI ab]
 |succ lv ih =>
  intro K e m hK y_ hm
  obtain⟨K,rfl⟩:∃k,K=k+1:=⟨K-1,ab⟩
  rw[zZ,df (by omega:¬((lv+1:Nat):Int)<1),cf]
  obtain⟨v,h1,h2,h3,h4⟩:=Up (R:=zZ K) (m:=m) (lv:=((lv+1:Nat):Int)) (c2:=e.Op) (c3:=e.N) (c4:=e.S) (c5:=e.Key) (l:=e.fu) ⟨ab,ab⟩ hm (λx _ k hk=>by
   rw[show((lv+1:Nat):Int)-1=(lv:Int) by omega]
   exact ih K x k ab ab hk) e.fu 0 KK 1 rfl (cx _) (oo ab) ab ab
  refine⟨v,?_,h2,h3,λhv=>?_⟩
  .rw[show(1:Int)=((1:Nat):Int) from rfl,show(0:Int)=((0:Nat):Int) from rfl,h1];rfl
  .have:=h4 hv;obtain⟨_,_,_,_,az⟩:=e;rw[QN];dsimp only at this;omega
def rn(e:Expr):Prop:=∃v:Nat,zZ KK e 20 14=aY (v:Int)/\v<=20
def Hq(e:Expr):∃v:Nat,zZ KK e 20 14=aY (v:Int)/\(v<=20->QN e<=20):=by obtain⟨v,h1,_,_,h4⟩:=zup 14 KK e 20 (oo ab) ab ab;exact⟨v,h1,λh=>by have:=h4 h;omega⟩
def PY{e:Expr}{v:Nat}(h:zZ KK e 20 14=aY (v:Int)):decide ((v:Int)<=20)=pd (rn e):=by
 refine jN ?_;rw[aU];constructor
 .intro g;exact⟨v,h,ab⟩
 .rintro⟨u,hu,hu2⟩;rw[h]at hu;have:(v:Int)=u:=Option.some.inj hu;omega
def PZ{e:Expr}{v:Nat}(h:zZ KK e 20 14=aY (v:Int)):decide ((v:Int)>20)=!(pd (rn e)):=by rw[<- PY h,<- decide_not];exact vz ab
def rn.nV{e:Expr}(h:rn e):nR e=bg:=by obtain⟨v,h1,h2⟩:=Hq e;obtain⟨u,h3,h4⟩:=h;rw[h1]at h3;have:(v:Int)=u:=Option.some.inj h3;have:=h2 ab;exact LP ab
def rW(r:za):Prop:=rn r.Test/\r.aA.length<=6/\r.Except.length<=6
def rW.nV{r:za}(h:rW r):nC r=bg:=by have:=Li h.1.nV;exact Ue (by have:=h.2.1;omega) (by have:=h.2.2;omega) this.1
def Tv{r:za}:kN r=aY (pd (rW r)):=by unfold kN;rw[zD];obtain⟨v,h1,_⟩:=Hq r.Test;rw[h1,aH,PY h1,vy,vy];refine aP aY ?_;unfold rW;rw[xM,xM,DW r.aA.length 6 (a:=6) rfl,DW r.Except.length 6 (a:=6) rfl,qp,qp]
structure tW(p:yf):Prop where
 l:p.aE.length<=5/\p.Tables.length<=5/\p.aA.length<=5/\p.aB.length<=5/\p.aI.length<=5/\p.aF.length<=5/\p.aJ.length<=5
 d:∀x∈p.aE,rn x.Body
 t:∀x∈p.Tables,x.Rows.length<=6
 z:∀x∈p.aA,x.ay.length<=12
 r:∀x∈p.aB,rW x
 c:∀x∈p.aI,x.ay.length<=12
 v:∀x∈p.aF,x.lL.length<=6
def tW.nV{p:yf}(h:tW p):rf p:=by obtain⟨⟨a1,a2,a3,a4,a5,a6,a7⟩,hd,ht,hz,hr,hc,hv⟩:=h;exact⟨ab,ab,ab,ab,ab,ab,ab,λx hx=>⟨ab,(hd x hx).nV⟩,λx hx=>⟨ab,by have:=ht x hx;omega,λ_ _=>ab⟩,λx hx=>⟨ab,by have:=hz x hx;omega⟩,λx hx=>(hr x hx).nV,λx hx=>⟨ab,by have:=hc x hx;omega⟩,λx hx=>⟨ab,by have:=hv x hx;omega⟩⟩
def tW.keep{p:yf}(h:tW p)(hr:qI p):CK p:=⟨hr,λx hx=>(h.d x hx).nV,λx hx=>(h.r x hx).nV⟩
def Hr{a:Nat}{m:Int}(n:Nat){f:Option Bool}{r:Prop}(hm:m=(n:Int))(hr:a<=n->f=aY (!(pd r))):(bif decide ((a:Int)>m)then aY bg else f)=aY (!(pd (a<=n/\r))):=by rw[zy0 n hm hr,xM,qp]
def zuq{p:yf}:Hj p=aY (pd (tW p)):=by
 unfold Hj;rw[Hr (m:=5) 5 rfl λh1=>Hr (m:=5) 5 rfl λh2=>Hr (m:=5) 5 rfl λh3=>Hr (m:=5) 5 rfl λh4=>Hr (m:=5) 5 rfl λh5=>Hr (m:=5) 5 rfl λh6=>(by rw[KP (m:=5) 5 rfl,qp]:aY (decide (((ba p.aJ:Nat):Int)>5))=aY (!(pd (p.aJ.length<=5)))),aH];by_cases hl:p.aE.length<=5/\p.Tables.length<=5/\p.aA.length<=5/\p.aB.length<=5/\p.aI.length<=5/\p.aF.length<=5/\p.aJ.length<=5
 .rw[KR hl,bN,cf];obtain⟨a1,a2,a3,a4,a5,a6,a7⟩:=hl;have hp:pd (tW p)=pd ((∀x∈p.aE,rn x.Body)/\(∀x∈p.Tables,x.Rows.length<=6)/\(∀x∈p.aA,x.ay.length<=12)/\(∀x∈p.aB,rW x)/\(∀x∈p.aI,x.ay.length<=12)/\(∀x∈p.aF,x.lL.length<=6)):=wA ⟨λh=>⟨h.d,h.t,h.z,h.r,h.c,h.v⟩,λ⟨b1,b2,b3,b4,b5,b6⟩=>⟨⟨a1,a2,a3,a4,a5,a6,a7⟩,b1,b2,b3,b4,b5,b6⟩⟩;rw[hp]
  refine qm (vS p.aE (λx=>rn x.Body) (vk p.aE p.Tables p.aA p.aB p.aI p.aF p.aJ p.aG) (λq=>aM (idx p.aE q) λx1=>aM (zZ KK x1.Body 20 14) λx2=>aY (decide (x2>20))) ab (λK q=>?_) λi x h=>?_) λ_=>?_
  .rw[vk];simp only[cC,aH]
  .obtain⟨v,h1,_⟩:=Hq x.Body;simp only[zE h,aH,h1,PZ h1]
  refine qm (vS p.Tables (λx=>x.Rows.length<=6) (vl p.aE p.Tables p.aA p.aB p.aI p.aF p.aJ p.aG) (λq=>aM (idx p.Tables q) λx1=>aY (decide (((ba x1.Rows:Nat):Int)>6))) ab (λK q=>?_) λi x h=>?_) λ_=>?_
  .rw[vl];simp only[cC,aH]
  .rw[zE h,aH,KP (m:=6) 6 rfl,qp]
  refine qm (vS p.aA (λx=>x.ay.length<=12) (vm p.aE p.Tables p.aA p.aB p.aI p.aF p.aJ p.aG) (λq=>aM (idx p.aA q) λx1=>aY (decide (((ba x1.ay:Nat):Int)>12))) ab (λK q=>?_) λi x h=>?_) λ_=>?_
  .rw[vm];simp only[cC,aH]
  .rw[zE h,aH,KP (m:=12) 12 rfl,qp]
  refine qm (vS p.aB (λx=>rW x) (vn p.aE p.Tables p.aA p.aB p.aI p.aF p.aJ p.aG) (λq=>aM (idx p.aB q) λx1=>aM (kN x1) λx2=>aY (!x2)) ab (λK q=>?_) λi x h=>?_) λ_=>?_
  .rw[vn];simp only[cC,aH]
  .rw[zE h,aH,Tv];rfl
  refine qm (vS p.aI (λx=>x.ay.length<=12) (vq p.aE p.Tables p.aA p.aB p.aI p.aF p.aJ p.aG) (λq=>aM (idx p.aI q) λx1=>aY (decide (((ba x1.ay:Nat):Int)>12))) ab (λK q=>?_) λi x h=>?_) λ_=>?_
  .rw[vq];simp only[cC,aH]
  .rw[zE h,aH,KP (m:=12) 12 rfl,qp]
  have:=qm (r:=True) (f:=λ_=>aY bg) (vS p.aF (λx=>x.lL.length<=6) (vr p.aE p.Tables p.aA p.aB p.aI p.aF p.aJ p.aG) (λq=>aM (idx p.aF q) λx1=>aY (decide (((ba x1.lL:Nat):Int)>6))) ab (λK q=>by
   rw[vr];simp only[cC,aH]) λi x h=>by rw[zE h,aH,KP (m:=6) 6 rfl,qp]) λ_=>by rw[KR trivial]
  rw[this];exact aP aY (wA ae)
 .rw[qG hl,qG λh=>hl h.l];rfl
def tf(e:zA):Prop:=rW e.za/\rn e.Body/\e.ay.length<=12
def tf.sz{e:zA}(h:tf e):tg e:=⟨h.1.nV,h.2.1.nV,by have:=h.2.2;omega⟩
def zzs{l:List zA}:∃b,JV l=aY b/\(b=bg->l.length<=6/\∀e∈l,tf e):=by
 unfold JV;have key:=Lw (l.take 7) (λx=>pd (tf x)) (aY (bp ())) (aY (bA bf)) (vb l) (λK i x hx=>?_) (λK=>?_) (l.take 7) 0 KK rfl (cx _) (oo (by rw[cD];omega))
 .rw[show((0:Nat):Int)=0 from rfl]at key;rw[key]
  cases hA:(l.take 7).all (λx=>pd (tf x))with
  |false=>exact⟨bf,rfl,λh=>by cases h⟩
  |true =>
   refine⟨decide (((ba l:Nat):Int)<=6),rfl,λh=>?_⟩;rw[aU]at h;refine⟨ab,?_⟩;rw[List.take_of_length_le ab,bm]at hA
   exact λe he=>wC.1 (hA e he)
 .have hi:=wB hx;rw[cD]at hi
  have z_:l[i]?=aY x:=by rwa [List.getElem?_take,aO ab]at hx
  have hi7:i<7:=ab;have h7:decide ((i:Int)<7)=bg:=dt ab;rw[vb];simp only[xm z_,ct,aH,h7,zE z_,Tv];obtain⟨v,h1,_⟩:=Hq x.Body;rw[h1];simp only[aH,PZ h1]
  have hb:((bif (!(pd (rW x.za)))then aY bg else(bif (!(pd (rn x.Body)))then aY bg else aY (decide (((ba x.ay:Nat):Int)>12)))):Option Bool)=aY (!(pd (tf x))):=by rw[KP (m:=12) 12 rfl];unfold tf;rw[xM,xM,<- qp (p:=x.ay.length<=12)];cases pd (rW x.za)<;>cases pd (rn x.Body)<;>rfl
  rw[hb,aH,zI ab];cases pd (tf x)<;>rfl
 .rw[vb,cD];by_cases g:7<=l.length
  .rw[Nat.min_eq_left g]
   show aM (bif decide (((7:Nat):Int)<((ba l:Nat):Int))then aY bf else aY bf) _=_
   cases decide (((7:Nat):Int)<((ba l:Nat):Int))<;>rfl
  .rw[Nat.min_eq_right ab,z6];rfl
def lC{α:Type}(P:α->Prop)(o:Option α):Prop:=∃v,o=aY v/\P v
def TT{α:Type}(_:α):Prop:=True
def yk{α:Type}{P:α->Prop}{v:α}(h:P v):lC P (aY v):=⟨v,rfl,h⟩
def yH{α:Type}{v:α}:lC TT (aY v):=⟨v,rfl,trivial⟩
def yh{α:Type}{P:α->Prop}{c:Bool}{a b:Option α}(ha:c=bg->lC P a)(hb:c=bf->lC P b):lC P (bif c then a else b):=by
 cases c with
 |true=>exact ha rfl
 |false=>exact hb rfl
def zy{α β:Type}{P:β->Prop}{Q:α->Prop}{o:Option α}{f:α->Option β}(h:lC Q o)(k:∀v,Q v->lC P (f v)):lC P (o.bind f):=by obtain⟨v,rfl,hv⟩:=h;exact k v hv
def zzt{p:Prop}{i:Decidable p}(h:p):lC TT (@fN p i):=⟨(),zC h,trivial⟩
def W3{α:Type}[Inhabited α]{l:List α}{n:Int}(h0:0<=n)(h1:n<(l.length:Nat)):lC (·∈l) (idx l n):=by
 obtain⟨k,rfl⟩:∃k:Nat,n=(k:Int):=⟨n.toNat,ab⟩
 have hk:k<l.length:=ab;exact⟨l[k],zE (bx hk),dq hk⟩
def Uq{α:Type}{l:List α}{k:Nat}(h:k<l.length):lC (·∈l) (l[k]?):=⟨l[k],bx h,dq h⟩
def Ur{α β:Type}{P:α->Prop}{o:Option (α⊕β)}{g:β->Option α}(h:lC (λt=>∀a,t=bA a->P a) o)(k:∀b,lC P (g b)):lC P (o.bind (yg aY g)):=by
 obtain⟨t,rfl,ht⟩:=h
 cases t with
 |inl a=>exact⟨a,rfl,ht a rfl⟩
 |inr b=>exact k b
def wg{S T:Type}{L:Nat->S->Option T}(I:Nat->S->Prop)(post:T->Prop)(N:Nat)(hN:N<4611686018427387904){s:S}(h0:I 0 s)
  (step:∀K i s,I i s->i<N->lC post (L (K+1) s)∨∃s',I (i+1) s'/\L (K+1) s=L K s')
  (fin:∀K s,I N s->lC post (L (K+1) s)):lC post (L KK s):=by
 suffices h:∀(n i K:Nat)(s:S),I i s->i+n=N->n<K->lC post (L K s) from h N 0 KK s h0 ab (oo ab)
 intro n
 induction n with
 |zero =>
  intro i K s hI hn hK
  obtain⟨K,rfl⟩:∃k,K=k+1:=⟨K-1,ab⟩
  obtain rfl:i=N:=ab;exact fin K s hI
 |succ n ih =>
  intro i K s hI hn hK
  obtain⟨K,rfl⟩:∃k,K=k+1:=⟨K-1,ab⟩
  rcases step K i s hI ab with h|⟨s',h1,h2⟩
  .exact h
  .rw[h2];exact ih (i+1) K s' h1 ab ab
def D_{S T α:Type}{L:Nat->S->Option T}{I:Nat->S->Prop}{post:T->Prop}{K i:Nat}{o:Option α}{Q:α->Prop}{f:α->S}(h:lC Q o)(hf:∀v,Q v->I i (f v)):lC post (o.bind λv=>L K (f v))∨∃s',I i s'/\(o.bind λv=>L K (f v))=L K s':=by obtain⟨v,rfl,hv⟩:=h;exact .inr ⟨f v,hf v hv,rfl⟩
def Ga{r:yl}:lC TT (yD r):=by
 unfold yD
 refine yh (λ_=>yh (λ_=>yh (λ_=>yh (λ_=>yh (λ_=>yH) λ_=>yH) λ_=>yH) λ_=>yH) λ_=>yH) λ_=>yH
def Us{r:yl}:lC TT (ja r):=zy Ga λ_ _=>yh (λ_=>yH) λ_=>yH
def zzu{a b:yl}:lC TT (jG a b):=zy (Q:=TT) (zy Ga λ_ _=>yh (λ_=>yH) λ_=>zy Ga λ_ _=>yH) λ_ _=>yh (λ_=>yH) λ_=>zy Us λ_ _=>yH
def zur{a:yl}:lC TT (Jb a):=zy Us λ_ _=>yH
def Ut{a b:Int}:lC TT (yC a b):=zy (Q:=TT) yH λ_ _=>zy (Q:=TT) yH λ_ _=>yh (λ_=>yh (λ_=>yH) λ_=>yH) λ_=>yh (λ_=>yH) λ_=>yh (λ_=>yH) λ_=>yh (λ_=>yH) λ_=>yH
def QP{α:Type}{l:List α}{i:Nat}(h:i<l.length):∃x,l[i]?=aY x:=⟨_,bx h⟩
def zFg{l:List Int}(h:l.length<1000000):lC TT (Hh l):=by
 refine Ur ?_ λ_=>yH
 refine wg (λi s=>s=(i:Int)) _ l.length ab rfl (λK i s hs hi=>?_) λK s hs=>?_
 .subst hs;obtain⟨x,hx⟩:=QP hi;rw[xT,xm hx,ct,zE hx,aH]
  cases decide (x=0)with
  |false=>exact .inl ⟨_,rfl,λ_ _=>trivial⟩
  |true=>exact .inr ⟨_,rfl,by rw[zI ab];rfl⟩
 .subst hs;rw[xT,z6];exact⟨_,rfl,λ_ _=>trivial⟩
def zrg{b a:List yl}{c2 c3 c5 c6 c7 c8:Int}(hb:b.length<1000000){q:Int×Int×Int×Int×Int×Int}(h0:q.2.1=0):lC TT (ya b a c2 c3 ((ba b:Nat):Int) c5 c6 c7 c8 KK q):=by
 refine wg (λi s=>s.2.1=(i:Int)) _ b.length ab h0 (λK i s hs hi=>?_) λK s hs=>?_
 .obtain⟨x,hx⟩:=QP hi;rw[ya,hs,xm hx,ct]
  refine D_ (L:=ya b a c2 c3 ((ba b:Nat):Int) c5 c6 c7 c8) (I:=λi s=>s.2.1=((i:Nat):Int)) (i:=i+1) (Q:=TT) ?_ λv _=>?_
  .rw[zE hx,aH]
   refine zy zzu λ_ _=>yh (λ_=>yH) λ_=>zy zur λ_ _=>zy Ut λ_ _=>zy Ut λ_ _=>zy (zFg ae) λ_ _=>yh (λ_=>yH) λ_=>yH
  .exact zI ab
 .rw[ya,hs,z6];exact yH
def zl3{a b:List yl}(ha:a.length<1000000)(hb:b.length<1000000):lC TT (qk a b):=by
 refine zy (Q:=TT) ?_ λ_ _=>yH
 refine wg (λi s=>s.2.1=(i:Int)) _ a.length ab rfl (λK i s hs hi=>?_) λK s hs=>?_
 .obtain⟨x,hx⟩:=QP hi;rw[yj,hs,xm hx,ct,zE hx,aH]
  exact D_ (L:=yj b a ((ba a:Nat):Int)) (I:=λi s=>s.2.1=((i:Nat):Int)) (i:=i+1) (Q:=TT) (zrg hb rfl) λv _=>zI ab
 .rw[yj,hs,z6];exact yH
def Tw{l:List Int}(h:l.length<1000000):lC (λr=>r.length=l.length) (K7 l):=by unfold K7 F7;rw[zC ab];exact⟨_,rfl,K4 l⟩
def LY{a b:Nat}(h:a=b):lC TT (CE [(a,b)]):=by unfold CE;rw[dif_pos (λp hp=>by rw[gX.1 hp];exact h)];exact yH
def zhc{l:List Int}:lC (λr=>r.1.length<=l.length) (uu l):=⟨_,rfl,Lib.compact_length_le l⟩
def zFh{xs:List Int}{sd:List zk}{k:Nat}{c3:Int}{c5:List yl}(hs:sd.length<1000000)(hk:k<xs.length):lC (λr=>r.length<=sd.length) (xj xs sd (k:Int) c3 ((ba sd:Nat):Int) c5 KK (0,[])):=by
 refine wg (λi s=>s.1=(i:Int)/\s.2.length<=i) _ sd.length ab ⟨rfl,al⟩ (λK i s hI hi=>?_) λK s hI=>?_
 .obtain⟨h1,h2⟩:=hI;obtain⟨x,hx⟩:=QP hi;rw[xj,h1,xm hx,ct]
  refine D_ (L:=xj xs sd (k:Int) c3 ((ba sd:Nat):Int) c5) (I:=λi s=>s.1=((i:Nat):Int)/\s.2.length<=i) (i:=i+1) (Q:=λv=>v.length<=i+1) ?_ λv hv=>⟨zI ab,hv⟩
  rw[zE hx,aH]
  refine zy (Q:=TT) yH λ_ _=>yh (λ_=>?_) λ_=>yk ab
  refine zy (W3 ab ab) λ_ _=>yh (λ_=>?_) λ_=>yk ab
  refine zy (W3 ab ab) λ_ _=>yh (λ_=>?_) λ_=>yk ab
  exact zy (zzt (by simp;omega)) λ_ _=>yk (by simp;omega)
 .obtain⟨h1,h2⟩:=hI;rw[xj,h1,z6];exact yk h2
def zFi{xs ys:List Int}{sd:List zk}{k:Nat}{c3:Int}{o:List yl}(hy:ys.length<1000000)(ho:o.length<1000000)(hk:k+1<xs.length)(hx:xs.length<1000000):lC (λr=>r.length<=o.length+ys.length) (wv xs sd (k:Int) c3 ys KK (0,o)):=by
 refine wg (λi s=>s.1=((2*i:Nat):Int)/\s.2.length<=o.length+i) _ (ys.length / 2) ab ⟨rfl,al⟩ (λK i s hI hi=>?_) λK s hI=>?_
 .obtain⟨h1,h2⟩:=hI;rw[wv,h1,qF (n:=((2*i:Nat):Int)+1) ab ab,qF (n:=(k:Int)+1) ab ab,qF (n:=((2*i:Nat):Int)+2) ab ab,dt ab,ct];obtain⟨a,ha,_⟩:=W3 (l:=xs) (n:=(k:Int)) ab ab;obtain⟨b,hb,_⟩:=W3 (l:=xs) (n:=(k:Int)+1) ab ab;obtain⟨c,hc,_⟩:=Uq (l:=ys) (k:=bB ((2*i:Nat):Int)) ab;obtain⟨d,hd,_⟩:=Uq (l:=ys) (k:=bB (((2*i:Nat):Int)+1)) ab;rw[ha,aH,zC ab,aH,hc,aH,hb,aH,zC ab,aH,hd,aH,zC (by simp;omega),aH];exact .inr ⟨_,⟨by show((2*i:Nat):Int)+2=_;omega,by simp;omega⟩,rfl⟩
 .obtain⟨h1,h2⟩:=hI;rw[wv,h1,qF (n:=((2*(ys.length / 2):Nat):Int)+1) ab ab,df ab];exact yk ab
def zFj{p:List zt}(h:p.length<1000000):lC (λr=>r.length=p.length) (wu p ((ba p:Nat):Int) KK (0,[])):=by
 refine wg (λi s=>s.1=(i:Int)/\s.2.length=i) _ p.length ab ⟨rfl,rfl⟩ (λK i s hI hi=>?_) λK s hI=>?_
 .obtain⟨h1,h2⟩:=hI;obtain⟨x,hx⟩:=QP hi;rw[wu,h1,xm hx,ct,zE hx,aH,zC (by simp;omega),aH];exact .inr ⟨_,⟨zI ab,by simp;omega⟩,rfl⟩
 .obtain⟨h1,h2⟩:=hI;rw[wu,h1,z6];exact yk h2
def zFk{xs:List Int}{sd:List zk}{n:Int}(hx:xs.length<=60)(hs:sd.length<=60)(hn:n<=(xs.length:Int)-1):lC TT (wx xs sd n KK (0,[])):=by
 refine wg (λi s=>s.1=(i:Int)/\s.2.length<=60*i) _ n.toNat ab ⟨rfl,al⟩ (λK i s hI hi=>?_) λK s hI=>?_
 .obtain⟨h1,h2⟩:=hI;rw[wx,h1,dt ab,ct];obtain⟨a,ha,la⟩:=zFh (xs:=xs) (sd:=sd) (k:=i) (c3:=n) (c5:=s.2) ab ab;obtain⟨b,hb,lb⟩:=Tw (l:=a) ab;obtain⟨c,hc,lc⟩:=zFi (xs:=xs) (ys:=b) (sd:=sd) (k:=i) (c3:=n) (o:=s.2) ab ab ab ab;obtain⟨u,hu,_⟩:=LY (a:=a.length) (b:=b.length) lb.symm;rw[ha,aH,hb,aH,hu,aH,hc,aH];exact .inr ⟨_,⟨zI ab,by show c.length<=_;omega⟩,rfl⟩
 .obtain⟨h1,h2⟩:=hI;rw[wx,h1,df ab];exact yH
def zl4{p:List zt}:lC (λr=>r.1.length<=200) (Hk p):=by
 unfold Hk
 have hr:Ae p=aY (pd (QO p)):=by
  have:=LO (p:=p);unfold qy at this
  rwa [KO]at this
 rw[hr,aH];by_cases hp:QO p
 .rw[KR hp,bN,cf];obtain⟨h4,EG⟩:=hp.1;obtain⟨l,e1,e2,_⟩:=Sj (p:=p) ab EG
  refine zy (zFj ab) λa la=>zy (Tw ab) λb lb=>zy (LY lb.symm) λ_ _=>zy zhc λc lc=>?_
  rw[e1,aH]
  refine zy (Q:=TT) (zFk ab ab ?_) λr _=>?_
  .rw[qF ab ab];exact Int.le_refl _
  .by_cases h:r.length<=200
   .rw[df ab];exact yk h
   .rw[dt ab];exact yk ae
 .rw[qG hp];exact yk ae
def zrh{z:zq}:lC (λr=>r.length<=200) (qZ z):=by refine zy zl4 λv hv=>yh (λ_=>yk ae) λ_=>yk hv
def E4:∃n,KK=n+4:=⟨KK-4,by have:=oo (n:=4) ab;omega⟩
def zri{a b:Int}(h:a<b):Gp [a,b]=[a,b]:=by
 unfold Gp
 have tr:∀x y z:Int,decide (x<=y)=bg->decide (y<=z)=bg->decide (x<=z)=bg:=λx y z h1 h2=>by simp only[aU]at *;omega
 have tot:∀x y:Int,(decide (x<=y)||decide (y<=x))=bg:=λx y=>by simp only[cM,aU];omega
 refine List.Perm.eq_of_pairwise (le:=λx y=>decide (x<=y)=bg) (λx y _ _ h1 h2=>?_) (List.pairwise_mergeSort tr tot [a,b]) ?_ (List.mergeSort_perm _ _)
 .simp only[aU]at h1 h2;omega
 .simp;omega
def zhd{a b:Int}(h:a<b):Lib.compact [a,b]=[a,b]:=by have h1:¬b=a:=ab;simp[Lib.compact,Lib.compactUpTo,Lib.keeps,List.range_succ,h1]
def zl5{r:yl}(h:r.X0<r.X1):vt [r] r.X0=aY [⟨r.Y0,r.Y1⟩]:=by
 obtain⟨n,hn⟩:=E4;unfold vt
 have e1:yE r.X0 [r] ((ba [r]:Nat):Int) KK (0,[])=aY [⟨r.Y0,r.Y1⟩]:=by rw[hn,yE,show decide ((0:Int)<((ba [r]:Nat):Int))=bg from rfl,ct,show idx [r] 0=aY r from rfl,aH,dt (Int.le_refl _),ct,aH,dt h,ct,zC ae,aH,aH];rfl
 have e2:yi ((ba [(⟨r.Y0,r.Y1⟩:zj)]:Nat):Int) [⟨r.Y0,r.Y1⟩] KK (0,[])=aY [⟨r.Y0,r.Y1⟩]:=by rw[hn];rfl
 rw[e1,aH,show LR [(⟨r.Y0,r.Y1⟩:zj)]=aY () from rfl,aH,e2];rfl
def zl6{r:yl}(h:r.X0<r.X1):wa [[r]]=aY [⟨r.X0,r.X1,[⟨r.Y0,r.Y1⟩]⟩]:=by
 obtain⟨n,hn⟩:=E4;unfold wa qj
 have e1:xJ [[r]] ((ba [[r]]:Nat):Int) KK (0,0)=aY 1:=by rw[hn];rfl
 have e2:xK [[r]] ((ba [[r]]:Nat):Int) KK (0,[])=aY [r]:=by rw[hn];rfl
 have e3:xL [r] ((ba [r]:Nat):Int) KK (0,[])=aY [r.X0,r.X1]:=by rw[hn];rfl
 have e4:K7 [r.X0,r.X1]=aY [r.X0,r.X1]:=by unfold K7 F7;rw[zC ae,aH,zri h]
 have e5:uu [r.X0,r.X1]=aY ([r.X0,r.X1],[r.X0,r.X1]):=by unfold uu VR;rw[zhd h];rfl
 have e6:yF [r] [r.X0,r.X1] KK (1,[])=aY [⟨r.X0,r.X1,[⟨r.Y0,r.Y1⟩]⟩]:=by rw[hn,yF,show decide ((1:Int)<((ba [r.X0,r.X1]:Nat):Int))=bg from rfl,ct,show idx [r.X0,r.X1] (b_ (1-1))=aY r.X0 from rfl,aH,show idx [r.X0,r.X1] 1=aY r.X1 from rfl,aH,aH,zl5 h,aH];rfl
 obtain⟨u,hu,_⟩:=LY (a:=[r.X0,r.X1].length) (b:=[r.X0,r.X1].length) rfl;rw[e1,aH,show Mb 1=aY [] from rfl,aH,e2,aH,aH,e3,aH,e4,aH,hu,aH,e5,aH,e6];rfl
def zrj{r:yl}:wN [⟨r.X0,r.X1,[⟨r.Y0,r.Y1⟩]⟩]=aY [r]:=by
 obtain⟨n,hn⟩:=E4;unfold wN
 have e1:wo [⟨r.X0,r.X1,[⟨r.Y0,r.Y1⟩]⟩] 0 [] KK (b_ (0+1))=aY 1:=by rw[hn];rfl
 have e2:wq [⟨r.X0,r.X1,[⟨r.Y0,r.Y1⟩]⟩] 0 1 [⟨r.Y0,r.Y1⟩] ((ba [(⟨r.Y0,r.Y1⟩:zj)]:Nat):Int) KK (0,[])=aY [r]:=by rw[hn];rfl
 have e3:y5 [⟨r.X0,r.X1,[⟨r.Y0,r.Y1⟩]⟩] KK (0,[])=aY [r]:=by
  conv=>lhs;rw[hn]
  rw[y5,show decide ((0:Int)<((ba [(⟨r.X0,r.X1,[⟨r.Y0,r.Y1⟩]⟩:zo)]:Nat):Int))=bg from rfl,ct,e1,aH,show idx [(⟨r.X0,r.X1,[⟨r.Y0,r.Y1⟩]⟩:zo)] 0=aY ⟨r.X0,r.X1,[⟨r.Y0,r.Y1⟩]⟩ from rfl,aH,e2,aH];rfl
 rw[e3];rfl
def aeD{r:yl}(h:yD r=aY bg):r.X0<r.X1:=by
 unfold yD at h;by_cases h1:0<=r.X0
 .rw[dt h1,ct]at h;by_cases h2:r.X0<r.X1
  .exact h2
  .rw[df h2]at h;cases h
 .rw[df h1]at h;cases h
def zrk{a b:List yl}(h:a.length<1000000):lC TT (wR a b):=by
 unfold wR;by_cases hl:a.length=b.length
 .rw[dt ab,bN,cf]
  refine Ur ?_ λ_=>yH
  refine wg (λi s=>s=(i:Int)) _ a.length ab rfl (λK i s hs hi=>?_) λK s hs=>?_
  .subst hs;obtain⟨x,hx⟩:=QP hi;obtain⟨y,hy⟩:=QP (l:=b) (i:=i) ab;rw[yz,xm hx,ct,zE hx,aH,zE hy,aH]
   cases decide (x.X0=y.X0)&&(decide (x.Y0=y.Y0)&&(decide (x.X1=y.X1)&&decide (x.Y1=y.Y1)))with
   |false=>exact .inl ⟨_,rfl,λ_ _=>trivial⟩
   |true=>exact .inr ⟨_,rfl,by rw[zI ab];rfl⟩
  .subst hs;rw[yz,z6];exact⟨_,rfl,λ_ _=>trivial⟩
 .rw[df ab];exact yH
def zrl{r:yl}:lC TT (vZ [r]):=by
 obtain⟨n,hn⟩:=E4;unfold vZ Ja;obtain⟨b,hb,_⟩:=Ga (r:=r)
 cases b with
 |false =>
  have e1:yJ [r] ((ba [r]:Nat):Int) KK 0=aY (.inl ([],1)):=by rw[hn,yJ,show decide ((0:Int)<((ba [r]:Nat):Int))=bg from rfl,ct,show idx [r] 0=aY r from rfl,aH,hb];rfl
  rw[e1];exact yH
 |true =>
  have e1:yJ [r] ((ba [r]:Nat):Int) KK 0=aY (.inr ()):=by rw[hn,yJ,show decide ((0:Int)<((ba [r]:Nat):Int))=bg from rfl,ct,show idx [r] 0=aY r from rfl,aH,hb];rfl
  rw[e1]
  show lC TT ((aM (wa [[r]]) λx2=>aM (wN x2) λx3=>aM (jF x3) λx4=>aY (x4.1,x4.2)).bind _)
  rw[zl6 (aeD hb),aH,zrj,aH]
  refine zy (Q:=λv:List yl×Int=>v.1.length<=1) ?_ λv hv=>yh (λ_=>zy (zrk ab) λ_ _=>yH) λ_=>yH
  exact yk ae
def zl7{p:yf}{r:yl}(hz:p.aA.length<1000000):lC (λl=>l.length<=p.aA.length) (wb p [r]):=by
 unfold wb
 refine zy zrl λb _=>yh (λ_=>yk ae) λ_=>?_
 rw[KO]
 refine wg (λi s=>s.1=(i:Int)/\s.2.length=i) _ p.aA.length ab ⟨rfl,rfl⟩ (λK i s hI hi=>?_) λK s hI=>?_
 .obtain⟨h1,h2⟩:=hI;obtain⟨x,hx⟩:=QP hi;obtain⟨a,ha,la⟩:=zrh (z:=x);obtain⟨c,hc,_⟩:=zl3 (a:=[r]) (b:=a) ae ab;rw[yG,h1,xm hx,ct,zE hx,aH,ha,aH,hc,aH,zC (by simp;omega),aH];exact .inr ⟨_,⟨zI ab,by simp;omega⟩,rfl⟩
 .obtain⟨h1,h2⟩:=hI;rw[yG,h1,z6];exact yk ab
def zFl{p:yf}{r:yl}(hz:p.aA.length<1000000):lC (λl=>l.length<=p.aA.length) (xk p [r]):=by
 refine zy (zl7 hz) λl hl=>?_
 refine zy (Q:=TT) ?_ λabJ _=>?_
 .refine wg (λi s=>s.2=(i:Int)/\-1<=s.1/\s.1<((l.length:Nat):Int)) _ l.length ab ⟨rfl,ab,ab⟩ (λK i s hI hi=>?_) λK s hI=>?_
  .obtain⟨h1,h2,h3⟩:=hI;obtain⟨x,hx⟩:=QP hi;obtain⟨z,Dd⟩:=QP (l:=p.aA) (i:=i) ab;rw[zK,h1,xm hx,ct]
   refine D_ (L:=zK l ((ba l:Nat):Int) p.aE p.Tables p.aA p.aB p.aI p.aF p.aJ p.aG) (I:=λi s=>s.2=((i:Nat):Int)/\-1<=s.1/\s.1<((l.length:Nat):Int)) (i:=i+1) (Q:=λv=>-1<=v/\v<((l.length:Nat):Int)) ?_ λv hv=>⟨zI ab,hv⟩
   rw[zE hx,aH,zE Dd,aH]
   refine zy (Q:=TT) (yh (λ_=>yh (λ_=>?_) λ_=>yH) λ_=>yH) λ_ _=>yh (λ_=>yk ⟨ab,ab⟩) λ_=>yk ⟨h2,h3⟩
   by_cases h0:s.1<0
   .rw[dt h0];exact yH
   .rw[df h0];exact zy (W3 ab h3) λ_ _=>yH
  .rw[zK,hI.1,z6];exact yH
 .rw[KO]
  refine wg (λi s=>s.1=(i:Int)/\s.2.length<=i) _ l.length ab ⟨rfl,al⟩ (λK i s hI hi=>?_) λK s hI=>?_
  .obtain⟨h1,h2⟩:=hI;obtain⟨x,hx⟩:=QP hi;obtain⟨z,Dd⟩:=QP (l:=p.aA) (i:=i) ab;rw[zL,h1,xm hx,ct]
   refine D_ (L:=zL abJ l ((ba l:Nat):Int) p.aE p.Tables p.aA p.aB p.aI p.aF p.aJ p.aG) (I:=λi s=>s.1=((i:Nat):Int)/\s.2.length<=i) (i:=i+1) (Q:=λv=>v.length<=i+1) ?_ λv hv=>⟨zI ab,hv⟩
   rw[zE hx,aH,zE Dd,aH]
   refine zy (Q:=TT) (yh (λ_=>yH) λ_=>yh (λ_=>yH) λ_=>yH) λ_ _=>yh (λ_=>?_) λ_=>yk ab
   rw[aH,zC (by simp;omega),aH];exact yk (by simp;omega)
  .rw[zL,hI.1,z6];exact yk (by have:=hI.2;omega)
def R6(r:za):za.mk r.aK r.aA r.Except r.il r.hJ r.iI r.iN r.aL r.Test r.zg r.Uses r.iD r.N=r:=by cases r;rfl
def Lx{α:Type}{g:α->Bool}:∀{l:List α},(kP g l).isSome=l.any g
 |[]=>rfl
 |x::l=>by
  rw[kP,List.any_cons]
  cases g x with
  |true=>rfl
  |false=>rw[cf,gj,Lx];rfl
def zhe{s:List aj}{v:aj}(hs:s.length<=1000000):wm s v=aY (s.any λx=>decide (v=x)):=by unfold wm qY;rw[xz s (λx=>decide (v=x)) (yr s v ((ba s:Nat):Int)) ab (λK i y hy=>by rw[yr,xm hy,ct,zE hy,aH,zI (by have:=wB hy;omega)]) (λK=>by rw[yr,z6];rfl),aH,D9,Lx]
def De(zs:List aj)(v:aj):Bool:=zs.any λx=>decide (v=x)
def Tx{l zs:List aj}(hl:l.length<=1000000)(hz:zs.length<=1000000):zV l zs=aY (l.any (De zs)):=by
 unfold zV xY
 rw[xz l (De zs) (zH zs l ((ba l:Nat):Int)) ab (λK i x hx=>by
  rw[zH,xm hx,ct,zE hx,aH];unfold vP
  rw[zhe hz,aH,aH,zI (by have:=wB hx;omega)];rfl) (λK=>by rw[zH,z6];rfl),aH,D9,Lx]
def s7(zs:List aj)(r:za):Bool:=(decide (r.aA.length=0)||r.aA.any (De zs))&&!(r.Except.any (De zs))
def zrm{r:za}{zs:List aj}(h1:r.aA.length<=1000000)(h2:r.Except.length<=1000000)(hz:zs.length<=1000000):xZ r zs=aY (s7 zs r):=by
 unfold xZ s7;rw[Tx h2 hz,aH];by_cases h0:r.aA.length=0
 .rw[dt h0,dt (show((ba r.aA:Nat):Int)=0 by omega)];rfl
 .rw[df h0,df (show ¬((ba r.aA:Nat):Int)=0 by omega),cf,Tx h1 hz,aH];cases r.aA.any (De zs)<;>rfl
def nr(zs:List aj)(day:Int)(r:za):Bool:=decide (r.il<=day)&&((decide (r.hJ=0)||decide (day<r.hJ))&&s7 zs r)
def mX(g:za->Bool):List za->Nat->List Int
 |[],_=>[]
 |r::l,n=>bif g r then(n:Int)::mX g l (n+1)else mX g l (n+1)
def Uu{g:za->Bool}:∀{l:List za}{n:Nat},(mX g l n).length<=l.length
 |[],_=>er _
 |r::l,n=>by
  have:=Uu (g:=g) (l:=l) (n:=n+1);rw[mX]
  cases g r with
  |true=>rw[ct,lX,lX];omega
  |false=>rw[cf,lX];omega
def Uv{g:za->Bool}:∀{l:List za}{n i:Nat},((i:Nat):Int)∈mX g l n↔n<=i/\∃r,l[i-n]?=aY r/\g r=bg
  |[],n,i=>by simp[mX]
  |r::l,n,i=>by
    have ih:=Uv (g:=g) (l:=l) (n:=n+1) (i:=i)
    have hr:((i:Nat):Int)∈mX g (r::l) n↔(i=n/\g r=bg)∨((i:Nat):Int)∈mX g l (n+1):=by
      rw[mX]
      cases hg:g r with
      |true=>rw[ct,bo];constructor
             .rintro(h|h)
              .exact .inl ⟨ab,rfl⟩
              .exact .inr h
             .rintro(⟨h,_⟩|h)
              .exact .inl ab
              .exact .inr h
      |false=>rw[cf];constructor
              .exact .inr
              .rintro(⟨_,h⟩|h)
               .cases h
               .exact h
    rw[hr,ih];constructor
    .rintro(⟨rfl,h⟩|⟨h1,x,h2,h3⟩)
     .exact⟨al,r,by rw[eS];rfl,h⟩
     .refine⟨ab,x,?_,h3⟩
      rw[show i-n=(i-(n+1))+1 by omega];exact h2
    .rintro⟨h1,x,h2,h3⟩
     by_cases e:i=n
     .subst e
      rw[eS]at h2;cases h2;exact .inl ⟨rfl,h3⟩
     .refine .inr ⟨ab,x,?_,h3⟩
      rw[show i-n=(i-(n+1))+1 by omega]at h2;exact h2
def Cg(l:List za):Prop:=l.length<=1000/\∀r∈l,r.aA.length<=3000/\r.Except.length<=3000
def LZ{zs:List aj}{day:Int}{l:List za}(hl:Cg l)(hz:zs.length<=1000):∀(r:List za)(i K:Nat)(out:List Int),l.drop i=r->i<=l.length->r.length<K->out.length<=i->yt zs day l ((ba l:Nat):Int) K ((i:Int),out)=aY (out++mX (nr zs day) r i)
 |[],i,K,out,hr,hi,hK,ho=>by
  obtain⟨K,rfl⟩:∃k,K=k+1:=⟨K-1,by simp at hK;omega⟩
  have:=drop_nil hr hi;subst this;rw[yt];simp only[z6,cf,mX,List.append_nil]
 |x::r,i,K,out,hr,hi,hK,ho=>by
  obtain⟨K,rfl⟩:∃k,K=k+1:=⟨K-1,by simp at hK;omega⟩
  obtain⟨h1,h2,h3⟩:=wT hr;simp only[lX]at hK;have hb:=hl.2 x (bK h1);have hl1:=hl.1;rw[yt];simp only[xm h1,ct,zE h1,aH,zD,R6,zrm (r:=x) (zs:=zs) ab ab ab,zI (show i<9223372036854775807 by omega),mX]
  have key:((bif (decide (x.il<=day))then(bif (decide (x.hJ=0))then aY (s7 zs x)else(bif (decide (day<x.hJ))then aY (s7 zs x)else aY bf))else aY bf):Option Bool)=aY (nr zs day x):=by unfold nr;cases decide (x.il<=day)<;>cases decide (x.hJ=0)<;>cases decide (day<x.hJ)<;>cases s7 zs x<;>rfl
  rw[key,aH]
  cases nr zs day x with
  |true =>
   rw[ct,ct,zC (by simp;omega),aH,aH,LZ hl hz r (i+1) K _ h2 ab ab (by simp;omega),sF];rfl
  |false =>rw[cf,cf,aH,LZ hl hz r (i+1) K _ h2 ab ab ab]
def Ly{p:yf}{zs:List aj}{day:Int}(hl:Cg p.aB)(hz:zs.length<=1000):yI p zs day=aY (mX (nr zs day) p.aB 0):=by unfold yI;rw[KO,show((0:Int),([]:List Int))=(((0:Nat):Int),[]) from rfl,LZ hl hz p.aB 0 KK [] rfl (cx _) (oo (by have:=hl.1;omega)) al];rfl
def Ev(g:za->Bool)(l:List za)(i:Nat):Bool:=match l[i]? with
 |some r=>g r
 |none=>bf
def zFm{l:List Int}{n:Int}(hl:l.length<=1000000):zx l n=aY (decide (n∈l)):=by
 unfold zx
 rw[Hn l (λx=>!(decide (x=n))) (aY (bp ())) (aY (bA bg)) (vc l n) ab (λK i x hx=>by
  rw[vc,xm hx,ct,zE hx,aH,zI (by have:=wB hx;omega)]
  cases decide (x=n)<;>rfl) (λK=>by rw[vc,z6];rfl)]
 by_cases h:n∈l
 .rw[dt h,show l.all (λx=>!(decide (x=n)))=bf from by
   rw[List.all_eq_false]
   exact⟨n,h,ae⟩]
  rfl
 .rw[df h,show l.all (λx=>!(decide (x=n)))=bg from by
   rw[bm];intro x hx
   rw[df (λe:x=n=>h (e▸hx))];rfl]
  rfl
def W4{g:za->Bool}{l:List za}{i:Nat}(hl:l.length<=1000):zx (mX g l 0) (i:Int)=aY (Ev g l i):=by
 rw[zFm (by have:=Uu (g:=g) (l:=l) (n:=0);omega)]
 congr 1
 unfold Ev;have:=Uv (g:=g) (l:=l) (n:=0) (i:=i);rw[Nat.sub_zero]at this
 cases hx:l[i]? with
 |none =>
  rw[hx]at this;exact df (λh=>by obtain⟨_,_,h,_⟩:=this.1 h;cases h)
 |some r =>
  rw[hx]at this
  cases hg:g r with
  |true=>exact(dt (this.2 ⟨cx _,r,rfl,hg⟩)).trans hg.symm
  |false=>exact(df (λh=>by obtain⟨_,x,h1,h2⟩:=this.1 h;cases h1;rw[hg]at h2;cases h2)).trans hg.symm
def KV{c0:(List aj)}{c1:Int}{c2:Bool}{c3:(List Int)}{c4:(List Int)}{c5:(List Def)}{c6:(List ar)}{c7:(List zq)}{c8:(List za)}{c9:(List eC)}{iE:(List au)}{iK:(List zh)}{iQ:Int}{iF:Int}{iL:aj}{iX:aj}{lV:Int}{pX:aj}{pY:(List aj)}{pZ:(List aj)}{oW:Int}{pF:Int}{rY:Int}{rq:Bool}{rZ:Int}{th:Int}{tj:Int}{tk:aj}{tl:aj}{sc:(List Expr)}{p5:Int}{mv:Int}{BC:Int}{BD:Int}{BE:Int}{BF:Int}{BG:Int}{BH:Int}{BI:Int}{BJ:aj}{BK:aj}{BL:(List Expr)}{BM:(List zt)}{BN:Int}{BO:Int}{BP:Int}{BQ:Int}{BR:(List Def)}{BS:(List ar)}{BU:(List zq)}{BV:(List za)}{BW:(List eC)}{BX:(List au)}{BY:(List zh)}{BZ:Int}(hl:c8.length<=1000)
  (h:∀i x,c8[i]?=aY x->∃w s:Bool,zx c3 ((i:Nat):Int)=aY w/\zx c4 ((i:Nat):Int)=aY s/\(¬(iF=1/\x.aK=iL)->w=s)/\(iF=1/\x.aK=iL->(s=bg->c1<lV)/\(w=bg->s=bf->¬c1<lV))):
  yb c0 c1 c2 c3 c4 c5 c6 c7 c8 c9 iE iK iQ iF iL iX lV pX pY pZ oW pF rY rq rZ th tj tk tl sc p5 mv BC BD BE BF BG BH BI BJ BK BL BM BN BO BP BQ BR BS BU BV BW BX BY BZ KK 0=aY (.inr ()):=by
 have key:=Hn c8 (λ_=>bg) (aY (bp ())) (aY (bA bf)) (yb c0 c1 c2 c3 c4 c5 c6 c7 c8 c9 iE iK iQ iF iL iX lV pX pY pZ oW pF rY rq rZ th tj tk tl sc p5 mv BC BD BE BF BG BH BI BJ BK BL BM BN BO BP BQ BR BS BU BV BW BX BY BZ) ab (λK i x hx=>by
  obtain⟨w,s,hw,hs,h1,h2⟩:=h i x hx;rw[yb]
  have e:(bif (decide (iF=1))then(idx c8 (i:Int)).bind λx2=>aY (decide (x2.aK=iL))else aY bf)=aY (decide (iF=1/\x.aK=iL)):=by
   by_cases a:iF=1
   .rw[dt a,ct,zE hx,aH];by_cases b:x.aK=iL
    .rw[dt b,dt ⟨a,b⟩]
    .rw[df b,df (λq=>b q.2)]
   .rw[df a,df (λq=>a q.1)];rfl
  rw[xm hx,ct,e,aH];simp only[hw,hs,aH];rw[zI (by have:=wB hx;omega),ct];by_cases g:iF=1/\x.aK=iL
  .obtain⟨g1,g2⟩:=h2 g;rw[dt g]
   cases s with
   |true =>
    have:=g1 rfl;rw[df (show ¬c1>=lV by omega)];cases w<;>rfl
   |false =>
    cases w with
    |true=>rw[df (g2 rfl rfl)];rfl
    |false=>rfl
  .rw[df g,h1 g]
   cases s<;>rfl) (λK=>by rw[yb,z6];rfl)
 rw[key,show c8.all (λ_=>bg)=bg by simp];rfl
def zFn{c0:Bool}{l:List aj}(hl:l.length<=1000000):zX c0 l l KK 0=aY (.inr ()):=by
 rw[Hn l (λ_=>bg) (aY (bp ())) (aY (bA bf)) (zX c0 l l) ab (λK i x hx=>by rw[zX,xm hx,ct,zE hx,aH,aH,dt rfl,zI (by have:=wB hx;omega)];rfl) (λK=>by rw[zX,z6];rfl)];rw[show l.all (λ_=>bg)=bg by simp];rfl
def aex{l:List Int}{n:Int}{d d':List Def}{t t':List ar}{z:List zq}{r r':List za}{c c':List eC}{v v':List au}{s s':List zh}{h h':Int}:∀(K:Nat)(q:Int×Int),zK l n d t z r c v s h K q=zK l n d' t' z r' c' v' s' h' K q:=by
 intro K
 induction K with
 |zero=>intro q;rfl
 |succ K ih=>intro q;rw[zK,zK,show zK l n d t z r c v s h K=zK l n d' t' z r' c' v' s' h' K from funext ih]
def aey{b:Int}{l:List Int}{n:Int}{d d':List Def}{t t':List ar}{z:List zq}{r r':List za}{c c':List eC}{v v':List au}{s s':List zh}{h h':Int}:∀(K:Nat)(q:Int×List aj),zL b l n d t z r c v s h K q=zL b l n d' t' z r' c' v' s' h' K q:=by
 intro K
 induction K with
 |zero=>intro q;rfl
 |succ K ih=>intro q;rw[zL,zL,show zL b l n d t z r c v s h K=zL b l n d' t' z r' c' v' s' h' K from funext ih]
def of_same{p q:yf}{a:List yl}(h:q.aA=p.aA):xk q a=xk p a:=by unfold xk wb;rw[h];simp only[aex (d:=q.aE) (d':=p.aE) (t:=q.Tables) (t':=p.Tables) (r:=q.aB) (r':=p.aB) (c:=q.aI) (c':=p.aI) (v:=q.aF) (v':=p.aF) (s:=q.aJ) (s':=p.aJ) (h:=q.aG) (h':=p.aG),aey (d:=q.aE) (d':=p.aE) (t:=q.Tables) (t':=p.Tables) (r:=q.aB) (r':=p.aB) (c:=q.aI) (c':=p.aI) (v:=q.aF) (v':=p.aF) (s:=q.aJ) (s':=p.aJ) (h:=q.aG) (h':=p.aG)]
def zzv(k:Nat)(h):(@oa ⟨k+500,h⟩)=aY bg:=by kernel_rfl
def zut[i:Fuel]:oa=aY bg:=by
 obtain⟨n,h⟩:=i
 obtain⟨k,rfl⟩:∃k,n=k+500:=⟨n-500,ab⟩
 exact zzv k h
def ra(p:yf):Ed->yf
 |.mY r=>{ p with aB:=p.aB++[r] }
 |.fin n d=>{ p with aB:=KL.put za.aK n (λr=>{ r with hJ:=d }) ko p.aB }
 |.mU d=>{ p with aE:=KL.put Def.aK d.aK (λ_=>d) d p.aE }
 |.row n x=>{ p with Tables:=KL.put ar.aK n (pg x) (zT n) p.Tables }
 |.mZ z=>{ p with aA:=KL.put zq.aK z.aK (λ_=>z) z p.aA }
 |.lim n v=>{ p with aI:=KL.put eC.aK n (λc=>{ c with mM:=v }) ⟨[],0,0,[]⟩ p.aI }
def abP(p:yf):Ed->Prop
 |.fin n _=>n∈p.aB.map za.aK
 |.lim n _=>n∈p.aI.map eC.aK
 |_=>True
def zzw{p q:yf}{e:Ed}(h:app p e=aY q):q=ra p e/\abP p e:=by
 cases e with
 |mY x =>
  simp only[app]at h;split at h
  .cases h
  .cases h;exact⟨rfl,trivial⟩
 |fin n u =>
  simp only[app]at h;split at h
  .cases h
  .rename_i x hg;split at h
   .cases h
   .cases h;exact⟨by unfold ra;dsimp only;rw[WZ (Kf hg)],Kf hg⟩
 |mU x =>
  simp only[app]at h;split at h
  .cases h
  .cases h;exact⟨rfl,trivial⟩
 |row n x =>
  simp only[app]at h;split at h
  .cases h
  .cases h;exact⟨rfl,trivial⟩
 |mZ x =>
  simp only[app]at h;split at h
  .cases h
  .cases h;exact⟨rfl,trivial⟩
 |lim n w =>
  simp only[app]at h;split at h
  .cases h
  .rename_i x hg;cases h;exact⟨by unfold ra;dsimp only;rw[WZ (Kf hg)],Kf hg⟩
def zFo{p:yf}{e:zA}(hp:rf p)(h:¬qI p):u7 p e=aY (fp 1 zp):=by unfold u7;rw[Ke hp,qG h];rfl
def Mu{n:aj}{u:Int}{z:za}:∀{l:List za}{i:Nat}{x:za},(l.map za.aK).Nodup->n∈l.map za.aK->l[i]?=aY x->(KL.put za.aK n (λr=>{ r with hJ:=u }) z l)[i]?=aY (if x.aK=n then{ x with hJ:=u }else x)
 |[],i,x,_,_,h=>by cases h
 |y::l,i,x,hn,hm,h=>by
  rw[ig,cr]at hn;rw[KL.put];by_cases e:y.aK=n
  .rw[aO e]
   cases i with
   |zero =>
    cases h;rw[aO e];rfl
   |succ i =>
    have h:l[i]?=aY x:=h
    have hx:x.aK≠n:=λq=>hn.1 (by rw[e,<- q];exact cv (bK h))
    rw[aN hx];exact h
  .rw[aN e]
   cases i with
   |zero =>
    cases h;rw[aN e];rfl
   |succ i =>rw[ig,bo]at hm;exact Mu (l:=l) (i:=i) hn.2 (hm.resolve_left (λq=>e q.symm)) h
def Mv{l:List za}(h:∀x∈l,nC x=bg)(hr:l.length<=1000):Cg l:=by refine⟨hr,λr hx=>?_⟩;have:=h r hx;unfold nC CH at this;simp only[bn,aU]at this;exact⟨this.2.1.2,this.2.2.1.2⟩
def zFp{c:Bool}{a b r:Option Bool}(hc:c=bf)(h:b=r):(bif c then a else b)=r:=by rw[hc];exact h
def zFq{α β N1:Type}{o1:Option α}{o2:Option β}{x:α}{y:β}{F:α->β->Option N1}{r:Option N1}(h1:o1=aY x)(h2:o2=aY y)(h:F x y=r):(o1.bind λx=>o2.bind λy=>F x y)=r:=by rw[h1,h2];exact h
def ZB{o:Option (Bool⊕Unit)}{g:Unit->Option Bool}{r:Option Bool}(h:o=aY (.inr ()))(h2:g ()=r):o.bind (yg aY g)=r:=by rw[h];exact h2
def AT{p q:yf}{r:yl}(h:q.aA=p.aA)(hz:p.aA.length<1000000):(aM (xk p [r]) λnA=>aM (xk q [r]) λpL=>(bif (!(decide (((ba nA:Nat):Int)=((ba pL:Nat):Int))))then aY bf else(zX bg nA pL KK 0).bind (yg aY λ_=>aY bg)))=aY bg:=by obtain⟨l,hl,hn⟩:=zFl (p:=p) (r:=r) hz;rw[of_same h,hl,aH,aH,dt rfl,bN,cf,zFn ab];rfl
def Bo{g:za->Bool}{l:List za}{i:Nat}{x:za}(h:l[i]?=aY x):Ev g l i=g x:=by unfold Ev;rw[h]
def zrr(p:yf)(a:zA)(lS:List aj)(day:Int)(r:yl):vu p a lS day r=aY bg:=by
 unfold vu;simp only[zD,R6,Tt];rw[zut,aH,zuq,aH];obtain⟨f,hb,hf⟩:=zzs (l:=[a]);by_cases hP:tW p
 .rw[KR hP,bN,cf,hb,aH]
  cases f with
  |false=>rfl
  |true =>
   obtain⟨_,hD⟩:=hf rfl;have sa:tg a:=(hD a ae).sz;rw[bN,cf,aH];by_cases hzn:lS.length<=6
   .rw[df (show ¬((ba lS:Nat):Int)>6 by omega),cf];by_cases hR:qI p
    .have hk:=hP.keep hR;have hl:=hP.l;rw[acN hk sa,aH];by_cases g:(pA p a).1=0
     .by_cases hd:∃d:Ed,d.ok/\enc d=a
      .obtain⟨d,hd,rfl⟩:=hd;rw[Uf hd]at g ⊢;have hs:=zzr.1 g;unfold CL
       cases hq:app p d with
       |none=>rw[hq]at hs;cases hs
       |some q =>
        have kq:=Tu hk hd (Uh sa) hq;have Fg:Cg p.aB:=Mv hk.rs ab;have Dl:Cg q.aB:=Mv kq.rs (by have:=kq.right.1.2.2.2.1.1;omega);have zl:p.aA.length<1000000:=ab;have e1:=Ly (p:=p) (zs:=lS) (day:=day) Fg ab;have e2:=Ly (p:=q) (zs:=lS) (day:=day) Dl ab;obtain⟨eq,he⟩:=zzw hq
        have same:q.aB=p.aB->(enc d).aL≠1->∀i x,p.aB[i]?=aY x->∃w s:Bool,zx (mX (nr lS day) p.aB 0) ((i:Nat):Int)=aY w/\zx (mX (nr lS day) q.aB 0) ((i:Nat):Int)=aY s/\(¬((enc d).aL=1/\x.aK=(enc d).aK)->w=s)/\((enc d).aL=1/\x.aK=(enc d).aK->(s=bg->day<(enc d).N)/\(w=bg->s=bf->¬day<(enc d).N)):=λe hk i x hx =>⟨_,_,W4 Fg.1,W4 Dl.1,λ_=>by rw[e],λh=>aQ h.1 hk⟩
        refine zFp rfl (zFq e1 e2 ?_)
        cases d with
        |mY r0 =>
         have eR:q.aB=p.aB++[r0]:=by rw[eq];rfl
         refine ZB (KV ab λi x hx=>⟨_,_,W4 Fg.1,W4 Dl.1,λ_=>?_,λh=>(by cases h.1)⟩) ?_
         .rw[Bo hx,Bo (x:=x) (by rw[eR,List.getElem?_append_left (wB hx)];exact hx)]
         .have sm1:Cg [r0]:=Mv (λx hx=>by
           rw[gX]at hx;rw[hx]
           exact kq.rs r0 (by rw[eR];simp)) ae
          have e3:=Ly (p:=⟨[],[],[],[r0],[],[],[],0⟩) (zs:=lS) (day:=day) sm1 ab
          have e4:zx (mX (nr lS day) q.aB 0) ((ba p.aB:Nat):Int)=aY (nr lS day r0):=by rw[W4 Dl.1,Bo (x:=r0) (by rw[eR];simp)]
          have e5:decide (((ba (mX (nr lS day) [r0] 0):Nat):Int)=1)=nr lS day r0:=by
           cases hc:nr lS day r0 with
           |true=>simp[mX,hc]
           |false=>simp[mX,hc]
          have e6:b_ (((ba p.aB:Nat):Int)+1)=((ba q.aB:Nat):Int):=by rw[qF ab ab,eR];simp
          refine Eq.trans (b:=(aY (bp ()):Option (Bool⊕Unit)).bind (yg aY λ_=>_)) (aP (λo:Option (Bool⊕Unit)=>o.bind (yg aY _)) (?_:_=aY (bp ()))) ?_
          .show(aM (yI ⟨[],[],[],[r0],[],[],[],0⟩ lS day) λmu=>aM ((bif (!(decide (((ba q.aB:Nat):Int)=(b_ (((ba p.aB:Nat):Int)+1)))))then aY bg else(zx (mX (nr lS day) q.aB 0) ((ba p.aB:Nat):Int)).bind λnz=>aY (!(nz==(decide (((ba mu:Nat):Int)=1)))))) λlT=>(bif lT then aY (bA bf)else aY (bp ())))=aY (bp ())
           rw[e3,aH,e6,dt rfl,bN,cf,e4,aH]
           show(aY (!(nr lS day r0==decide (((ba (mX (nr lS day) [r0] 0):Nat):Int)=1)))).bind _=_
           rw[e5,beq_self_eq_true,bN,aH,cf]
          .exact AT (p:=p) (q:=q) (by rw[eq];rfl) zl
        |fin m u =>
         have eR:q.aB=KL.put za.aK m (λr=>{ r with hJ:=u }) ko p.aB:=by rw[eq];rfl
         refine ZB (KV ab λi x hx=>⟨_,_,W4 Fg.1,W4 Dl.1,λh=>?_,λh=>?_⟩) (AT (p:=p) (q:=q) (by rw[eq];rfl) zl)
         .have hn:¬x.aK=m:=λe=>h ⟨rfl,e⟩
          rw[Bo hx,Bo (x:=x) (by rw[eR,Mu (Ho.1 hR.1.2.2.2.1).2.2 he hx,aN hn])]
         .have hn:x.aK=m:=h.2;rw[Bo hx,Bo (x:={ x with hJ:=u }) (by rw[eR,Mu (Ho.1 hR.1.2.2.2.1).2.2 he hx,aO hn])]
          have hu:¬u=0:=by have:=hd.2.1;omega
          show(nr lS day { x with hJ:=u }=bg->day<u)/\(nr lS day x=bg->nr lS day { x with hJ:=u }=bf->¬day<u)
          unfold nr;simp only[bn,cM,aU];refine⟨λh=>h.2.1.resolve_left hu,λh1 h2 h3=>?_⟩;have:s7 lS x=bg:=h1.2.2;rw[dt h1.1,dt h3,show s7 lS { x with hJ:=u }=s7 lS x from rfl,this]at h2;simp at h2
        |mU x=>exact ZB (KV ab (same (by rw[eq];rfl) (by show(2:Int)≠1;decide))) (AT (p:=p) (q:=q) (by rw[eq];rfl) zl)
        |row m x=>exact ZB (KV ab (same (by rw[eq];rfl) (by show(3:Int)≠1;decide))) (AT (p:=p) (q:=q) (by rw[eq];rfl) zl)
        |mZ z=>exact ZB (KV ab (same (by rw[eq];rfl) (by show(4:Int)≠1;decide))) rfl
        |lim m u=>exact ZB (KV ab (same (by rw[eq];rfl) (by show(5:Int)≠1;decide))) (AT (p:=p) (q:=q) (by rw[eq];rfl) zl)
      .rw[Ug hd]at g;cases g
     .show(bif (!(decide ((pA p a).1=0)))then aY bg else _)=_
      rw[df g];rfl
    .rw[zFo hP.nV hR];rfl
   .rw[dt (show((ba lS:Nat):Int)>6 by omega)];rfl
 .rw[qG hP];rfl
end Go.Proofs.YtkmjhipiiifekaaGreatDoor
