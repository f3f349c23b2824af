/- texts that the proof reaches, part 11 -/
import Derived.Test.YthnokpghgeppdaaGreatDoorKj
set_option linter.all false
set_option maxRecDepth 100000
namespace Go.Proofs.YthnokpghgeppdaaGreatDoor
open Go Go.RowKit Go.Eng Go.EV Go.EQ
variable[Fuel]
theorem zV{p:Prop}{i:Decidable p}(h:p):@grd p i=some ():=if_pos h
theorem Kt{n:Int}(h0:-9223372036854775808≤n)(h1:n≤9223372036854775807):EV.w64 n=n:=zmc h0 h1
theorem zvs{α:Type}[Inhabited α]{l:List α}{i:Nat}(h:i<l.length):idx l (i:Int)=some (l.getD i default):=by
 unfold idx;rw[if_pos ⟨by omega,by omega⟩];rfl
theorem zU{α:Type}[Inhabited α]{l:List α}{i:Nat}{x:α}(h:l[i]?=some x):idx l (i:Int)=some x:=by
 obtain⟨h1,h2⟩:=List.getElem?_eq_some_iff.1 h;rw[zvs h1,List.getD_eq_getElem?_getD,h];rfl
theorem zvt{α:Type}{l:List α}{a b:Nat}(h1:a≤b)(h2:b≤l.length):cut l (a:Int) (b:Int)=some ((l.take b).drop a):=by
 unfold cut;rw[if_pos ⟨by omega,by omega,by omega⟩];rfl
theorem zt1{α:Type}{l:List α}{a:Nat}(h1:a≤l.length):cut l (a:Int) (l.length:Int)=some (l.drop a):=by
 rw[zvt h1 (Nat.le_refl _),List.take_length]
theorem zJ{n:Nat}(h:n<9223372036854775807):w64 ((n:Int)+1)=((n+1:Nat):Int):=by rw[Kt (by omega) (by omega)];rfl
theorem u9{n:Nat}(h:n<18446744073709551616):n<KK:=Nat.lt_of_lt_of_le h Fuel.big
theorem xT{α:Type}{l:List α}{i:Nat}{x:α}{r:List α}(h:l.drop i=x::r):l[i]?=some x∧l.drop (i+1)=r∧i<l.length:=by
 have h0:l[i]?=some x:=by
  have:=List.getElem?_drop (xs:=l) (i:=i) (j:=0);rw[h]at this;simpa using this.symm
 refine⟨h0,?_,(List.getElem?_eq_some_iff.1 h0).1⟩;rw[← List.drop_drop,h];rfl
theorem drop_nil{α:Type}{l:List α}{i:Nat}(h:l.drop i=[])(hi:i≤l.length):i=l.length:=by
 have:=congrArg List.length h;simp at this;omega
-- bytes
def J1(c:UInt8):Bool:=decide (97≤c.toNat)&&decide (c.toNat≤122)
def zqc(c:UInt8):Bool:=decide (48≤c.toNat)&&decide (c.toNat≤57)
def qP(c:UInt8):Bool:=J1 c||zqc c
theorem vg(a b:Bool):(bif a then some b else some false)=some (a&&b):=by cases a<;>rfl
theorem zqd(a b:Bool):(bif a then some true else some b)=some (a||b):=by cases a<;>rfl
theorem vh{p q:Prop}{i:Decidable p}{j:Decidable q}(h:p↔q):@decide p i=@decide q j:=by
 by_cases hq:q
 ·rw[decide_eq_true hq,decide_eq_true (h.2 hq)]
 ·rw[decide_eq_false hq,decide_eq_false (fun hp=>hq (h.1 hp))]
theorem zvu(n m:Nat){a:Int}(h:a=(m:Int)):decide ((n:Int)≥a)=decide (m≤n):=vh (by omega)
theorem zeb(n m:Nat){a:Int}(h:a=(m:Int)):decide ((n:Int)≤a)=decide (n≤m):=vh (by omega)
theorem Z7(c:UInt8):vq ((c.toNat:Nat):Int)=some (J1 c):=by
 unfold vq;rw[vg,J1,zvu _ 97 (a:=97) rfl,zeb _ 122 (a:=122) rfl]
theorem zze(c:UInt8):kr ((c.toNat:Nat):Int)=some (zqc c):=by
 unfold kr;rw[vg,zqc,zvu _ 48 (a:=48) rfl,zeb _ 57 (a:=57) rfl]
theorem zzf(c:UInt8):qw ((c.toNat:Nat):Int)=some (qP c):=by
 unfold qw;rw[Z7,Option.bind_some,zze,Option.bind_some,zqd,qP]
-- runs of bytes
theorem zt2(l:List UInt8)(f:UInt8→Bool)(G:UInt8→Option Bool)(F:Nat→Int→Option Int)(hG:∀b,G b=some (f b))
  (hF:∀K q,F (K+1) q=((bif (decide (q<((List.length l:Nat):Int)))then(idx l q).bind G else some false)).bind fun x1=>(bif x1 then F K (w64 (q+1))else some q)) (hl:l.length<4611686018427387904):
  ∀(r:List UInt8)(i K:Nat),l.drop i=r→i≤l.length→r.length<K→F K (i:Int)=some ((i+(r.takeWhile f).length:Nat):Int):=by
 intro r
 induction r with
 |nil =>
  intro i K hr hi hK
  obtain⟨K,rfl⟩:∃k,K=k+1:=⟨K-1,by omega⟩
  have:=drop_nil hr hi;rw[hF,decide_eq_false (by omega)];simp
 |cons c r ih =>
  intro i K hr hi hK
  obtain⟨K,rfl⟩:∃k,K=k+1:=⟨K-1,by omega⟩
  obtain⟨h1,h2,h3⟩:=xT hr;simp only[List.length_cons]at hK;rw[hF,decide_eq_true (by omega),cond_true,zU h1,Option.bind_some,hG,Option.bind_some]
  cases hc:f c with
  |false=>simp[List.takeWhile,hc]
  |true =>
   rw[cond_true,zJ (by omega),ih (i+1) K h2 (by omega) (by omega)];simp only[List.takeWhile,hc,List.length_cons]
   congr 2;omega
def zlq(f:UInt8→Bool)(l:List UInt8):Nat:=(l.takeWhile f).length
theorem zqe{α:Type}(o:Option α):(o.bind fun x=>some x)=o:=by cases o<;>rfl
theorem zzg{s:List UInt8}(h:s.length<4611686018427387904):Ao s=some ((zlq qP s:Nat):Int):=by
 unfold Ao;rw[zqe,show((0:Int))=((0:Nat):Int) from rfl,zt2 s qP (fun x2=>(qw ((x2.toNat:Nat):Int)).bind fun x3=>some x3) (jG s) (fun b=>by rw[zzf];rfl) (fun K q=>rfl) h s 0 KK rfl (by omega) (u9 (by omega))];simp[zlq]
theorem zt3{f:UInt8→Bool}{l:List UInt8}:zlq f l=l.length↔l.all f=true:=by
 induction l with
 |nil=>simp[zlq]
 |cons c l ih =>
  simp only[zlq,List.takeWhile,List.all_cons]at ih ⊢
  cases f c with
  |false=>simp
  |true=>simp only[List.length_cons,Bool.true_and,← ih];omega
-- words
def WQ(s:List UInt8):Bool:=match s with
 |[]=>false
 |c::r=>J1 c&&(decide (s.length≤20)&&r.all qP)
theorem zzh{s:List UInt8}(h:s.length<4611686018427387904):uf s=some (WQ s):=by
 unfold uf
 cases s with
 |nil=>rfl
 |cons c r =>
  rw[decide_eq_false (by simp),cond_false,show((0:Int))=((0:Nat):Int) from rfl,zU (x:=c) rfl,Option.bind_some,Z7,Option.bind_some,zqd,Option.bind_some,zzg h,Option.bind_some]
  have e:decide ((zlq qP (c::r):Int)=(((c::r).length:Nat):Int))=(qP c&&r.all qP):=by
   rw[← List.all_cons,Bool.eq_iff_iff,decide_eq_true_iff,← zt3];omega
  rw[e,WQ]
  cases hc:J1 c with
  |false=>simp
  |true =>
   have:qP c=true:=by rw[qP,hc];rfl
   rw[this];by_cases h20:(c::r).length≤20
   ·rw[decide_eq_true h20,decide_eq_false (by omega)];simp
   ·rw[decide_eq_false h20,decide_eq_true (by omega)];simp
theorem zEm{s:List UInt8}(h:0≤s.length):uf s=some (WQ s):=by
 by_cases hs:s.length<4611686018427387904
 ·exact zzh hs
 ·unfold uf
  cases s with
  |nil=>rfl
  |cons c r =>
   rw[decide_eq_false (by simp),cond_false,show((0:Int))=((0:Nat):Int) from rfl,zU (x:=c) rfl,Option.bind_some,Z7,Option.bind_some,zqd,Option.bind_some];rw[decide_eq_true (by omega:(((c::r).length:Nat):Int)>20),Bool.or_true,cond_true,WQ,decide_eq_false (by omega:¬(c::r).length≤20)];cases J1 c<;>rfl
noncomputable def pd(p:Prop):Bool:=@decide p (Classical.propDecidable p)
theorem xV{p:Prop}:pd p=true↔p:=by unfold pd;exact @decide_eq_true_iff p (Classical.propDecidable p)
theorem kM{p:Prop}[Decidable p]:decide p=pd p:=vh Iff.rfl
theorem jj{b:Bool}{p:Prop}(h:b=true↔p):b=pd p:=by
 cases b with
 |true=>exact(xV.2 (h.1 rfl)).symm
 |false =>
  cases hp:pd p with
  |false=>rfl
  |true=>exact absurd (h.2 (xV.1 hp)) (by decide)
theorem xU{p q:Prop}(h:p↔q):pd p=pd q:=jj (xV.trans h)
theorem zec{α β:Type}[Inhabited α][Inhabited β](a:List α)(b:List β)(G:α→β→Option Bool)(g:α→β→Bool)(L:Nat→Int→Option (Bool⊕Unit))
  (hL:∀K q,L (K+1) q=(bif (decide (q<((List.length a:Nat):Int)))then(idx a q).bind fun x=>(idx b q).bind fun y=>(G x y).bind fun r=>(bif (!r)then some (Sum.inl false)else L K (w64 (q+1)))else some (Sum.inr ())))
  (hs:a.length<4611686018427387904) (hl:b.length=a.length):
  ∀(r:List α)(t:List β)(i K:Nat),a.drop i=r→b.drop i=t→i≤a.length→r.length<K→(∀x∈r,∀y∈t,G x y=some (g x y))→L K (i:Int)=some (bif (r.zip t).all (fun p=>g p.1 p.2)then Sum.inr ()else Sum.inl false)
 |[],t,i,K,hr,ht,hi,hK,_=>by
  obtain⟨K,rfl⟩:∃k,K=k+1:=⟨K-1,by simp at hK;omega⟩
  have:=drop_nil hr hi;rw[hL,decide_eq_false (by omega)];simp
 |x::r,[],i,K,hr,ht,hi,hK,_=>by
  have h1:=drop_nil ht (by omega);obtain⟨_,_,h3⟩:=xT hr;omega
 |x::r,y::t,i,K,hr,ht,hi,hK,hG=>by
  obtain⟨K,rfl⟩:∃k,K=k+1:=⟨K-1,by simp at hK;omega⟩
  obtain⟨h1,h2,h3⟩:=xT hr;obtain⟨k1,k2,k3⟩:=xT ht;simp only[List.length_cons]at hK;rw[hL,decide_eq_true (by omega),cond_true,zU h1,Option.bind_some,zU k1,Option.bind_some,hG x (List.mem_cons_self ..) y (List.mem_cons_self ..),Option.bind_some];simp only[List.zip_cons_cons,List.all_cons]
  cases hg:g x y with
  |false=>rfl
  |true =>
   simp only[Bool.not_true,cond_false,Bool.true_and];rw[zJ (by omega)]
   exact zec a b G g L hL hs hl r t (i+1) K h2 k2 (by omega) (by omega) fun x hx y hy=>hG x (List.mem_cons_of_mem _ hx) y (List.mem_cons_of_mem _ hy)
theorem zqf{α:Type}{g:α→α→Bool}:∀{a b:List α},a.length=b.length→(∀x∈a,∀y∈b,(g x y=true↔x=y))→((a.zip b).all (fun p=>g p.1 p.2)=true↔a=b)
 |[],[],_,_=>by simp
 |[],_::_,h,_=>by simp at h
 |_::_,[],h,_=>by simp at h
 |x::a,y::b,h,hg=>by
  simp only[List.length_cons,Nat.add_right_cancel_iff]at h;simp only[List.zip_cons_cons,List.all_cons,Bool.and_eq_true,List.cons.injEq];rw[hg x (List.mem_cons_self ..) y (List.mem_cons_self ..),zqf h fun x hx y hy=>hg x (List.mem_cons_of_mem _ hx) y (List.mem_cons_of_mem _ hy)]
theorem xK{α:Type}[Inhabited α](a b:List α)(G:α→α→Option Bool)(L:Nat→Int→Option (Bool⊕Unit))
  (hL:∀K q,L (K+1) q=(bif (decide (q<((List.length a:Nat):Int)))then(idx a q).bind fun x=>(idx b q).bind fun y=>(G x y).bind fun r=>(bif (!r)then some (Sum.inl false)else L K (w64 (q+1)))else some (Sum.inr ())))
  (hs:a.length<4611686018427387904) (hG:∀x∈a,∀y∈b,G x y=some (pd (x=y))):
  (bif (!(decide (((List.length a:Nat):Int)=((List.length b:Nat):Int))))then some false else(L KK 0).bind (yj some fun _=>some true))=some (pd (a=b)):=by
 by_cases hl:a.length=b.length
 ·rw[decide_eq_true (by omega)]
  simp only[Bool.not_true,cond_false];have:=zec a b G (fun x y=>pd (x=y)) L hL hs hl.symm a b 0 KK rfl rfl (Nat.zero_le _) (u9 (by omega)) hG;rw[show((0:Int))=((0:Nat):Int) from rfl,this]
  have hz:=zqf (g:=fun x y=>pd (x=y)) hl fun x _ y _=>xV
  have e:=jj hz;rw[← e];cases (a.zip b).all (fun p=>pd (p.1=p.2))<;>rfl
 ·rw[decide_eq_false (by omega)]
  simp only[Bool.not_false,cond_true];exact congrArg some (jj ⟨fun h=>(by cases h),fun h=>absurd (congrArg List.length h) hl⟩)
-- levels
mutual
def K2:Expr→Nat
 |⟨_,_,_,_,az⟩=>zqg az+1
def zqg:List Expr→Nat
 |[]=>0
 |e::r=>K2 e+zqg r
end
theorem zgy:∀e:Expr,0<K2 e
 |⟨_,_,_,_,az⟩=>by rw[K2];omega
theorem Qr:∀l:List Expr,l.length≤zqg l
 |[]=>Nat.le_refl _
 |e::r=>by rw[zqg,List.length_cons];have:=Qr r;have:=zgy e;omega
theorem Qs:∀{l:List Expr}{e:Expr},e∈l→K2 e≤zqg l
 |x::r,e,h=>by
  rw[zqg]
  rcases List.mem_cons.1 h with rfl|h
  ·omega
  ·have:=Qs h;omega
theorem zqh:∀(n:Nat)(a b:Expr)(K:Nat),K2 a≤n→2*n≤K→n≤1000000000→xQ K a b=some (pd (a=b)):=by
 intro n
 induction n with
 |zero=>intro a b K h;have:=zgy a;omega
 |succ n ih =>
  intro a b K h hK hn
  obtain⟨K,rfl⟩:∃k,K=k+2:=⟨K-2,by omega⟩
  obtain⟨o1,n1,s1,k1,z1⟩:=a;obtain⟨o2,n2,s2,k2,z2⟩:=b;rw[K2]at h;have hz:=Qr z1
  have hl:xu (K+1) z1 z2=some (pd (z1=z2)):=by
   rw[xu]
   refine xK z1 z2 (fun x y=>xQ K (Expr.mk x.Op x.N x.S x.Key x.Args) (Expr.mk y.Op y.N y.S y.Key y.Args)) _ (fun K q=>rfl) (by omega) fun x hx y hy=>?_
   have h1:=Qs hx;have:=ih x y K (by omega) (by omega) (by omega);cases x;cases y;exact this
  rw[xQ];simp only[hl,Option.bind_some];simp only[kM]
  have e:pd ((⟨o1,n1,s1,k1,z1⟩:Expr)=⟨o2,n2,s2,k2,z2⟩)=(pd (o1=o2)&&(pd (n1=n2)&&(pd (s1=s2)&&(pd (k1=k2)&&pd (z1=z2))))):=by
   refine(jj ?_).symm;simp only[Bool.and_eq_true,xV,Expr.mk.injEq]
  rw[e];cases pd (o1=o2)<;>cases pd (n1=n2)<;>cases pd (s1=s2)<;>cases pd (k1=k2)<;>rfl
def qQ(e:Expr):Prop:=K2 e≤1000000000
theorem YQ{a b:Expr}(h:qQ a):xQ KK a b=some (pd (a=b)):=zqh 1000000000 a b KK h (Nat.le_of_lt (u9 (by omega))) (by omega)
theorem zy(e:Expr):Expr.mk e.Op e.N e.S e.Key e.Args=e:=by cases e;rfl
theorem xv{p q:Prop}:pd (p∧q)=(pd p&&pd q):=(jj (by simp only[Bool.and_eq_true,xV])).symm
theorem zqi{a b:List Def}(hs:a.length<4611686018427387904)(hE:∀d∈a,qQ d.Body):yt a b=some (pd (a=b)):=by
 unfold yt
 refine xK a b (fun x y=>Qk (Def.mk x.Name (Expr.mk x.Body.Op x.Body.N x.Body.S x.Body.Key x.Body.Args)) (Def.mk y.Name (Expr.mk y.Body.Op y.Body.N y.Body.S y.Body.Key y.Body.Args))) _ (fun K q=>rfl) hs fun x hx y hy=>?_
 have h:=hE x hx;simp only[zy];obtain⟨n1,e1⟩:=x;obtain⟨n2,e2⟩:=y;unfold Qk;simp only[zy,YQ h,Option.bind_some,kM,Def.mk.injEq,xv];cases pd (n1=n2)<;>rfl
theorem YR{a b:List (List UInt8)}(hs:a.length<4611686018427387904):wk a b=some (pd (a=b)):=by
 unfold wk
 refine xK a b (fun x y=>some (decide (x=y))) _ (fun K q=>rfl) hs fun x _ y _=>?_
 rw[kM]
theorem zed{a b:List Entry}(hs:a.length<4611686018427387904):wq a b=some (pd (a=b)):=by
 unfold wq
 refine xK a b (fun x y=>some (decide (x.Name=y.Name)&&(decide (x.N=y.N)))) _ (fun K q=>rfl) hs fun x _ y _=>?_
 obtain⟨n1,m1⟩:=x;obtain⟨n2,m2⟩:=y;simp only[kM,Entry.mk.injEq,xv]
theorem uz{a b:List zw}(hs:a.length<4611686018427387904):ya a b=some (pd (a=b)):=by
 unfold ya
 refine xK a b (fun x y=>some (decide (x.X=y.X)&&(decide (x.Y=y.Y)))) _ (fun K q=>rfl) hs fun x _ y _=>?_
 obtain⟨n1,m1⟩:=x;obtain⟨n2,m2⟩:=y;simp only[kM,zw.mk.injEq,xv]
theorem Ku{a b:List zj}(hs:a.length<4611686018427387904):y8 a b=some (pd (a=b)):=by
 unfold y8
 refine xK a b (fun x y=>some (decide (x.X=y.X)&&(decide (x.Y=y.Y)&&(decide (x.Z_=y.Z_))))) _ (fun K q=>rfl) hs fun x _ y _=>?_
 obtain⟨n1,m1,k1⟩:=x;obtain⟨n2,m2,k2⟩:=y;simp only[kM,zj.mk.injEq,xv]
theorem zgz{a b:List Table}(hs:a.length<4611686018427387904)(hE:∀d∈a,d.Rows.length<4611686018427387904):yu a b=some (pd (a=b)):=by
 unfold yu
 refine xK a b Ql _ (fun K q=>rfl) hs fun x hx y hy=>?_
 have h:=hE x hx;obtain⟨n1,r1,e1⟩:=x;obtain⟨n2,r2,e2⟩:=y;unfold Ql;simp only[zed h,Option.bind_some,kM,Table.mk.injEq,xv];cases pd (n1=n2)<;>cases pd (e1=e2)<;>cases pd (r1=r2)<;>rfl
theorem zvv{a b:Bool}:(a==b)=pd (a=b):=jj beq_iff_eq
theorem zlr{a b:List zm}(hs:a.length<4611686018427387904)(hE:∀d∈a,d.Corners.length<4611686018427387904):yw a b=some (pd (a=b)):=by
 unfold yw
 refine xK a b Qm _ (fun K q=>rfl) hs fun x hx y hy=>?_
 have h:=hE x hx;obtain⟨n1,r1,e1⟩:=x;obtain⟨n2,r2,e2⟩:=y;unfold Qm;simp only[uz h,Option.bind_some,kM,zvv,zm.mk.injEq,xv];cases pd (n1=n2)<;>cases pd (r1=r2)<;>rfl
theorem zqj{a b:List Cap}(hs:a.length<4611686018427387904)(hE:∀d∈a,d.Corners.length<4611686018427387904):yx a b=some (pd (a=b)):=by
 unfold yx
 refine xK a b Qn _ (fun K q=>rfl) hs fun x hx y hy=>?_
 have h:=hE x hx;obtain⟨n1,r1,l1,e1⟩:=x;obtain⟨n2,r2,l2,e2⟩:=y;unfold Qn;simp only[uz h,Option.bind_some,kM,Cap.mk.injEq,xv];cases pd (n1=n2)<;>cases pd (r1=r2)<;>cases pd (l1=l2)<;>rfl
theorem zls{a b:List View}(hs:a.length<4611686018427387904)(hE:∀d∈a,d.Targets.length<4611686018427387904):yy a b=some (pd (a=b)):=by
 unfold yy
 refine xK a b Qo _ (fun K q=>rfl) hs fun x hx y hy=>?_
 have h:=hE x hx;obtain⟨n1,⟨x1,y1,z1⟩,l1,e1⟩:=x;obtain⟨n2,⟨x2,y2,z2⟩,l2,e2⟩:=y;unfold Qo;simp only[Ku h,Option.bind_some,kM,View.mk.injEq,zj.mk.injEq,xv];cases pd (n1=n2)<;>cases pd (x1=x2)<;>cases pd (y1=y2)<;>cases pd (z1=z2)<;>cases pd (l1=l2)<;>rfl
theorem zee{a b:zb}(h1:a.Zones.length<4611686018427387904)(h2:a.Except.length<4611686018427387904)(h3:qQ a.Test):vw a b=some (pd (a=b)):=by
 obtain⟨a1,a2,a3,a4,a5,a6,a7,a8,a9,⟨p1,p2,p3,p4⟩,a10,a11,a12⟩:=a;obtain⟨b1,b2,b3,b4,b5,b6,b7,b8,b9,⟨q1,q2,q3,q4⟩,b10,b11,b12⟩:=b;unfold vw;simp only[YR h1,YR h2,zy,YQ h3,Option.bind_some,kM,zvv,zb.mk.injEq,zg.mk.injEq,xv]
 cases pd (a2=b2)<;>cases pd (a3=b3)<;>cases pd (a9=b9)<;>simp only[Bool.not_true,Bool.not_false,cond_true,cond_false,Option.bind_some,Bool.false_and,Bool.and_false,Bool.true_and] <;>
 cases pd (a1=b1)<;>cases pd (a4=b4)<;>cases pd (a5=b5)<;>cases pd (a6=b6)<;>simp only[Option.bind_some,cond_true,cond_false,Bool.false_and,Bool.and_false,Bool.true_and] <;>
 cases pd (a7=b7)<;>cases pd (a8=b8)<;>simp only[Option.bind_some,cond_true,cond_false,Bool.false_and,Bool.and_false,Bool.true_and] <;>
 cases (pd (p1=q1)&&(pd (p2=q2)&&(pd (p3=q3)&&pd (p4=q4))))<;>cases pd (a10=b10)<;>cases pd (a11=b11)<;>rfl
theorem zlt{a b:List zb}(hs:a.length<4611686018427387904)(hE:∀d∈a,d.Zones.length<4611686018427387904∧d.Except.length<4611686018427387904∧qQ d.Test):yv a b=some (pd (a=b)):=by
 unfold yv
 refine xK a b (fun x1 x2=>vw (zb.mk x1.Name x1.Zones x1.Except x1.From x1.Until x1.Grace x1.Vary x1.Kind (Expr.mk x1.Test.Op x1.Test.N x1.Test.S x1.Test.Key x1.Test.Args) x1.zg x1.Uses x1.Other x1.N) (zb.mk x2.Name x2.Zones x2.Except x2.From x2.Until x2.Grace x2.Vary x2.Kind (Expr.mk x2.Test.Op x2.Test.N x2.Test.S x2.Test.Key x2.Test.Args) x2.zg x2.Uses x2.Other x2.N)) _ (fun K q=>rfl) hs fun x hx y hy=>?_
 obtain⟨h1,h2,h3⟩:=hE x hx;simp only[zy];exact zee h1 h2 h3
def FitP(p:zu):Prop :=
 (p.Defs.length<4611686018427387904∧∀d∈p.Defs,qQ d.Body)∧(p.Tables.length<4611686018427387904∧∀d∈p.Tables,d.Rows.length<4611686018427387904)∧(p.Zones.length<4611686018427387904∧∀d∈p.Zones,d.Corners.length<4611686018427387904) ∧
 (p.Rules.length<4611686018427387904∧∀d∈p.Rules,d.Zones.length<4611686018427387904∧d.Except.length<4611686018427387904∧qQ d.Test)∧(p.Caps.length<4611686018427387904∧∀d∈p.Caps,d.Corners.length<4611686018427387904)∧(p.Views.length<4611686018427387904∧∀d∈p.Views,d.Targets.length<4611686018427387904)∧p.Sun.length<4611686018427387904
theorem oZ{a b:zu}(h:FitP a):kU a b=some (pd (a=b)):=by
 obtain⟨⟨d1,d2⟩,⟨t1,t2⟩,⟨z1,z2⟩,⟨r1,r2⟩,⟨c1,c2⟩,⟨v1,v2⟩,s1⟩:=h;obtain⟨aD,aT,aZ,aR,aC,aV,aS,aH⟩:=a;obtain⟨bD,bT,bZ,bR,bC,bV,bS,bH⟩:=b;unfold kU;simp only[zqi d1 d2,zgz t1 t2,zlr z1 z2,zlt r1 r2,zqj c1 c2,zls v1 v2,Ku s1,Option.bind_some,kM,zu.mk.injEq,xv];cases pd (aD=bD)<;>cases pd (aT=bT)<;>cases pd (aZ=bZ)<;>cases pd (aR=bR)<;>cases pd (aC=bC)<;>cases pd (aV=bV)<;>cases pd (aS=bS)<;>rfl
theorem Z8{α τ:Type}(l:List α)(g:α→Bool)(ok bad:τ)(L:Nat→Int→τ)
  (hL:∀K (i:Nat) x,l[i]?=some x→L (K+1) (i:Int)=bif g x then L K ((i+1:Nat):Int)else bad) (hE:∀K,L (K+1) (l.length:Int)=ok):
  ∀(r:List α)(i K:Nat),l.drop i=r→i≤l.length→r.length<K→L K (i:Int)=bif r.all g then ok else bad
 |[],i,K,hr,hi,hK=>by
  obtain⟨K,rfl⟩:∃k,K=k+1:=⟨K-1,by simp at hK;omega⟩
  have:=drop_nil hr hi;subst this;rw[hE];rfl
 |x::r,i,K,hr,hi,hK=>by
  obtain⟨K,rfl⟩:∃k,K=k+1:=⟨K-1,by simp at hK;omega⟩
  obtain⟨h1,h2,h3⟩:=xT hr;simp only[List.length_cons]at hK;rw[hL K i x h1,List.all_cons]
  cases g x with
  |false=>rfl
  |true=>exact Z8 l g ok bad L hL hE r (i+1) K h2 (by omega) (by omega)
theorem Qt{α τ:Type}(l:List α)(g:α→Bool)(ok bad:τ)(L:Nat→Int→τ)(hs:l.length≤9223372036854775807)
  (hL:∀K (i:Nat) x,l[i]?=some x→L (K+1) (i:Int)=bif g x then L K ((i+1:Nat):Int)else bad) (hE:∀K,L (K+1) (l.length:Int)=ok):
  L KK 0=bif l.all g then ok else bad:=Z8 l g ok bad L hL hE l 0 KK rfl (Nat.zero_le _) (u9 (by omega))
theorem zef{α σ τ:Type}(l:List α)(f:σ→α→σ)(fin:σ→τ)(I:Nat→σ→Prop)(L:Nat→Int→σ→τ)
  (hL:∀K (i:Nat) x s,l[i]?=some x→I i s→L (K+1) (i:Int) s=L K ((i+1:Nat):Int) (f s x)∧I (i+1) (f s x)) (hE:∀K s,I l.length s→L (K+1) (l.length:Int) s=fin s):
  ∀(r:List α)(i K:Nat)(s:σ),l.drop i=r→i≤l.length→r.length<K→I i s→L K (i:Int) s=fin (r.foldl f s)∧I l.length (r.foldl f s)
 |[],i,K,s,hr,hi,hK,hI=>by
  obtain⟨K,rfl⟩:∃k,K=k+1:=⟨K-1,by simp at hK;omega⟩
  have:=drop_nil hr hi;subst this;exact⟨hE K s hI,hI⟩
 |x::r,i,K,s,hr,hi,hK,hI=>by
  obtain⟨K,rfl⟩:∃k,K=k+1:=⟨K-1,by simp at hK;omega⟩
  obtain⟨h1,h2,h3⟩:=xT hr;simp only[List.length_cons]at hK;obtain⟨e1,e2⟩:=hL K i x s h1 hI;rw[e1,List.foldl_cons];exact zef l f fin I L hL hE r (i+1) K (f s x) h2 (by omega) (by omega) e2
theorem zeg{α σ τ:Type}(l:List α)(f:σ→α→σ)(fin:σ→τ)(I:Nat→σ→Prop)(L:Nat→Int→σ→τ)(s:σ)(hs:l.length<4611686018427387904)(h0:I 0 s)
  (hL:∀K (i:Nat) x s,l[i]?=some x→I i s→L (K+1) (i:Int) s=L K ((i+1:Nat):Int) (f s x)∧I (i+1) (f s x)) (hE:∀K s,I l.length s→L (K+1) (l.length:Int) s=fin s):
  L KK 0 s=fin (l.foldl f s)∧I l.length (l.foldl f s):=zef l f fin I L hL hE l 0 KK s rfl (Nat.zero_le _) (u9 (by omega)) h0
theorem xg{α:Type}{l:List α}{i:Nat}{x:α}(h:l[i]?=some x):decide ((i:Int)<(List.length l:Nat))=true:=decide_eq_true (by have:=(List.getElem?_eq_some_iff.1 h).1;omega)
theorem zZ{α:Type}{l:List α}:decide (((List.length l:Nat):Int)<(List.length l:Nat))=false:=decide_eq_false (by omega)
theorem yG{α:Type}{l:List α}{i:Nat}{x:α}(h:l[i]?=some x):i<l.length:=(List.getElem?_eq_some_iff.1 h).1
theorem zzi{o:Option (Bool⊕Unit)}{g r:Bool}{f:Unit→Option Bool}(h:o=some (bif g then Sum.inr ()else Sum.inl false))(hr:g=true→f ()=some r):o.bind (yj some f)=some (g&&r):=by
 subst h
 cases g with
 |false=>rfl
 |true=>rw[cond_true,Option.bind_some,yj,hr rfl,Bool.true_and]
theorem zt4{o:Option Bool}{f:Option Bool}{g r:Bool}(h:o=some g)(hr:g=true→f=some (!r)):(o.bind fun x=>bif (!x)then some true else f)=some (!(g&&r)):=by
 subst h
 cases g with
 |false=>rfl
 |true=>rw[Option.bind_some,Bool.not_true,cond_false,hr rfl,Bool.true_and]
theorem zzj{a:Nat}{m:Int}(n:Nat){f:Option Bool}{r:Bool}(hm:m=(n:Int))(hr:a≤n→f=some (!r)):(bif decide ((a:Int)>m)then some true else f)=some (!(decide (a≤n)&&r)):=by
 by_cases h:a≤n
 ·rw[decide_eq_false (by omega),decide_eq_true h,cond_false,hr h,Bool.true_and]
 ·rw[decide_eq_true (by omega),decide_eq_false h];rfl
theorem J2{a:Nat}{m:Int}(n:Nat)(hm:m=(n:Int)):some (decide ((a:Int)>m))=some (!(decide (a≤n))):=by
 by_cases h:a≤n
 ·rw[decide_eq_false (by omega),decide_eq_true h];rfl
 ·rw[decide_eq_true (by omega),decide_eq_false h];rfl
theorem Z9{α:Type}(l:List α)(g:α→Bool)(L:Nat→Int→Option (Bool⊕Unit))(B:Int→Option Bool)(hs:l.length≤9223372036854775807)
  (hL:∀K q,L (K+1) q=(bif (decide (q<((List.length l:Nat):Int)))then(B q).bind fun r=>(bif r then some (Sum.inl false)else L K (w64 (q+1)))else some (Sum.inr ())))
  (hB:∀(i:Nat) x,l[i]?=some x→B (i:Int)=some (!(g x))):L KK 0=some (bif l.all g then Sum.inr ()else Sum.inl false):=by
 have:=Qt l g (some (Sum.inr ())) (some (Sum.inl false)) L hs (fun K i x h=>?_) (fun K=>by rw[hL,zZ];rfl)
 ·rw[this];cases l.all g<;>rfl
 ·have hi:=yG h
  rw[hL,xg h,cond_true,hB i x h,Option.bind_some,zJ (by omega)];cases g x<;>rfl
mutual
def uT:Expr→Bool
 |⟨_,_,s,k,az⟩=>V5 az&&(decide (0≤s.length)&&decide (0≤k.length))
def V5:List Expr→Bool
 |[]=>true
 |e::r=>uT e&&V5 r
end
theorem YS:∀l:List Expr,V5 l=l.all uT
 |[]=>by rw[V5];rfl
 |e::r=>by rw[V5,YS r,List.all_cons]
def zaa(e:Expr):Bool:=decide (K2 e≤5000)&&uT e
def zEn(l:List (List UInt8)):Bool:=l.all (fun x=>decide (0≤x.length))&&decide (l.length≤3000)
def zex(r:zb):Bool:=decide (0≤r.Name.length)&&(zEn r.Zones&&(zEn r.Except&&zaa r.Test))
theorem zvw{τ:Type}(n lo:Nat)(g:Nat→Bool)(ok bad:τ)(L:Nat→Int→τ)(hL:∀K (i:Nat),lo≤i→i<n→L (K+1) (i:Int)=bif g i then L K ((i+1:Nat):Int)else bad)(hE:∀K (i:Nat),n≤i→L (K+1) (i:Int)=ok):
  ∀(m a K:Nat),lo≤a→n-a≤m→m<K→L K (a:Int)=bif pd (∀k,a≤k→k<n→g k=true)then ok else bad
 |0,a,K,hlo,h,hK=>by
  obtain⟨K,rfl⟩:∃k,K=k+1:=⟨K-1,by omega⟩
  rw[hE K a (by omega),xV.2 (fun k h1 h2=>by omega)];rfl
 |m+1,a,K,hlo,h,hK=>by
  obtain⟨K,rfl⟩:∃k,K=k+1:=⟨K-1,by omega⟩
  by_cases ha:n≤a
  ·rw[hE K a ha,xV.2 (fun k h1 h2=>by omega)];rfl
  ·rw[hL K a hlo (by omega)]
   cases hg:g a with
   |false =>
    have:pd (∀k,a≤k→k<n→g k=true)=false:=by
     cases hp:pd (∀k,a≤k→k<n→g k=true)with
     |false=>rfl
     |true=>rw[xV.1 hp a (Nat.le_refl _) (by omega)]at hg;cases hg
    rw[this];rfl
   |true =>
    rw[cond_true,zvw n lo g ok bad L hL hE m (a+1) K (by omega) (by omega) (by omega)]
    have:pd (∀k,a+1≤k→k<n→g k=true)=pd (∀k,a≤k→k<n→g k=true):=xU ⟨fun h k h1 h2=>by
     by_cases hk:k=a
     ·rw[hk];exact hg
     ·exact h k (by omega) h2,fun h k h1 h2=>h k (by omega) h2⟩
    rw[this]
def ptA(p:List zw)(i:Nat):zw:=p.getD (i % p.length) default
def zt5(a b c:zw):Bool :=
 (decide (0≤a.X)&&(decide (a.X≤1048576)&&(decide (0≤a.Y)&&decide (a.Y≤1048576)))) &&
 (!(decide (a.X=b.X)==decide (a.Y=b.Y))&&!(decide (a.X=b.X)==decide (b.X=c.X)))
def zt6(p:List zw)(i:Nat):Bool:=zt5 (ptA p i) (ptA p (i+1)) (ptA p (i+2))
theorem Hh{α β:Type}{o:Option α}{v:α}{f:α→Option β}{r:Option β}(h:o=some v)(h2:f v=r):o.bind f=r:=by rw[h,Option.bind_some,h2]
theorem zqk(a b c:zw):((JP a).bind fun x5=>(bif (!x5)then some true else(bif ((decide (a.X=b.X))==(decide (a.Y=b.Y)))then some true else(yf ⟨a,b⟩).bind fun x6=>(yf ⟨b,c⟩).bind fun x7=>some (x6==x7))))=some (!(zt5 a b c)):=by
 show((bif (decide (0≤a.X))then(bif (decide (a.X≤1048576))then(bif (decide (0≤a.Y))then some (decide (a.Y≤1048576))else some false)else some false)else some false).bind fun x5=>(bif (!x5)then some true else(bif ((decide (a.X=b.X))==(decide (a.Y=b.Y)))then some true else(some ((decide (a.X=b.X))==(decide (b.X=c.X)))))))=_
 unfold zt5;cases decide (0≤a.X)
 ·rfl
 cases decide (a.X≤1048576)
 ·rfl
 cases decide (0≤a.Y)
 ·rfl
 cases decide (a.Y≤1048576)
 ·rfl
 cases (decide (a.X=b.X)==decide (a.Y=b.Y))<;>cases (decide (a.X=b.X)==decide (b.X=c.X))<;>rfl
def zt7(a b:zw):Bool:=decide (a.X<b.X)||(decide (a.X=b.X)&&decide (a.Y<b.Y))
def zF2(p:List zw)(i:Nat):Bool:=!(decide (0<i))||zt7 (ptA p 0) (ptA p i)
def zEo(a b c d:zw):Bool:=decide (max (min a.X b.X) (min c.X d.X)≤min (max a.X b.X) (max c.X d.X))&&decide (max (min a.Y b.Y) (min c.Y d.Y)≤min (max a.Y b.Y) (max c.Y d.Y))
def zAs(p:List zw)(i k:Nat):Bool:=decide ((k+1) % p.length=i)||!(zEo (ptA p i) (ptA p (i+1)) (ptA p k) (ptA p (k+1)))
def WR(p:List zw):Prop:=(4≤p.length∧p.length≤60)∧(∀i,0≤i→i<p.length→(zt6 p i&&zF2 p i)=true)∧(∀i,0≤i→i<p.length→pd (∀k,i+2≤k→k<p.length→zAs p i k=true)=true)∧¬(ptA p 0).X=(ptA p 1).X
theorem zvx{p:List zw}{i:Nat}(h:0<p.length):idx p (((i % p.length:Nat)):Int)=some (ptA p i):=zvs (Nat.mod_lt _ h)
theorem zql{p:List zw}{i:Nat}(h:i<p.length):idx p ((i:Nat):Int)=some (ptA p i):=by
 have:=zvx (p:=p) (i:=i) (by omega)
 rwa [Nat.mod_eq_of_lt h]at this
theorem zja{i n:Nat}:Int.tmod (i:Int) (n:Int)=((i % n:Nat):Int):=rfl
theorem zEp{p:List zw}{i:Nat}:ptA p (i % p.length)=ptA p i:=by unfold ptA;rw[Nat.mod_mod]
theorem zzk{p:List zw}{i:Nat}:ptA p (i % p.length+1)=ptA p (i+1):=by unfold ptA;rw[Nat.mod_add_mod]
def zeh(p:List zw)(i:Nat):zl:=⟨ptA p i,ptA p (i+1)⟩
theorem zqm{p:List zw}(h0:0<p.length)(h1:p.length≤60):∃l,Ax p=some l∧l.length=p.length∧∀j<p.length,l[j]?=some (zeh p j):=by
 have hr:(List.range p.length).length=p.length:=List.length_range
 have key:=zeg (List.range p.length) (fun s i=>List.set s i (zeh p i)) (fun s=>some s) (fun i s=>s.length=p.length∧∀j<i,s[j]?=some (zeh p j)) (fun K q s=>yU p ((List.length p:Nat):Int) K (q,s))
  (List.replicate (Int.toNat ((List.length p:Nat):Int)) (zl.mk (zw.mk 0 0) (zw.mk 0 0))) (by omega) ⟨by simp,fun j hj=>by omega⟩ (fun K i x s hx hs=>?_) (fun K s hs=>?_)
 ·refine⟨_,?_,key.2.1,fun j hj=>key.2.2 j (by omega)⟩
  unfold Ax;rw[zV (by omega),Option.bind_some,key.1];rfl
 ·have hi:=yG hx
  rw[hr]at hi
  have hxi:x=i:=by simpa[List.getElem?_range,hi]using hx.symm
  subst hxi;obtain⟨s1,s2⟩:=hs;refine⟨?_,by rw[List.length_set];exact s1,fun j hj=>?_⟩
  ·show yU p ((List.length p:Nat):Int) (K+1) ((x:Int),s)=_
   rw[yU];simp only[decide_eq_true (show(x:Int)<((List.length p:Nat):Int) by omega),cond_true,zql hi,Option.bind_some];rw[zV (by omega),Option.bind_some,zJ (by omega),zja,zvx h0,Option.bind_some,zV (by omega),Option.bind_some];simp only[Int.toNat_natCast];rw[List.getElem?_eq_getElem (by omega),Option.bind_some];rfl
  ·by_cases hjx:j=x
   ·subst hjx
    rw[List.getElem?_set_self (by omega)]
   ·rw[List.getElem?_set_ne (Ne.symm hjx)]
    exact s2 j (by omega)
 ·rw[hr,yU]
  simp only[zZ,cond_false]
theorem zlu(a b:zw):(uk a b).bind (fun x=>some (decide (x≥0)))=some (!(zt7 a b)):=by
 have hc:∀x y:Int,wW x y=some (if x<y then -1 else if x>y then 1 else 0):=fun x y=>by
  unfold wW uj;simp only[Option.bind_some,decide_true,Bool.not_true,cond_false];by_cases h:x<y
  ·rw[decide_eq_true h,if_pos h];rfl
  ·rw[decide_eq_false h,if_neg h]
   by_cases h2:x>y
   ·rw[decide_eq_true h2,if_pos h2];rfl
   ·rw[decide_eq_false h2,if_neg h2];rfl
 have ho:∀x y:Int,Qj [x,y]=some (if x=0 then y else x):=fun x y=>by
  unfold Qj
  have e:KK=(KK-3)+3:=by have:=u9 (n:=10) (by omega);omega
  rw[e,vu];simp only[show decide ((0:Int)<((List.length [x,y]:Nat):Int))=true from rfl,cond_true,show idx [x,y] 0=some x from rfl,Option.bind_some];by_cases h:x=0
  ·rw[decide_eq_true h,if_pos h]
   simp only[Bool.not_true,cond_false];rw[show w64 (0+1)=1 from rfl,vu];simp only[show decide ((1:Int)<((List.length [x,y]:Nat):Int))=true from rfl,cond_true,show idx [x,y] 1=some y from rfl,Option.bind_some];by_cases h2:y=0
   ·rw[decide_eq_true h2,h2]
    simp only[Bool.not_true,cond_false];rw[show w64 (1+1)=2 from rfl,vu];rfl
   ·rw[decide_eq_false h2];rfl
  ·rw[decide_eq_false h,if_neg h];rfl
 unfold uk;simp only[hc,ho,Option.bind_some];unfold zt7;refine congrArg some ?_;by_cases h1:a.X<b.X
 ·simp[h1]
 ·by_cases h2:a.X>b.X
  ·have:¬a.X=b.X:=by omega
   simp[h1,h2,this]
  ·have:a.X=b.X:=by omega
   by_cases h3:a.Y<b.Y
   ·simp[this,h3]
   ·by_cases h4:a.Y>b.Y
    ·simp[this,h3,h4]
    ·simp[this,h3,h4]
theorem vI{p:Prop}(h:¬p):pd p=false:=(jj (b:=false) ⟨fun h=>(by cases h),fun h2=>absurd h2 h⟩).symm
theorem zg0(n:Nat)(g:Nat→Bool)(L:Nat→Int→Option (Bool⊕Unit))(a:Nat)(hn:n<4611686018427387904)(hL:∀K (i:Nat),a≤i→i<n→L (K+1) (i:Int)=bif g i then L K ((i+1:Nat):Int)else some (Sum.inl false))(hE:∀K (i:Nat),n≤i→L (K+1) (i:Int)=some (Sum.inr ())):
  L KK (a:Int)=some (bif pd (∀k,a≤k→k<n→g k=true)then Sum.inr ()else Sum.inl false):=by
 rw[zvw n a g _ _ L hL hE n a KK (Nat.le_refl _) (by omega) (u9 (by omega))];cases pd (∀k,a≤k→k<n→g k=true)<;>rfl
theorem kE{o:Option (Bool⊕Unit)}{g r:Prop}{f:Unit→Option Bool}(h:o=some (bif pd g then Sum.inr ()else Sum.inl false))(hr:g→f ()=some (pd r)):o.bind (yj some f)=some (pd (g∧r)):=by
 rw[xv]
 exact zzi h fun hg=>hr (xV.1 hg)
theorem zqn{p:List zw}:um p=some (pd (WR p)):=by
 unfold um Vq;by_cases hh:4≤p.length∧p.length≤60
 ·obtain⟨h4,h60⟩:=hh
  obtain⟨l,e1,e2,e3⟩:=zqm (p:=p) (by omega) h60
  have hl:∀j<p.length,idx l (j:Int)=some (zeh p j):=fun j hj=>zU (e3 j hj)
  rw[decide_eq_false (show ¬((List.length p:Nat):Int)<4 by omega),decide_eq_false (show ¬((List.length p:Nat):Int)>60 by omega),cond_false,Option.bind_some,cond_false,e1,Option.bind_some,zqe];have hp:pd (WR p)=pd ((∀i,0≤i→i<p.length→(zt6 p i&&zF2 p i)=true)∧(∀i,0≤i→i<p.length→pd (∀k,i+2≤k→k<p.length→zAs p i k=true)=true)∧¬(ptA p 0).X=(ptA p 1).X):=xU ⟨fun h=>h.2,fun h=>⟨⟨h4,h60⟩,h⟩⟩;rw[hp,e2]
  refine kE ?_ fun _=>kE ?_ fun _=>?_
  ·refine zg0 p.length (fun i=>zt6 p i&&zF2 p i) (wH p l (List.length p:Nat)) 0 (by omega) (fun K i _ hi=>?_) (fun K i hi=>?_)
   ·rw[wH]
    simp only[decide_eq_true (show(i:Int)<((List.length p:Nat):Int) by omega),cond_true,hl i hi,Option.bind_some,e2];rw[zV (by omega),Option.bind_some,zJ (by omega),zja,hl _ (Nat.mod_lt _ (by omega))];rw[show zeh p ((i+1) % p.length)=zeh p (i+1) by unfold zeh;rw[zEp,zzk],Option.bind_some];have h0:idx p 0=some (ptA p 0):=zql (p:=p) (i:=0) (by omega);refine Hh (zqk (ptA p i) (ptA p (i+1)) (ptA p (i+2))) ?_;unfold zt6 zF2;cases zt5 (ptA p i) (ptA p (i+1)) (ptA p (i+2))
    ·rfl
    simp only[Bool.not_true,cond_false,Bool.true_and];by_cases hi0:0<i
    ·rw[decide_eq_true (show(i:Int)>0 by omega),decide_eq_true hi0,cond_true,h0,zql hi]
     simp only[Option.bind_some,zlu,Bool.not_true,Bool.false_or];cases zt7 (ptA p 0) (ptA p i)<;>rfl
    ·rw[decide_eq_false (show ¬(i:Int)>0 by omega),decide_eq_false hi0];rfl
   ·rw[wH,decide_eq_false (by omega)];rfl
  ·refine zg0 p.length (fun i=>pd (∀k,i+2≤k→k<p.length→zAs p i k=true)) (wJ l (List.length p:Nat)) 0 (by omega) (fun K i _ hi=>?_) (fun K i hi=>?_)
   ·rw[wJ,decide_eq_true (show(i:Int)<((List.length p:Nat):Int) by omega),cond_true,Kt (by omega) (by omega),show((i:Int)+2)=((i+2:Nat):Int) by omega]
    rw[zg0 p.length (fun k=>zAs p i k) (wI l (i:Int) (List.length p:Nat)) (i+2) (by omega) (fun K k hlo hk=>?_) (fun K k hk=>?_),zJ (by omega)]
    ·cases pd (∀k,i+2≤k→k<p.length→zAs p i k=true)<;>rfl
    ·rw[wI,e2,decide_eq_true (show(k:Int)<((List.length p:Nat):Int) by omega),cond_true,Kt (n:=(i:Int)+_) (by omega) (by omega),Kt (by omega) (by omega),hl i hi,hl k hk]
     have hm:decide ((i:Int)+((List.length p:Nat):Int)-(k:Int)>1)=!(decide ((k+1) % p.length=i)):=by
      by_cases hk1:k+1=p.length
      ·rw[hk1,Nat.mod_self]
       by_cases hi0:0=i
       ·rw[decide_eq_true hi0,decide_eq_false (by omega)];rfl
       ·rw[decide_eq_false hi0,decide_eq_true (by omega)];rfl
      ·rw[Nat.mod_eq_of_lt (by omega)]
       rw[decide_eq_false (show ¬k+1=i by omega),decide_eq_true (by omega)];rfl
     rw[hm];unfold zAs;cases decide ((k+1) % p.length=i)
     ·simp only[Bool.not_false,cond_true,Option.bind_some,Bool.false_or]
      show((bif (decide (max (min (ptA p i).X (ptA p (i+1)).X) (min (ptA p k).X (ptA p (k+1)).X)≤min (max (ptA p i).X (ptA p (i+1)).X) (max (ptA p k).X (ptA p (k+1)).X)))then some (decide (max (min (ptA p i).Y (ptA p (i+1)).Y) (min (ptA p k).Y (ptA p (k+1)).Y)≤min (max (ptA p i).Y (ptA p (i+1)).Y) (max (ptA p k).Y (ptA p (k+1)).Y)))else some false).bind fun x4=>some x4).bind _=_
      rw[vg,Option.bind_some,Option.bind_some,zJ (by omega)];unfold zEo;cases (decide (max (min (ptA p i).X (ptA p (i+1)).X) (min (ptA p k).X (ptA p (k+1)).X)≤min (max (ptA p i).X (ptA p (i+1)).X) (max (ptA p k).X (ptA p (k+1)).X))&&decide (max (min (ptA p i).Y (ptA p (i+1)).Y) (min (ptA p k).Y (ptA p (k+1)).Y)≤min (max (ptA p i).Y (ptA p (i+1)).Y) (max (ptA p k).Y (ptA p (k+1)).Y)))<;>rfl
     ·rw[zJ (by omega)];rfl
    ·rw[wI,e2,decide_eq_false (by omega)];rfl
   ·rw[wJ,decide_eq_false (by omega)];rfl
  ·have:=hl 0 (by omega)
   rw[show((0:Nat):Int)=0 from rfl]at this;rw[this,Option.bind_some,yf,Option.bind_some];exact congrArg some (jj (by simp[zeh]))
 ·rw[vI (fun h=>hh h.1)]
  by_cases h4:p.length<4
  ·rw[decide_eq_true (show((List.length p:Nat):Int)<4 by omega)];rfl
  ·rw[decide_eq_false (show ¬((List.length p:Nat):Int)<4 by omega),decide_eq_true (show((List.length p:Nat):Int)>60 by omega)];rfl
def t_and:List UInt8:=[97,110,100]
def zzl:List UInt8:=[97,112,97,114,116]
def zEq:List UInt8:=[98,97,115,101]
def t_cap:List UInt8:=[99,97,112]
def zEr:List UInt8:=[101,108,115,101]
def zt8:List UInt8:=[101,120,99,101,112,116]
def zEs:List UInt8:=[102,114,111,109]
def zzm:List UInt8:=[103,114,97,99,101]
def zzn:List UInt8:=[104,111,117,114,115]
def t_if:List UInt8:=[105,102]
def t_in:List UInt8:=[105,110]
def zzo:List UInt8:=[108,101,97,115,116]
def t_not:List UInt8:=[110,111,116]
def t_or:List UInt8:=[111,114]
def zzp:List UInt8:=[112,108,97,110,101]
def zzq:List UInt8:=[115,108,111,112,101]
def t_sun:List UInt8:=[115,117,110]
def zzr:List UInt8:=[116,97,98,108,101]
def zEt:List UInt8:=[116,104,101,110]
def zzs:List UInt8:=[117,110,116,105,108]
def zEu:List UInt8:=[117,115,101,115]
def zEv:List UInt8:=[118,97,114,121]
def zEw:List UInt8:=[118,105,101,119]
def yH:Option Nat→Int
 |some i=>(i:Int)
 |none=>-1
def RES:List (List UInt8):=[t_and,zzl,zEq,t_cap,ZR,zEr,zt8,zEs,zzm,zzn,t_if,t_in,zzo,t_not,t_or,zcn,zzp,zco,zzq,t_sun,zzr,zEt,zzs,zEu,zEv,zEw,zo8]
def yI(s:List UInt8):Bool:=WQ s&&!(decide (s∈RES))
def zg1:List (List UInt8)→List UInt8
 |[]=>[32]
 |w::r=>32::(w++zg1 r)
theorem zt9:∀l,∃t,zg1 l=32::t
 |[]=>⟨[],rfl⟩
 |w::r=>⟨_,rfl⟩
theorem zvy{t:List UInt8}:∀{s w:List UInt8},(∀b∈s,b≠32)→(∀b∈w,b≠32)→(s++[32]).isPrefixOf (w++32::t)=decide (s=w)
 |[],[],_,_=>by simp[List.isPrefixOf]
 |[],b::w,_,h=>by
  have:=h b (List.mem_cons_self ..);simp[List.isPrefixOf,Ne.symm this]
 |a::s,[],h,_=>by
  have:=h a (List.mem_cons_self ..);simp[List.isPrefixOf,this]
 |a::s,b::w,h,h'=>by
  have ih:=zvy (t:=t) (s:=s) (w:=w) (fun x hx=>h x (List.mem_cons_of_mem _ hx)) (fun x hx=>h' x (List.mem_cons_of_mem _ hx));simp only[List.cons_append,List.isPrefixOf,ih];by_cases e:a=b
  ·subst e;simp
  ·simp[e]
theorem zjb{x y:List UInt8}:∀{w:List UInt8},(∀b∈w,b≠32)→ow (w++x) (32::y)=ow x (32::y)
 |[],_=>rfl
 |b::w,h=>by
  have h1:=h b (List.mem_cons_self ..);rw[List.cons_append,ow,zjb fun c hc=>h c (List.mem_cons_of_mem _ hc)];simp[List.isPrefixOf,Ne.symm h1]
theorem zei{s:List UInt8}(hs:∀b∈s,b≠32):∀{l:List (List UInt8)},(∀w∈l,∀b∈w,b≠32)→ow (zg1 l) (32::(s++[32]))=decide (s∈l)
 |[],_=>by cases s<;>simp[zg1,ow,List.isPrefixOf]
 |w::r,h=>by
  obtain⟨t,ht⟩:=zt9 r;have hw:=h w (List.mem_cons_self ..);rw[zg1,ow,zjb hw,zei hs fun x hx=>h x (List.mem_cons_of_mem _ hx)]
  have:(32::(s++[32])).isPrefixOf (32::(w++zg1 r))=decide (s=w):=by
   rw[ht];simp only[List.isPrefixOf,beq_self_eq_true,Bool.true_and];exact zvy hs hw
  rw[this];by_cases e:s=w
  ·simp[e]
  ·simp[e]
theorem zua{c:UInt8}(h:qP c=true):c≠32:=by
 rintro rfl;revert h;decide
theorem zlv{s:List UInt8}(h:WQ s=true):s.all qP=true:=by
 cases s with
 |nil=>cases h
 |cons c r =>
  simp only[WQ,Bool.and_eq_true]at h;simp only[List.all_cons,qP,h.1,Bool.true_or,Bool.true_and];exact h.2.2
theorem zub{s:List UInt8}(h:WQ s=true):s.length≤20∧s≠[]:=by
 cases s with
 |nil=>cases h
 |cons c r =>
  simp only[WQ,Bool.and_eq_true,decide_eq_true_eq]at h;exact⟨h.2.1,by simp⟩
theorem z6{s:List UInt8}(h:0≤s.length):HV s=some (yI s):=by
 unfold HV yI;rw[zEm h,Option.bind_some]
 cases hw:WQ s with
 |false=>rfl
 |true =>
  have h20:=(zub hw).1
  have hs:∀b∈s,b≠32:=fun b hb=>zua (List.all_eq_true.1 (zlv hw) b hb)
  have e:=zei hs (l:=RES) (by decide)
  have e2:zg1 RES=ze:=by decide
  rw[e2]at e;rw[cond_true,zV (by simp[t__];omega),Option.bind_some,zV (by simp[t__];omega),Option.bind_some]
  have:Aq ze ((t__++s)++t__)=some (decide (s∈RES)):=by
   unfold Aq Am;rw[zV (by decide),Option.bind_some,← e];rfl
  rw[this];rfl
def wN(u:Bool):List (List UInt8)→List (List UInt8)→Bool
 |_,[]=>true
 |seen,s::r=>yI s&&(!(u&&decide (s∈seen))&&wN u (seen++[s]) r)
theorem Kv:∀(l seen:List (List UInt8)),wN false seen l=l.all yI
 |[],_=>rfl
 |s::r,seen=>by rw[wN,Kv r,List.all_cons,Bool.false_and,Bool.not_false,Bool.true_and]
theorem YT:∀(l seen:List (List UInt8)),wN true seen l=true→l.all yI=true
 |[],_,_=>rfl
 |s::r,seen,h=>by
  simp only[wN,Bool.and_eq_true]at h;rw[List.all_cons,h.1,YT r _ h.2.2];rfl
def KM(m:List (List UInt8×Bool))(L:List (List UInt8)):Prop:=∀x,(wy x m).getD false=decide (x∈L)
theorem zej{α β:Type}[DecidableEq α](a x:α)(b:β):∀l:List (α×β),wy x (oa a b l)=if x=a then some b else wy x l
 |[]=>by simp[oa,wy]
 |(k,c)::r=>by
  have ih:=zej a x b r;simp only[oa];by_cases h:a=k
  ·rw[if_pos h]
   subst h;by_cases h2:x=a
   ·simp[wy,h2]
   ·simp[wy,h2]
  ·rw[if_neg h]
   simp only[wy,ih];by_cases h2:x=k
   ·subst h2
    simp[Ne.symm h]
   ·simp[h2]
theorem KM.add{m:List (List UInt8×Bool)}{L:List (List UInt8)}(h:KM m L)(s:List UInt8):KM (oa s true m) (L++[s]):=fun x=>by
 rw[zej];by_cases hx:x=s
 ·rw[if_pos hx];simp[hx]
 ·rw[if_neg hx,h x]
  exact vh (by simp[hx])
theorem zqo(u:Bool)(l:List (List UInt8))(hs:l.length<4611686018427387904)(hn:∀s∈l,0≤s.length):
  ∀(r:List (List UInt8))(i K:Nat)(m:List (List UInt8×Bool))(seen:List (List UInt8)),l.drop i=r→i≤l.length→r.length<K→KM m seen →
   jV u l (l.length:Nat) K ((i:Int),m)=some (bif wN u seen r then .inr ()else .inl false)
 |[],i,K,m,seen,hr,hi,hK,hm=>by
  obtain⟨K,rfl⟩:∃k,K=k+1:=⟨K-1,by simp at hK;omega⟩
  have:=drop_nil hr hi;subst this;rw[jV,zZ];rfl
 |x::r,i,K,m,seen,hr,hi,hK,hm=>by
  obtain⟨K,rfl⟩:∃k,K=k+1:=⟨K-1,by simp at hK;omega⟩
  obtain⟨h1,h2,h3⟩:=xT hr;simp only[List.length_cons]at hK;rw[jV,xg h1,cond_true,wN];simp only[zU h1,Option.bind_some,z6 (hn x (List.mem_of_getElem? h1)),hm x]
  cases yI x with
  |false=>rfl
  |true =>
   simp only[Bool.not_true,cond_false,Bool.true_and]
   cases hu:(u&&decide (x∈seen))with
   |true =>
    simp only[Bool.and_eq_true]at hu;rw[hu.1,hu.2];rfl
   |false =>
    have:(bif u then some (decide (x∈seen))else some false)=some false:=by
     cases u
     ·rfl
     ·simpa using hu
    rw[this];simp only[Option.bind_some,cond_false,Bool.not_false,Bool.true_and];rw[zJ (by omega)];exact zqo u l hs hn r (i+1) K _ _ h2 (by omega) (by omega) (hm.add x)
theorem zab{u:Bool}{l:List (List UInt8)}(hs:l.length<4611686018427387904)(hn:∀s∈l,0≤s.length):vr l u=some (wN u [] l):=by
 unfold vr;rw[show(0:Int)=((0:Nat):Int) from rfl,zqo u l hs hn l 0 KK [] [] rfl (Nat.zero_le _) (u9 (by omega)) (fun x=>by simp[wy])];cases wN u [] l<;>rfl
theorem YU{α β:Type}(g:α→β):∀(l:List α)(s:List β),l.foldl (fun s x=>s++[g x]) s=s++l.map g
 |[],s=>by simp
 |x::l,s=>by rw[List.foldl_cons,YU g l];simp
theorem zlw{α τ:Type}(l:List α)(g:α→List UInt8)(L:Nat→(Int×List (List UInt8))→τ)(fin:List (List UInt8)→τ)(hs:l.length≤1000)
  (hL:∀K (i:Nat) x s,l[i]?=some x→List.length s≤1000→L (K+1) ((i:Int),s)=L K (((i+1:Nat):Int),s++[g x])) (hE:∀K s,L (K+1) ((l.length:Int),s)=fin s):L KK (0,[])=fin (l.map g):=by
 have:=(zeg l (fun s x=>s++[g x]) fin (fun i s=>s.length=i∧i≤l.length) (fun K q s=>L K (q,s)) [] (by omega) ⟨rfl,Nat.zero_le _⟩ (fun K i x s h hi=>⟨hL K i x s h (by omega),by have:=yG h;simp;omega⟩) (fun K s _=>hE K s)).1;rw[YU]at this;simpa using this
theorem vD{α:Type}[Inhabited α](l:List α)(g:α→List UInt8)(m:Nat)(L:Nat→(Int×List (List UInt8))→Option (List (List UInt8)))(B:α→Option (List UInt8))(hs:l.length≤1000)(hn:∀x∈l,0≤(g x).length)
  (hL:∀K q,L (K+1) q=(bif (decide (q.1<((List.length l:Nat):Int)))then(idx l q.1).bind fun x1=>(B x1).bind fun x2=>(grd (List.length (q.2++([x2]:List (List UInt8)))*16≤140737488355328)).bind fun _=>L K ((w64 (q.1+1)),(q.2++([x2]:List (List UInt8))))else some q.2))
  (hB:∀x,B x=some (g x)):(L KK (0,[])).bind (fun x1=>(bif (decide (((List.length l:Nat):Int)≤(m:Int)))then(vr x1 true).bind fun x2=>some x2 else some false))=some (decide (l.length≤m)&&wN true [] (l.map g)):=by
 rw[zlw l g L some hs (fun K i x s h h2=>?_) (fun K s=>by rw[hL];simp only[zZ,cond_false]),Option.bind_some,zab (by simp;omega) (fun s h=>?_),zeb _ m rfl]
 ·cases decide (l.length≤m)<;>rfl
 ·obtain⟨x,h1,rfl⟩:=List.mem_map.1 h
  exact hn x h1
 ·have:=yG h
  rw[hL];simp only[xg h,cond_true,zU h,Option.bind_some,hB];rw[zV (by rw[List.length_append,List.length_singleton];omega),Option.bind_some,zJ (by omega)]
-- expressions
def zac(op:Int):Int:=if op≤3 then 0 else if op=9∨op=15 then 1 else if op=16 then 3 else 2
def y5(e:Expr):Bool:=decide (0≤e.Op∧e.Op<17∧((e.Args.length:Nat):Int)=zac e.Op)&&(decide (if e.Op=0 then 0≤e.N∧e.N≤1099511627776 else e.N=0) &&
 ((if e.Op=1∨e.Op=2∨e.Op=3 then yI e.S else decide (e.S=[]))&&(if e.Op=2 then yI e.Key else decide (e.Key=[]))))
def okE:Nat→Expr→Bool
 |0,_=>false
 |d+1,e=>y5 e&&e.Args.all (okE d)
theorem zuc{n:Int}(h0:0≤n)(h1:n<17):n=0∨n=1∨n=2∨n=3∨n=9∨n=15∨n=16∨(¬n=0∧¬n=1∧¬n=2∧¬n=3∧¬n=9∧¬n=15∧¬n=16∧¬n≤3):=by omega
theorem o3{n:Int}:decide ((min (max n 0) 1099511627776)=n)=decide (0≤n∧n≤1099511627776):=vh (by omega)
theorem kZ{s:List UInt8}:decide ([]=s)=decide (s=[]):=vh ⟨Eq.symm,Eq.symm⟩
theorem vi{n:Int}:decide (0=n)=decide (n=0):=vh ⟨Eq.symm,Eq.symm⟩
theorem zEx{n:Int}{s k:List UInt8}{az:List Expr} :y5 ⟨0,n,s,k,az⟩=(decide (((az.length:Nat):Int)=0)&&(decide (0≤n∧n≤1099511627776)&&(decide (s=[])&&decide (k=[])))):=by
 simp[y5,zac]
theorem r_0{RK:Nat}{d n:Int}{s k:List UInt8}{az:List Expr}{r:Bool}(hd:¬d=0)(hS:0≤s.length)(hK:0≤k.length)(h:y5 ⟨0,n,s,k,az⟩=true→yk (zI RK) d az ((List.length az:Nat):Int) KK 0=some (bif r then Sum.inr ()else Sum.inl false)):zI (RK+1) ⟨0,n,s,k,az⟩ d=some (y5 ⟨0,n,s,k,az⟩&&r):=by
 rw[zEx ]at h ⊢;rw[zI];simp only[decide_eq_false hd,o3,kZ,vi,z6 hS,z6 hK,Bool.not_true,Bool.not_false,cond_false,cond_true,Option.bind_some,yj,Int.reduceEq,Int.reduceLT,Int.reduceGE,Int.reduceLE,decide_true,decide_false,ge_iff_le]
 cases ha:decide (((az.length:Nat):Int)=0)<;>cases hb:decide (0≤n∧n≤1099511627776)<;>cases hc:decide (s=[])<;>cases he:decide (k=[])<;>(first|rfl|(rw[ha,hb,hc,he]at h;rw[h rfl];cases r<;>rfl))
theorem zEy{n:Int}{s k:List UInt8}{az:List Expr} :y5 ⟨1,n,s,k,az⟩=(decide (((az.length:Nat):Int)=0)&&(decide (n=0)&&(yI s&&decide (k=[])))):=by
 simp[y5,zac]
theorem r_1{RK:Nat}{d n:Int}{s k:List UInt8}{az:List Expr}{r:Bool}(hd:¬d=0)(hS:0≤s.length)(hK:0≤k.length)(h:y5 ⟨1,n,s,k,az⟩=true→yk (zI RK) d az ((List.length az:Nat):Int) KK 0=some (bif r then Sum.inr ()else Sum.inl false)):zI (RK+1) ⟨1,n,s,k,az⟩ d=some (y5 ⟨1,n,s,k,az⟩&&r):=by
 rw[zEy ]at h ⊢;rw[zI];simp only[decide_eq_false hd,o3,kZ,vi,z6 hS,z6 hK,Bool.not_true,Bool.not_false,cond_false,cond_true,Option.bind_some,yj,Int.reduceEq,Int.reduceLT,Int.reduceGE,Int.reduceLE,decide_true,decide_false,ge_iff_le]
 cases ha:decide (((az.length:Nat):Int)=0)<;>cases hb:decide (n=0)<;>cases hc:yI s<;>cases he:decide (k=[])<;>(first|rfl|(rw[ha,hb,hc,he]at h;rw[h rfl];cases r<;>rfl))
theorem zEz{n:Int}{s k:List UInt8}{az:List Expr} :y5 ⟨2,n,s,k,az⟩=(decide (((az.length:Nat):Int)=0)&&(decide (n=0)&&(yI s&&yI k))):=by
 simp[y5,zac]
theorem r_2{RK:Nat}{d n:Int}{s k:List UInt8}{az:List Expr}{r:Bool}(hd:¬d=0)(hS:0≤s.length)(hK:0≤k.length)(h:y5 ⟨2,n,s,k,az⟩=true→yk (zI RK) d az ((List.length az:Nat):Int) KK 0=some (bif r then Sum.inr ()else Sum.inl false)):zI (RK+1) ⟨2,n,s,k,az⟩ d=some (y5 ⟨2,n,s,k,az⟩&&r):=by
 rw[zEz ]at h ⊢;rw[zI];simp only[decide_eq_false hd,o3,kZ,vi,z6 hS,z6 hK,Bool.not_true,Bool.not_false,cond_false,cond_true,Option.bind_some,yj,Int.reduceEq,Int.reduceLT,Int.reduceGE,Int.reduceLE,decide_true,decide_false,ge_iff_le]
 cases he:yI k with
 |false=>simp only[Bool.and_false,Bool.false_and];rfl
 |true =>
  simp only[Bool.not_true,cond_false,Option.bind_some,yj,vi,decide_true]
  cases ha:decide (((az.length:Nat):Int)=0)<;>cases hb:decide (n=0)<;>cases hc:yI s<;>(first|rfl|(rw[ha,hb,hc,he]at h;rw[h rfl];cases r<;>rfl))
theorem zE0{n:Int}{s k:List UInt8}{az:List Expr} :y5 ⟨3,n,s,k,az⟩=(decide (((az.length:Nat):Int)=0)&&(decide (n=0)&&(yI s&&decide (k=[])))):=by
 simp[y5,zac]
theorem r_3{RK:Nat}{d n:Int}{s k:List UInt8}{az:List Expr}{r:Bool}(hd:¬d=0)(hS:0≤s.length)(hK:0≤k.length)(h:y5 ⟨3,n,s,k,az⟩=true→yk (zI RK) d az ((List.length az:Nat):Int) KK 0=some (bif r then Sum.inr ()else Sum.inl false)):zI (RK+1) ⟨3,n,s,k,az⟩ d=some (y5 ⟨3,n,s,k,az⟩&&r):=by
 rw[zE0 ]at h ⊢;rw[zI];simp only[decide_eq_false hd,o3,kZ,vi,z6 hS,z6 hK,Bool.not_true,Bool.not_false,cond_false,cond_true,Option.bind_some,yj,Int.reduceEq,Int.reduceLT,Int.reduceGE,Int.reduceLE,decide_true,decide_false,ge_iff_le]
 cases ha:decide (((az.length:Nat):Int)=0)<;>cases hb:decide (n=0)<;>cases hc:yI s<;>cases he:decide (k=[])<;>(first|rfl|(rw[ha,hb,hc,he]at h;rw[h rfl];cases r<;>rfl))
theorem zE1{n:Int}{s k:List UInt8}{az:List Expr} :y5 ⟨9,n,s,k,az⟩=(decide (((az.length:Nat):Int)=1)&&(decide (n=0)&&(decide (s=[])&&decide (k=[])))):=by
 simp[y5,zac]
theorem r_9{RK:Nat}{d n:Int}{s k:List UInt8}{az:List Expr}{r:Bool}(hd:¬d=0)(hS:0≤s.length)(hK:0≤k.length)(h:y5 ⟨9,n,s,k,az⟩=true→yk (zI RK) d az ((List.length az:Nat):Int) KK 0=some (bif r then Sum.inr ()else Sum.inl false)):zI (RK+1) ⟨9,n,s,k,az⟩ d=some (y5 ⟨9,n,s,k,az⟩&&r):=by
 rw[zE1 ]at h ⊢;rw[zI];simp only[decide_eq_false hd,o3,kZ,vi,z6 hS,z6 hK,Bool.not_true,Bool.not_false,cond_false,cond_true,Option.bind_some,yj,Int.reduceEq,Int.reduceLT,Int.reduceGE,Int.reduceLE,decide_true,decide_false,ge_iff_le]
 cases ha:decide (((az.length:Nat):Int)=1)<;>cases hb:decide (n=0)<;>cases hc:decide (s=[])<;>cases he:decide (k=[])<;>(first|rfl|(rw[ha,hb,hc,he]at h;rw[h rfl];cases r<;>rfl))
theorem zzt{n:Int}{s k:List UInt8}{az:List Expr} :y5 ⟨15,n,s,k,az⟩=(decide (((az.length:Nat):Int)=1)&&(decide (n=0)&&(decide (s=[])&&decide (k=[])))):=by
 simp[y5,zac]
theorem r_15{RK:Nat}{d n:Int}{s k:List UInt8}{az:List Expr}{r:Bool}(hd:¬d=0)(hS:0≤s.length)(hK:0≤k.length)(h:y5 ⟨15,n,s,k,az⟩=true→yk (zI RK) d az ((List.length az:Nat):Int) KK 0=some (bif r then Sum.inr ()else Sum.inl false)):zI (RK+1) ⟨15,n,s,k,az⟩ d=some (y5 ⟨15,n,s,k,az⟩&&r):=by
 rw[zzt ]at h ⊢;rw[zI];simp only[decide_eq_false hd,o3,kZ,vi,z6 hS,z6 hK,Bool.not_true,Bool.not_false,cond_false,cond_true,Option.bind_some,yj,Int.reduceEq,Int.reduceLT,Int.reduceGE,Int.reduceLE,decide_true,decide_false,ge_iff_le]
 cases ha:decide (((az.length:Nat):Int)=1)<;>cases hb:decide (n=0)<;>cases hc:decide (s=[])<;>cases he:decide (k=[])<;>(first|rfl|(rw[ha,hb,hc,he]at h;rw[h rfl];cases r<;>rfl))
theorem zzu{n:Int}{s k:List UInt8}{az:List Expr} :y5 ⟨16,n,s,k,az⟩=(decide (((az.length:Nat):Int)=3)&&(decide (n=0)&&(decide (s=[])&&decide (k=[])))):=by
 simp[y5,zac]
theorem r_16{RK:Nat}{d n:Int}{s k:List UInt8}{az:List Expr}{r:Bool}(hd:¬d=0)(hS:0≤s.length)(hK:0≤k.length)(h:y5 ⟨16,n,s,k,az⟩=true→yk (zI RK) d az ((List.length az:Nat):Int) KK 0=some (bif r then Sum.inr ()else Sum.inl false)):zI (RK+1) ⟨16,n,s,k,az⟩ d=some (y5 ⟨16,n,s,k,az⟩&&r):=by
 rw[zzu ]at h ⊢;rw[zI];simp only[decide_eq_false hd,o3,kZ,vi,z6 hS,z6 hK,Bool.not_true,Bool.not_false,cond_false,cond_true,Option.bind_some,yj,Int.reduceEq,Int.reduceLT,Int.reduceGE,Int.reduceLE,decide_true,decide_false,ge_iff_le]
 cases ha:decide (((az.length:Nat):Int)=3)<;>cases hb:decide (n=0)<;>cases hc:decide (s=[])<;>cases he:decide (k=[])<;>(first|rfl|(rw[ha,hb,hc,he]at h;rw[h rfl];cases r<;>rfl))
theorem zE2{op n:Int}{s k:List UInt8}{az:List Expr}(hlo:0≤op)(hhi:op<17)(h0:¬op=0)(h1:¬op=1)(h2:¬op=2)(h3:¬op=3)(h9:¬op=9)(h15:¬op=15)(h16:¬op=16)(h3l:¬op≤3):y5 ⟨op,n,s,k,az⟩=(decide (((az.length:Nat):Int)=2)&&(decide (n=0)&&(decide (s=[])&&decide (k=[])))):=by
 simp[y5,zac,h0,h1,h2,h3,h9,h15,h16,h3l,hlo,hhi]
theorem r_b{RK:Nat}{op d n:Int}{s k:List UInt8}{az:List Expr}{r:Bool}(hlo:0≤op)(hhi:op<17)(h0:¬op=0)(h1:¬op=1)(h2:¬op=2)(h3:¬op=3)(h9:¬op=9)(h15:¬op=15)(h16:¬op=16)(h3l:¬op≤3)(hd:¬d=0)(hS:0≤s.length)(hK:0≤k.length)(h:y5 ⟨op,n,s,k,az⟩=true→yk (zI RK) d az ((List.length az:Nat):Int) KK 0=some (bif r then Sum.inr ()else Sum.inl false)):zI (RK+1) ⟨op,n,s,k,az⟩ d=some (y5 ⟨op,n,s,k,az⟩&&r):=by
 rw[zE2 hlo hhi h0 h1 h2 h3 h9 h15 h16 h3l]at h ⊢;rw[zI];simp only[decide_eq_false h0,decide_eq_false h1,decide_eq_false h2,decide_eq_false h3,decide_eq_false h9,decide_eq_false h15,decide_eq_false h16,decide_eq_false h3l,decide_eq_false (Int.not_lt.2 hlo),decide_eq_false (Int.not_le.2 hhi),decide_eq_false hd,o3,kZ,vi,z6 hS,z6 hK,Bool.not_true,Bool.not_false,cond_false,cond_true,Option.bind_some,yj,Int.reduceEq,Int.reduceLT,Int.reduceGE,Int.reduceLE,decide_true,decide_false,ge_iff_le]
 cases ha:decide (((az.length:Nat):Int)=2)<;>cases hb:decide (n=0)<;>cases hc:decide (s=[])<;>cases he:decide (k=[])<;>(first|rfl|(rw[ha,hb,hc,he]at h;rw[h rfl];cases r<;>rfl))
theorem zE3{RK:Nat}{d:Int}{e:Expr}{r:Bool}(hd:¬d=0)(hS:0≤e.S.length)(hK:0≤e.Key.length)(h:y5 e=true→yk (zI RK) d e.Args ((List.length e.Args:Nat):Int) KK 0=some (bif r then Sum.inr ()else Sum.inl false)):zI (RK+1) e d=some (y5 e&&r):=by
 obtain⟨op,n,s,k,az⟩:=e;by_cases hlo:0≤op
 ·by_cases hhi:op<17
  ·obtain rfl|rfl|rfl|rfl|rfl|rfl|rfl|⟨h0,h1,h2,h3,h9,h15,h16,h3l⟩:=zuc hlo hhi
   ·exact r_0 hd hS hK h
   ·exact r_1 hd hS hK h
   ·exact r_2 hd hS hK h
   ·exact r_3 hd hS hK h
   ·exact r_9 hd hS hK h
   ·exact r_15 hd hS hK h
   ·exact r_16 hd hS hK h
   ·exact r_b hlo hhi h0 h1 h2 h3 h9 h15 h16 h3l hd hS hK h
  ·have:y5 ⟨op,n,s,k,az⟩=false:=by simp[y5,hhi]
   rw[this,zI];simp only[decide_eq_false hd,decide_eq_false (show ¬op<0 by omega),decide_eq_true (show op≥17 by omega)];rfl
 ·have:y5 ⟨op,n,s,k,az⟩=false:=by simp[y5,hlo]
  rw[this,zI];simp only[decide_eq_false hd,decide_eq_true (show op<0 by omega)];rfl
theorem zzv{e:Expr}(h:uT e=true):0≤e.S.length∧0≤e.Key.length:=by
 obtain⟨op,n,s,k,az⟩:=e;rw[uT]at h;simp only[Bool.and_eq_true,decide_eq_true_eq]at h;exact h.2
theorem zlx{e x:Expr}(h:uT e=true)(hx:x∈e.Args):uT x=true:=by
 obtain⟨op,n,s,k,az⟩:=e;rw[uT,YS]at h;simp only[Bool.and_eq_true]at h;exact List.all_eq_true.1 h.1 x hx
theorem zud{e:Expr}{n:Nat}(h:K2 e≤n):e.Args.length<n:=by
 obtain⟨op,m,s,k,az⟩:=e;rw[K2]at h;have:=Qr az
 show az.length<n
 omega
theorem zue{e x:Expr}{n:Nat}(h:K2 e≤n)(hx:x∈e.Args):K2 x≤n:=by
 obtain⟨op,m,s,k,az⟩:=e;rw[K2]at h;have:=Qs (show x∈az from hx);omega
theorem zuf:∀(d:Nat)(e:Expr)(K:Nat),d<K→d≤1000→K2 e≤5000→uT e=true→zI K e (d:Int)=some (okE d e):=by
 intro d
 induction d with
 |zero =>
  intro e K hK _ _ _
  obtain⟨K,rfl⟩:∃k,K=k+1:=⟨K-1,by omega⟩
  rw[zI];rfl
 |succ d ih =>
  intro e K hK hd hn hs
  obtain⟨K,rfl⟩:∃k,K=k+1:=⟨K-1,by omega⟩
  have h1:=zzv hs;have hz:=zud hn;rw[okE]
  refine zE3 (by omega) (by omega) (by omega) fun _=>?_
  refine Z9 e.Args (okE d) _ (fun q=>(idx e.Args q).bind fun x1=>(zI K (Expr.mk x1.Op x1.N x1.S x1.Key x1.Args) (w64 (((d+1:Nat):Int)-1))).bind fun x2=>some (!x2)) (by omega) (fun K q=>?_) fun i x hx=>?_
  ·rw[yk]
   simp only[Option.bind_assoc,Option.bind_some]
  ·have hx':=List.mem_of_getElem? hx
   rw[zU hx,Option.bind_some,zy,Kt (by omega) (by omega),show(((d+1:Nat):Int)-1)=(d:Int) by omega,ih x K (by omega) (by omega) (zue hn hx') (zlx hs hx')];rfl
theorem zad{e:Expr}(h:zaa e=true):K2 e≤5000∧uT e=true:=by
 unfold zaa at h;simp only[Bool.and_eq_true,decide_eq_true_eq]at h;exact h
theorem Kw{e:Expr}(h:zaa e=true):vt e=some (okE 12 e):=by
 unfold vt;obtain⟨h1,h2⟩:=zad h;rw[zy,show(12:Int)=((12:Nat):Int) from rfl,zuf 12 e KK (u9 (by omega)) (by omega) (by omega) h2];rfl
theorem V6{a b:Int}{l:List Int}(h:l.length<1000):zx a b l=some (l.all fun n=>decide (a≤n)&&decide (n≤b)):=by
 unfold zx;rw[Z9 l (fun n=>decide (a≤n)&&decide (n≤b)) (ku a b l (List.length l:Nat)) (fun q=>(idx l q).bind fun x1=>(bif (decide (x1<a))then some true else some (decide (x1>b)))) (by omega) (fun K q=>?_) fun i x hx=>?_]
 ·cases l.all fun n=>decide (a≤n)&&decide (n≤b)<;>rfl
 ·rw[ku]
  simp only[Option.bind_assoc]
 ·rw[zU hx,Option.bind_some]
  by_cases h1:a≤x
  ·rw[decide_eq_false (show ¬x<a by omega),decide_eq_true h1,cond_false,Bool.true_and]
   by_cases h2:x≤b
   ·rw[decide_eq_true h2,decide_eq_false (show ¬x>b by omega)];rfl
   ·rw[decide_eq_false h2,decide_eq_true (show x>b by omega)];rfl
  ·rw[decide_eq_true (show x<a by omega),decide_eq_false h1];rfl
theorem kG{a b x:Int}:zx a b [x]=some (pd (a≤x∧x≤b)):=by
 rw[V6 (by simp)];exact congrArg some (jj (by simp))
theorem J3{a b x y:Int}:zx a b [x,y]=some (pd ((a≤x∧x≤b)∧(a≤y∧y≤b))):=by
 rw[V6 (by simp)];exact congrArg some (jj (by simp))
theorem zzw{a b x y z:Int}:zx a b [x,y,z]=some (pd ((a≤x∧x≤b)∧(a≤y∧y≤b)∧(a≤z∧z≤b))):=by
 rw[V6 (by simp)];exact congrArg some (jj (by simp))
def jN:Expr:=⟨0,0,[],[],[]⟩
def V7(r:zb):Prop :=
 (0≤r.Kind∧r.Kind≤3)∧(r.Kind=0→okE 12 r.Test=true)∧(¬r.Kind=0→r.Test=jN) ∧
 (r.Kind=1→(0≤r.zg.Side∧r.zg.Side≤3)∧(0≤r.zg.Base∧r.zg.Base≤4096)∧(0≤r.zg.Num∧r.zg.Num≤4096)∧(1≤r.zg.Den∧r.zg.Den≤4096))∧(¬r.Kind=1→r.zg=⟨0,0,0,0⟩) ∧
 (r.Kind=2→1≤r.Uses∧r.Uses≤63)∧(r.Kind=3→(0≤r.Uses∧r.Uses≤5)∧(0≤r.Other∧r.Other≤5)∧(0≤r.N∧r.N≤1048576)) ∧
 (¬r.Kind=2→¬r.Kind=3→r.Uses=0)∧(¬r.Kind=3→r.Other=0∧r.N=0)
def zE4(r:zb):Prop:=(0≤r.From∧r.From≤1073741824)∧(0≤r.Grace∧r.Grace≤1073741824)∧(0≤r.Until∧r.Until≤1073741824)∧(r.Until=0∨r.From<r.Until)
def K3(r:zb):Prop:=((r.Zones.all yI=true∧r.Except.all yI=true)∧zE4 r)∧V7 r
theorem zek{l:List (List UInt8)}(h:zEn l=true):l.length≤3000∧∀s∈l,0≤s.length:=by
 unfold zEn at h;simp only[Bool.and_eq_true,decide_eq_true_eq,List.all_eq_true]at h;exact⟨h.2,h.1⟩
theorem Qu{r:zb}(h:zex r=true):0≤r.Name.length∧(r.Zones.length≤3000∧∀s∈r.Zones,0≤s.length)∧(r.Except.length≤3000∧∀s∈r.Except,0≤s.length)∧zaa r.Test=true:=by
 unfold zex at h;simp only[Bool.and_eq_true,decide_eq_true_eq]at h;exact⟨h.1,zek h.2.1,zek h.2.2.1,h.2.2.2⟩
theorem qR{e:Expr}(h:zaa e=true):qQ e:=by
 have:=(zad h).1;unfold qQ;omega
theorem zqp{A B C:Bool}{un fr:Int}:((bif (!A)then some true else(bif (!B)then some true else(bif (!C)then some true else(bif (!(decide (un=0)))then some (decide (un≤fr))else some false)))):Option Bool)=some (!(A&&(B&&(C&&pd (un=0∨fr<un))))):=by
 have:pd (un=0∨fr<un)=(decide (un=0)||decide (fr<un)):=(jj (by simp)).symm;rw[this]
 have lt:decide (un≤fr)=!(decide (fr<un)):=by
  by_cases h:un≤fr
  ·rw[decide_eq_true h,decide_eq_false (by omega)];rfl
  ·rw[decide_eq_false h,decide_eq_true (by omega)];rfl
 rw[lt];cases A<;>cases B<;>cases C<;>cases decide (un=0)<;>rfl
theorem vj{p:Prop}(h:p):pd p=true:=xV.2 h
theorem zqq{r:zb}(h:zex r=true):kv r=some (pd (K3 r)):=by
 obtain⟨_,⟨z1,z2⟩,⟨x1,x2⟩,te⟩:=Qu h;obtain⟨nm,zs,ex,fr,un,gr,va,ki,t,⟨ps,pb,pn,pdn⟩,us,ot,n⟩:=r;simp only at z1 z2 x1 x2 te;have n1:=zab (u:=false) (l:=zs) (by omega) (fun s hs=>by have:=z2 s hs;omega);have n2:=zab (u:=false) (l:=ex) (by omega) (fun s hs=>by have:=x2 s hs;omega);rw[Kv]at n1 n2
 have sm:∀x,vw ⟨nm,zs,ex,fr,un,gr,va,ki,t,⟨ps,pb,pn,pdn⟩,us,ot,n⟩ x=some (pd ((⟨nm,zs,ex,fr,un,gr,va,ki,t,⟨ps,pb,pn,pdn⟩,us,ot,n⟩:zb)=x)):=fun x=>zee (a:=⟨nm,zs,ex,fr,un,gr,va,ki,t,⟨ps,pb,pn,pdn⟩,us,ot,n⟩) (by show zs.length<_;omega) (by show ex.length<_;omega) (qR te)
 have hp:pd (K3 ⟨nm,zs,ex,fr,un,gr,va,ki,t,⟨ps,pb,pn,pdn⟩,us,ot,n⟩)=((zs.all yI&&(ex.all yI&&(pd ((0≤fr∧fr≤1073741824)∧(0≤gr∧gr≤1073741824)∧(0≤un∧un≤1073741824))&&pd (un=0∨fr<un))))&&pd (V7 ⟨nm,zs,ex,fr,un,gr,va,ki,t,⟨ps,pb,pn,pdn⟩,us,ot,n⟩)):=by
  refine(jj ?_).symm;simp only[Bool.and_eq_true,xV,K3,zE4];constructor
  ·rintro⟨⟨a,b,⟨c,d,e⟩,f⟩,g⟩;exact⟨⟨⟨a,b⟩,c,d,e,f⟩,g⟩
  ·rintro⟨⟨⟨a,b⟩,c,d,e,f⟩,g⟩;exact⟨⟨a,b,⟨c,d,e⟩,f⟩,g⟩
 rw[hp];unfold kv;simp only[n1,n2,zzw,Option.bind_some];rw[zqp,Option.bind_some];cases hh:(zs.all yI&&(ex.all yI&&(pd ((0≤fr∧fr≤1073741824)∧(0≤gr∧gr≤1073741824)∧(0≤un∧un≤1073741824))&&pd (un=0∨fr<un))))
 ·rfl
 simp only[Bool.not_true,cond_false,Bool.true_and];by_cases k0:ki=0
 ·subst k0
  simp only[decide_true,cond_true,zy,Kw te,Option.bind_some]
  have hb:pd (V7 ⟨nm,zs,ex,fr,un,gr,va,0,t,⟨ps,pb,pn,pdn⟩,us,ot,n⟩)=(okE 12 t&&pd ((⟨nm,zs,ex,fr,un,gr,va,0,t,⟨ps,pb,pn,pdn⟩,us,ot,n⟩:zb)=⟨nm,zs,ex,fr,un,gr,va,0,t,⟨0,0,0,0⟩,0,0,0⟩)):=by
   refine(jj ?_).symm;simp only[Bool.and_eq_true,xV,V7,zb.mk.injEq,zg.mk.injEq];simp
  rw[hb,sm];cases okE 12 t<;>rfl
 ·by_cases k1:ki=1
  ·subst k1
   simp only[decide_eq_false k0,decide_true,cond_true,cond_false,zy,kG,J3,Option.bind_some]
   have hb:pd (V7 ⟨nm,zs,ex,fr,un,gr,va,1,t,⟨ps,pb,pn,pdn⟩,us,ot,n⟩)=(pd (0≤ps∧ps≤3)&&(pd ((0≤pb∧pb≤4096)∧(0≤pn∧pn≤4096))&&(pd (1≤pdn∧pdn≤4096)&&pd ((⟨nm,zs,ex,fr,un,gr,va,1,t,⟨ps,pb,pn,pdn⟩,us,ot,n⟩:zb)=⟨nm,zs,ex,fr,un,gr,va,1,⟨0,0,[],[],[]⟩,⟨ps,pb,pn,pdn⟩,0,0,0⟩)))):=by
    refine(jj ?_).symm;simp only[Bool.and_eq_true,xV,V7,zb.mk.injEq,zg.mk.injEq,jN];simp
    grind
   rw[hb];cases pd (0≤ps∧ps≤3)
   ·rfl
   cases pd ((0≤pb∧pb≤4096)∧(0≤pn∧pn≤4096))
   ·rfl
   cases pd (1≤pdn∧pdn≤4096)
   ·rfl
   simp only[cond_true,Option.bind_some,sm,Bool.true_and]
  ·by_cases k2:ki=2
   ·subst k2
    simp only[decide_eq_false k0,decide_eq_false k1,decide_true,cond_true,cond_false,zy,kG,J3,Option.bind_some]
    have hb:pd (V7 ⟨nm,zs,ex,fr,un,gr,va,2,t,⟨ps,pb,pn,pdn⟩,us,ot,n⟩)=(pd (1≤us∧us≤63)&&pd ((⟨nm,zs,ex,fr,un,gr,va,2,t,⟨ps,pb,pn,pdn⟩,us,ot,n⟩:zb)=⟨nm,zs,ex,fr,un,gr,va,2,⟨0,0,[],[],[]⟩,⟨0,0,0,0⟩,us,0,0⟩)):=by
     refine(jj ?_).symm;simp only[Bool.and_eq_true,xV,V7,zb.mk.injEq,zg.mk.injEq,jN];simp
     grind
    rw[hb];cases pd (1≤us∧us≤63)
    ·rfl
    simp only[cond_true,Option.bind_some,sm,Bool.true_and]
   ·by_cases k3:ki=3
    ·subst k3
     simp only[decide_eq_false k0,decide_eq_false k1,decide_eq_false k2,decide_true,cond_true,cond_false,zy,kG,J3,Option.bind_some]
     have hb:pd (V7 ⟨nm,zs,ex,fr,un,gr,va,3,t,⟨ps,pb,pn,pdn⟩,us,ot,n⟩)=(pd ((0≤us∧us≤5)∧(0≤ot∧ot≤5))&&(pd (0≤n∧n≤1048576)&&pd ((⟨nm,zs,ex,fr,un,gr,va,3,t,⟨ps,pb,pn,pdn⟩,us,ot,n⟩:zb)=⟨nm,zs,ex,fr,un,gr,va,3,⟨0,0,[],[],[]⟩,⟨0,0,0,0⟩,us,ot,n⟩))):=by
      refine(jj ?_).symm;simp only[Bool.and_eq_true,xV,V7,zb.mk.injEq,zg.mk.injEq,jN];simp
      grind
     rw[hb];cases pd ((0≤us∧us≤5)∧(0≤ot∧ot≤5))
     ·rfl
     cases pd (0≤n∧n≤1048576)
     ·rfl
     simp only[cond_true,Option.bind_some,sm,Bool.true_and]
    ·simp only[decide_eq_false k0,decide_eq_false k1,decide_eq_false k2,decide_eq_false k3,cond_false,Option.bind_some]
     have hb:pd (V7 ⟨nm,zs,ex,fr,un,gr,va,ki,t,⟨ps,pb,pn,pdn⟩,us,ot,n⟩)=false:=by
      refine(jj (b:=false) ⟨fun h=>(by cases h),fun h=>?_⟩).symm;obtain⟨⟨h1,h2⟩,_⟩:=h;simp only at h1 h2;omega
     rw[hb]
theorem vE{α:Type}(l:List α)(P:α→Prop)(L:Nat→Int→Option (Bool⊕Unit))(B:Int→Option Bool)(hs:l.length<4611686018427387904)
  (hL:∀K q,L (K+1) q=(bif (decide (q<((List.length l:Nat):Int)))then(B q).bind fun r=>(bif r then some (Sum.inl false)else L K (w64 (q+1)))else some (Sum.inr ())))
  (hB:∀(i:Nat) x,l[i]?=some x→B (i:Int)=some (!(pd (P x)))):L KK 0=some (bif pd (∀x∈l,P x)then Sum.inr ()else Sum.inl false):=by
 rw[Z9 l (fun x=>pd (P x)) L B (by omega) hL hB];have:l.all (fun x=>pd (P x))=pd (∀x∈l,P x):=jj (by simp only[List.all_eq_true,xV]);rw[this]
def zel(p:zj):Prop:=(0≤p.X∧p.X≤1048576)∧(0≤p.Y∧p.Y≤1048576)∧(0≤p.Z_∧p.Z_≤4096)
def zF3(p:zj):Prop:=(-4096≤p.X∧p.X≤4096)∧(-4096≤p.Y∧p.Y≤4096)∧(1≤p.Z_∧p.Z_≤4096)
def o5(t:Table):Prop:=(t.Rows.length≤60∧wN true [] (t.Rows.map Entry.Name)=true)∧(-1099511627776≤t.Else∧t.Else≤1099511627776)∧∀x∈t.Rows,-1099511627776≤x.N∧x.N≤1099511627776
def zAt(c:Cap):Prop:=(0≤c.Load∧c.Load≤2)∧(0≤c.Limit∧c.Limit≤1099511627776)∧WR c.Corners
def zem(v:View):Prop:=(0≤v.Least∧v.Least≤20)∧(1≤((v.Targets.length:Nat):Int)∧((v.Targets.length:Nat):Int)≤20)∧zel v.Eye∧∀x∈v.Targets,zel x
def yp{α:Type}(l:List α)(g:α→List UInt8)(m:Nat):Prop:=l.length≤m∧wN true [] (l.map g)=true
def zae(p:zu):Prop:=(∀d∈p.Defs,okE 12 d.Body=true)∧(∀t∈p.Tables,o5 t)∧(∀z∈p.Zones,WR z.Corners)∧(∀r∈p.Rules,K3 r)∧(∀c∈p.Caps,zAt c)∧(∀v∈p.Views,zem v)∧(∀d∈p.Sun,zF3 d)
def wO(p:zu):Prop :=
 (yp p.Defs Def.Name 60∧yp p.Tables Table.Name 60∧yp p.Zones zm.Name 60∧yp p.Rules zb.Name 200∧yp p.Caps Cap.Name 30∧yp p.Views View.Name 60)∧zae p∧(0≤p.Hours∧p.Hours≤24)∧p.Sun.length≤24
theorem Hi{α:Type}{l:List α}{g:α→List UInt8}{m:Nat}:(decide (l.length≤m)&&wN true [] (l.map g))=pd (yp l g m):=jj (by simp[yp])
theorem zzx{l:List Def}(hs:l.length≤1000)(hn:∀x∈l,0≤x.Name.length):Qi l 60=some (pd (yp l Def.Name 60)):=by
 rw[← Hi];unfold Qi
 exact vD l Def.Name 60 (ui l 60 (List.length l:Nat)) (fun x=>some x.Name) hs hn (fun K q=>rfl) fun x=>rfl
theorem zzy{l:List Table}(hs:l.length≤1000)(hn:∀x∈l,0≤x.Name.length):Ar l 60=some (pd (yp l Table.Name 60)):=by
 rw[← Hi];unfold Ar
 exact vD l Table.Name 60 (jH l 60 (List.length l:Nat)) (fun x=>some x.Name) hs hn (fun K q=>rfl) fun x=>rfl
theorem zzz{l:List zm}(hs:l.length≤1000)(hn:∀x∈l,0≤x.Name.length):As l 60=some (pd (yp l zm.Name 60)):=by
 rw[← Hi];unfold As
 exact vD l zm.Name 60 (jI l 60 (List.length l:Nat)) (fun x=>some x.Name) hs hn (fun K q=>rfl) fun x=>rfl
theorem zz0{l:List zb}(hs:l.length≤1000)(hn:∀x∈l,0≤x.Name.length):At l 200=some (pd (yp l zb.Name 200)):=by
 rw[← Hi];unfold At
 exact vD l zb.Name 200 (jJ l 200 (List.length l:Nat)) (fun x=>some x.Name) hs hn (fun K q=>rfl) fun x=>rfl
theorem zz1{l:List Cap}(hs:l.length≤1000)(hn:∀x∈l,0≤x.Name.length):Au l 30=some (pd (yp l Cap.Name 30)):=by
 rw[← Hi];unfold Au
 exact vD l Cap.Name 30 (jK l 30 (List.length l:Nat)) (fun x=>some x.Name) hs hn (fun K q=>rfl) fun x=>rfl
theorem zz2{l:List View}(hs:l.length≤1000)(hn:∀x∈l,0≤x.Name.length):Av l 60=some (pd (yp l View.Name 60)):=by
 rw[← Hi];unfold Av
 exact vD l View.Name 60 (jL l 60 (List.length l:Nat)) (fun x=>some x.Name) hs hn (fun K q=>rfl) fun x=>rfl
theorem zz3{l:List Entry}(hs:l.length≤1000)(hn:∀x∈l,0≤x.Name.length):Aw l 60=some (pd (yp l Entry.Name 60)):=by
 rw[← Hi];unfold Aw
 exact vD l Entry.Name 60 (jM l 60 (List.length l:Nat)) (fun x=>some x.Name) hs hn (fun K q=>rfl) fun x=>rfl
structure zey(p:zu):Prop where
 d:p.Defs.length≤300
 t:p.Tables.length≤300
 z:p.Zones.length≤300
 r:p.Rules.length≤300
 c:p.Caps.length≤300
 v:p.Views.length≤300
 s:p.Sun.length≤64
 ds:∀x∈p.Defs,0≤x.Name.length∧zaa x.Body=true
 ts:∀x∈p.Tables,0≤x.Name.length∧x.Rows.length≤64∧∀y∈x.Rows,0≤y.Name.length
 zs:∀x∈p.Zones,0≤x.Name.length∧x.Corners.length≤64
 rs:∀x∈p.Rules,zex x=true
 cs:∀x∈p.Caps,0≤x.Name.length∧x.Corners.length≤64
 vs:∀x∈p.Views,0≤x.Name.length∧x.Targets.length≤64
theorem o6{o:Option Bool}{f:Option Bool}{g r:Prop}(h:o=some (pd g))(hr:g→f=some (!(pd r))):(o.bind fun x=>bif (!x)then some true else f)=some (!(pd (g∧r))):=by
 rw[xv]
 exact zt4 h fun hg=>hr (xV.1 hg)
theorem vJ{o:Option Bool}{g:Prop}(h:o=some (pd g)):(o.bind fun x=>some (!x))=some (!(pd g)):=by rw[h];rfl
theorem pdb{b:Bool}:some b=some (pd (b=true)):=congrArg some (jj Iff.rfl)
section code
variable{c0:List Def}{c1:Int}{c2:List Table}{c3:List zm}{c4:List zb}{c5:List Cap}{c6:List View}{c7:List zj}{c8:Int}
theorem Rt_L1(hl:c0.length≤300)(h:∀x∈c0,0≤x.Name.length∧zaa x.Body=true):jW c0 (List.length c0:Nat) c2 c3 c4 c5 c6 c7 c8 KK 0=some (bif pd (∀d∈c0,okE 12 d.Body=true)then .inr ()else .inl false):=by
 refine vE c0 (fun d=>okE 12 d.Body=true) (jW c0 (List.length c0:Nat) c2 c3 c4 c5 c6 c7 c8) (fun q=>(idx c0 q).bind fun x1=>(vt (Expr.mk x1.Body.Op x1.Body.N x1.Body.S x1.Body.Key x1.Body.Args)).bind fun x2=>some (!x2)) (by omega) (fun K q=>?_) fun i x hx=>?_
 ·rw[jW]
  simp only[Option.bind_assoc,Option.bind_some]
 ·rw[zU hx,Option.bind_some,zy]
  exact vJ ((Kw (h x (List.mem_of_getElem? hx)).2).trans pdb)
theorem Rt_L2{c0:List Table}{c2:List Def}(hl:c0.length≤300)(h:∀x∈c0,0≤x.Name.length∧x.Rows.length≤64∧∀y∈x.Rows,0≤y.Name.length):vx c0 (List.length c0:Nat) c2 c3 c4 c5 c6 c7 c8 KK 0=some (bif pd (∀d∈c0,o5 d)then .inr ()else .inl false):=by
 have key:=Qt c0 (fun x=>pd (o5 x)) (some (Sum.inr ())) (some (Sum.inl false)) (vx c0 (List.length c0:Nat) c2 c3 c4 c5 c6 c7 c8) (by omega) (fun K i x hx=>?_) (fun K=>by rw[vx,zZ];rfl)
 ·have:c0.all (fun x=>pd (o5 x))=pd (∀x∈c0,o5 x):=jj (by simp only[List.all_eq_true,xV])
  rw[key,this];cases pd (∀x∈c0,o5 x)<;>rfl
 ·have hi:=yG hx
  obtain⟨_,h2,h3⟩:=h x (List.mem_of_getElem? hx);rw[vx,xg hx,cond_true,zU hx,Option.bind_some,zJ (by omega)];rw[o6 (zz3 (l:=x.Rows) (by omega) (fun y hy=>by have:=h3 y hy;omega)) (fun _=>vJ kG),Option.bind_some]
  have hp:pd (o5 x)=(pd (yp x.Rows Entry.Name 60∧-1099511627776≤x.Else∧x.Else≤1099511627776)&&pd (∀y∈x.Rows,-1099511627776≤y.N∧y.N≤1099511627776)):=by
   rw[← xv];exact xU ⟨fun⟨a,b,c⟩=>⟨⟨a,b⟩,c⟩,fun⟨⟨a,b⟩,c⟩=>⟨a,b,c⟩⟩
  simp only[hp];cases pd (yp x.Rows Entry.Name 60∧-1099511627776≤x.Else∧x.Else≤1099511627776)
  ·rfl
  rw[Bool.not_true,cond_false,Bool.true_and];rw[vE x.Rows (fun y=>-1099511627776≤y.N∧y.N≤1099511627776) (qx c0 (List.length c0:Nat) (i:Int) x.Rows (List.length x.Rows:Nat) c2 c3 c4 c5 c6 c7 c8) (fun q=>(idx x.Rows q).bind fun x1=>(zx (-1099511627776) 1099511627776 ([x1.N]:List Int)).bind fun x2=>some (!x2)) (by omega) (fun K q=>?_) fun j y hy=>?_]
  ·cases pd (∀y∈x.Rows,-1099511627776≤y.N∧y.N≤1099511627776)<;>rfl
  ·rw[qx]
   simp only[Option.bind_assoc,Option.bind_some]
  ·rw[zU hy,Option.bind_some]
   exact vJ kG
theorem Rt_L4{c0:List zm}{c2:List Def}{c3:List Table}(hl:c0.length≤300):jX c0 (List.length c0:Nat) c2 c3 c4 c5 c6 c7 c8 KK 0=some (bif pd (∀d∈c0,WR d.Corners)then .inr ()else .inl false):=by
 refine vE c0 (fun d=>WR d.Corners) (jX c0 (List.length c0:Nat) c2 c3 c4 c5 c6 c7 c8) (fun q=>(idx c0 q).bind fun x1=>(um x1.Corners).bind fun x2=>some (!x2)) (by omega) (fun K q=>?_) fun i x hx=>?_
 ·rw[jX]
  simp only[Option.bind_assoc,Option.bind_some]
 ·rw[zU hx,Option.bind_some]
  exact vJ zqn
theorem Rt_L5{c0:List zb}{c2:List Def}{c3:List Table}{c4:List zm}(hl:c0.length≤300)(h:∀x∈c0,zex x=true):jY c0 (List.length c0:Nat) c2 c3 c4 c5 c6 c7 c8 KK 0=some (bif pd (∀d∈c0,K3 d)then .inr ()else .inl false):=by
 refine vE c0 K3 (jY c0 (List.length c0:Nat) c2 c3 c4 c5 c6 c7 c8) (fun q=>(idx c0 q).bind fun x1=>(kv (zb.mk x1.Name x1.Zones x1.Except x1.From x1.Until x1.Grace x1.Vary x1.Kind (Expr.mk x1.Test.Op x1.Test.N x1.Test.S x1.Test.Key x1.Test.Args) x1.zg x1.Uses x1.Other x1.N)).bind fun x2=>some (!x2)) (by omega) (fun K q=>?_) fun i x hx=>?_
 ·rw[jY]
  simp only[Option.bind_assoc,Option.bind_some]
 ·rw[zU hx,Option.bind_some,zy]
  exact vJ (zqq (h x (List.mem_of_getElem? hx)))
theorem Rt_L6{c0:List Cap}{c2:List Def}{c3:List Table}{c4:List zm}{c5:List zb}(hl:c0.length≤300):jZ c0 (List.length c0:Nat) c2 c3 c4 c5 c6 c7 c8 KK 0=some (bif pd (∀d∈c0,zAt d)then .inr ()else .inl false):=by
 refine vE c0 zAt (jZ c0 (List.length c0:Nat) c2 c3 c4 c5 c6 c7 c8) (fun q=>(idx c0 q).bind fun x1=>((zx 0 2 ([x1.Load]:List Int)).bind fun x3=>(bif (!x3)then some true else(zx 0 1099511627776 ([x1.Limit]:List Int)).bind fun x4=>(bif (!x4)then some true else(um x1.Corners).bind fun x5=>some (!x5))))) (by omega) (fun K q=>?_) fun i x hx=>?_
 ·rw[jZ]
  simp only[Option.bind_assoc]
 ·rw[zU hx,Option.bind_some]
  exact o6 kG fun _=>o6 kG fun _=>vJ zqn
theorem Rt_L7{c0:List View}{c2:List Def}{c3:List Table}{c4:List zm}{c5:List zb}{c6:List Cap}(hl:c0.length≤300)(h:∀x∈c0,0≤x.Name.length∧x.Targets.length≤64):vy c0 (List.length c0:Nat) c2 c3 c4 c5 c6 c7 c8 KK 0=some (bif pd (∀d∈c0,zem d)then .inr ()else .inl false):=by
 have key:=Qt c0 (fun x=>pd (zem x)) (some (Sum.inr ())) (some (Sum.inl false)) (vy c0 (List.length c0:Nat) c2 c3 c4 c5 c6 c7 c8) (by omega) (fun K i x hx=>?_) (fun K=>by rw[vy,zZ];rfl)
 ·have:c0.all (fun x=>pd (zem x))=pd (∀x∈c0,zem x):=jj (by simp only[List.all_eq_true,xV])
  rw[key,this];cases pd (∀x∈c0,zem x)<;>rfl
 ·have hi:=yG hx
  obtain⟨_,h2⟩:=h x (List.mem_of_getElem? hx);rw[vy,xg hx,cond_true,zU hx,Option.bind_some,zJ (by omega)];rw[o6 kG (fun _=>vJ kG),Option.bind_some]
  have hp:pd (zem x)=(pd ((0≤x.Least∧x.Least≤20)∧(1≤((x.Targets.length:Nat):Int)∧((x.Targets.length:Nat):Int)≤20))&&pd (∀y∈([x.Eye]++x.Targets),zel y)):=by
   rw[← xv]
   exact xU ⟨fun⟨a,b,c,d⟩=>⟨⟨a,b⟩,fun y hy=>by
    rcases List.mem_append.1 hy with h1|h1
    ·rw[List.mem_singleton.1 h1];exact c
    ·exact d y h1⟩,fun⟨⟨a,b⟩,c⟩=>⟨a,b,c _ (by simp),fun y hy=>c y (by simp[hy])⟩⟩
  simp only[hp];cases pd ((0≤x.Least∧x.Least≤20)∧(1≤((x.Targets.length:Nat):Int)∧((x.Targets.length:Nat):Int)≤20))
  ·rfl
  have hlen:([x.Eye]++x.Targets).length≤65:=by simp;omega
  rw[Bool.not_true,cond_false,Bool.true_and,zV (by omega),Option.bind_some];rw[vE ([x.Eye]++x.Targets) zel (qy c0 (List.length c0:Nat) (i:Int) (List.length ([x.Eye]++x.Targets):Nat) c2 c3 c4 c5 c6 c7 c8 ([x.Eye]++x.Targets)) (fun q=>(grd (0≤q∧q<(((List.length ([x.Eye]++x.Targets)):Nat):Int))).bind fun _=>((([x.Eye]++x.Targets))[(Int.toNat q)]?).bind fun x2=>((zx 0 1048576 ([x2.X,x2.Y]:List Int)).bind fun x4=>(bif (!x4)then some true else(zx 0 4096 ([x2.Z_]:List Int)).bind fun x5=>some (!x5)))) (by omega) (fun K q=>?_) fun j y hy=>?_]
  ·cases pd (∀y∈([x.Eye]++x.Targets),zel y)<;>rfl
  ·rw[qy]
   simp only[Option.bind_assoc]
  ·have hj:=yG hy
   rw[zV (by omega),Option.bind_some,Int.toNat_natCast,hy,Option.bind_some,o6 J3 (fun _=>vJ kG)];exact congrArg (fun b=>some (!b)) (xU ⟨fun⟨⟨a,b⟩,c⟩=>⟨a,b,c⟩,fun⟨a,b,c⟩=>⟨⟨a,b⟩,c⟩⟩)
theorem Rt_L9{c0:List zj}{c2:List Def}{c3:List Table}{c4:List zm}{c5:List zb}{c6:List Cap}{c7:List View}(hl:c0.length≤64):j3 c0 (List.length c0:Nat) c2 c3 c4 c5 c6 c7 c8 KK 0=some (bif pd (∀d∈c0,zF3 d)then .inr ()else .inl false):=by
 refine vE c0 zF3 (j3 c0 (List.length c0:Nat) c2 c3 c4 c5 c6 c7 c8) (fun q=>(idx c0 q).bind fun x1=>((zx (-4096) 4096 ([x1.X,x1.Y]:List Int)).bind fun x3=>(bif (!x3)then some true else(zx 1 4096 ([x1.Z_]:List Int)).bind fun x4=>some (!x4)))) (by omega) (fun K q=>?_) fun i x hx=>?_
 ·rw[j3]
  simp only[Option.bind_assoc]
 ·rw[zU hx,Option.bind_some,o6 J3 (fun _=>vJ kG)]
  exact congrArg (fun b=>some (!b)) (xU ⟨fun⟨⟨a,b⟩,c⟩=>⟨a,b,c⟩,fun⟨a,b,c⟩=>⟨⟨a,b⟩,c⟩⟩)
end code
theorem jO{p:zu}(h:zey p):qg p=some (pd (wO p)):=by
 unfold qg;have hd:=h.d;have ht:=h.t;have hz:=h.z;have hr:=h.r;have hc:=h.c;have hv:=h.v;have hs:=h.s;rw[o6 (zzx (l:=p.Defs) (by omega) (fun x hx=>by have:=(h.ds x hx).1;omega)) fun _=>o6 (zzy (l:=p.Tables) (by omega) (fun x hx=>by have:=(h.ts x hx).1;omega)) fun _=>o6 (zzz (l:=p.Zones) (by omega) (fun x hx=>by have:=(h.zs x hx).1;omega)) fun _=>o6 (zz0 (l:=p.Rules) (by omega) (fun x hx=>by have:=(Qu (h.rs x hx)).1;omega)) fun _=>o6 (zz1 (l:=p.Caps) (by omega) (fun x hx=>by have:=(h.cs x hx).1;omega)) fun _=>vJ (zz2 (l:=p.Views) (by omega) (fun x hx=>by have:=(h.vs x hx).1;omega)),Option.bind_some]
 have hp:pd (wO p)=(pd (yp p.Defs Def.Name 60∧yp p.Tables Table.Name 60∧yp p.Zones zm.Name 60∧yp p.Rules zb.Name 200∧yp p.Caps Cap.Name 30∧yp p.Views View.Name 60)&&pd ((∀d∈p.Defs,okE 12 d.Body=true)∧(∀t∈p.Tables,o5 t)∧(∀z∈p.Zones,WR z.Corners)∧(∀r∈p.Rules,K3 r)∧(∀c∈p.Caps,zAt c)∧(∀v∈p.Views,zem v)∧(∀d∈p.Sun,zF3 d)∧(0≤p.Hours∧p.Hours≤24)∧(0≤((p.Sun.length:Nat):Int)∧((p.Sun.length:Nat):Int)≤24))):=by
  rw[← xv];exact xU ⟨fun⟨a,⟨b1,b2,b3,b4,b5,b6,b7⟩,c,d⟩=>⟨a,b1,b2,b3,b4,b5,b6,b7,c,by omega⟩,fun⟨a,b1,b2,b3,b4,b5,b6,b7,c,d⟩=>⟨a,⟨b1,b2,b3,b4,b5,b6,b7⟩,c,by omega⟩⟩
 rw[hp];cases pd (yp p.Defs Def.Name 60∧yp p.Tables Table.Name 60∧yp p.Zones zm.Name 60∧yp p.Rules zb.Name 200∧yp p.Caps Cap.Name 30∧yp p.Views View.Name 60)
 ·rfl
 rw[Bool.not_true,cond_false,Bool.true_and]
 exact kE (Rt_L1 hd h.ds) fun _=>kE (Rt_L2 ht h.ts) fun _=>kE (Rt_L4 hz) fun _=>kE (Rt_L5 hr h.rs) fun _=>kE (Rt_L6 hc) fun _=>kE (Rt_L7 hv h.vs) fun _=>kE (Rt_L9 hs) fun _=>by rw[J3];rfl
end Go.Proofs.YthnokpghgeppdaaGreatDoor
namespace Go.KL
variable{α κ:Type}[DecidableEq κ](key:α→κ)
def put(k:κ)(c:α→α)(z:α):List α→List α
 |[]=>[c z]
 |x::r=>if key x=k then c x::r else x::put k c z r
def get(k:κ):List α→Option α
 |[]=>none
 |x::r=>if key x=k then some x else get k r
variable{key}
theorem get_none{k:κ}:∀{l:List α},get key k l=none↔k ∉ l.map key
 |[]=>by simp[get]
 |x::r=>by
  rw[get];by_cases h:key x=k
  ·simp[h]
  ·rw[if_neg h,get_none];simp[Ne.symm h]
theorem kH{k:κ}{x:α}:∀{l:List α},get key k l=some x→key x=k∧x∈l
 |[],h=>by cases h
 |y::r,h=>by
  rw[get]at h;by_cases e:key y=k
  ·rw[if_pos e]at h;cases h;exact⟨e,List.mem_cons_self ..⟩
  ·rw[if_neg e]at h;exact⟨(kH h).1,List.mem_cons_of_mem _ (kH h).2⟩
theorem get_mem{x:α}:∀{l:List α},(l.map key).Nodup→x∈l→get key (key x) l=some x
 |[],_,h=>by cases h
 |y::r,hn,h=>by
  rw[List.map_cons,List.nodup_cons]at hn;rw[get]
  rcases List.mem_cons.1 h with rfl|h
  ·rw[if_pos rfl]
  ·rw[if_neg (fun e=>hn.1 (by rw[e];exact List.mem_map_of_mem h)),get_mem hn.2 h]
theorem zqr{k:κ}:∀{a b:List α},get key k (a++b)=(get key k a).or (get key k b)
 |[],b=>by simp[get]
 |x::r,b=>by
  rw[List.cons_append,get,get];by_cases h:key x=k
  ·rw[if_pos h,if_pos h];rfl
  ·rw[if_neg h,if_neg h,zqr]
theorem ext:∀{a b:List α},(a.map key).Nodup→a.map key=b.map key→(∀k,get key k a=get key k b)→a=b
 |[],b,_,h,_=>by cases b with|nil=>rfl|cons=>cases h
 |x::a,[],_,h,_=>by cases h
 |x::a,y::b,hn,h,hg=>by
  rw[List.map_cons,List.map_cons]at h;obtain⟨h1,h2⟩:=List.cons.inj h;rw[List.map_cons,List.nodup_cons]at hn;have e:=hg (key x);rw[get,get,if_pos rfl,if_pos h1.symm]at e;cases e
  rw[ext hn.2 h2 fun k=>by
   have:=hg k;rw[get,get]at this;by_cases hk:key x=k
   ·subst hk
    rw[get_none.2 hn.1,get_none.2 (by rw[← h2];exact hn.1)]
   ·rw[if_neg hk,if_neg hk]at this;exact this]
theorem zjc{k:κ}{c:α→α}{z:α}(hc:∀x,key x=k→key (c x)=k)(hz:key (c z)=k):
  ∀l:List α,(put key k c z l).map key=if k∈l.map key then l.map key else l.map key++[k]
 |[]=>by simp[put,hz]
 |x::r=>by
  rw[put];by_cases h:key x=k
  ·rw[if_pos h,if_pos (by simp[h]),List.map_cons,List.map_cons,hc x h,h]
  ·rw[if_neg h,List.map_cons,List.map_cons,zjc hc hz r]
   by_cases hk:k∈r.map key
   ·rw[if_pos hk,if_pos (List.mem_cons_of_mem _ hk)]
   ·rw[if_neg hk,if_neg (by rw[List.mem_cons];rintro(e|e);exact h e.symm;exact hk e),List.cons_append]
theorem zqs{k:κ}{c:α→α}{z:α}(hc:∀x,key x=k→key (c x)=k)(hz:key (c z)=k){l:List α}(h:(l.map key).Nodup):((put key k c z l).map key).Nodup:=by
 rw[zjc hc hz];by_cases hk:k∈l.map key
 ·rw[if_pos hk];exact h
 ·rw[if_neg hk,List.nodup_append]
  exact⟨h,by simp,fun a ha b hb=>by rw[List.mem_singleton]at hb;subst hb;intro e;subst e;exact hk ha⟩
theorem zqt{k:κ}{c:α→α}{z:α}(hc:∀x,key x=k→key (c x)=k)(hz:key (c z)=k):
  ∀l:List α,get key k (put key k c z l)=some (c ((get key k l).getD z))
 |[]=>by simp[put,get,hz]
 |x::r=>by
  rw[put];by_cases h:key x=k
  ·rw[if_pos h,get,if_pos (hc x h),get,if_pos h];rfl
  ·rw[if_neg h,get,if_neg h,zqt hc hz r,get,if_neg h]
theorem kI{k k':κ}{c:α→α}{z:α}(hc:∀x,key x=k→key (c x)=k)(hz:key (c z)=k)(hk:k'≠k):
  ∀l:List α,get key k' (put key k c z l)=get key k' l
 |[]=>by simp only[put,get];rw[if_neg (by rw[hz];exact Ne.symm hk)]
 |x::r=>by
  rw[put];by_cases h:key x=k
  ·rw[if_pos h,get,get,if_neg (by rw[hc x h];exact Ne.symm hk),if_neg (by rw[h];exact Ne.symm hk)]
  ·rw[if_neg h,get,get,kI hc hz hk r]
theorem zqu{k:κ}{c:α→α}{z:α}:∀l:List α,(put key k c z l).length=if k∈l.map key then l.length else l.length+1
 |[]=>by simp[put]
 |x::r=>by
  rw[put];by_cases h:key x=k
  ·rw[if_pos h,if_pos (by simp[h])];rfl
  ·rw[if_neg h,List.length_cons,zqu r]
   by_cases hk:k∈r.map key
   ·rw[if_pos hk,if_pos (by rw[List.map_cons];exact List.mem_cons_of_mem _ hk),List.length_cons]
   ·rw[if_neg hk,if_neg (by rw[List.map_cons,List.mem_cons];rintro(e|e);exact h e.symm;exact hk e),List.length_cons]
end Go.KL
set_option maxRecDepth 100000
namespace Go.Proofs.YthnokpghgeppdaaGreatDoor
open Go Go.RowKit Go.Eng Go.EV Go.EQ
variable[Fuel]
theorem V8:∀(l seen:List (List UInt8)),wN true seen l=true→l.Nodup∧∀s∈l,s ∉ seen
 |[],_,_=>⟨List.nodup_nil,fun _ h=>by cases h⟩
 |s::l,seen,h=>by
  rw[wN]at h;simp only[Bool.and_eq_true,Bool.true_and,Bool.not_eq_true',decide_eq_false_iff_not]at h;obtain⟨_,h2,h3⟩:=h;obtain⟨i1,i2⟩:=V8 l (seen++[s]) h3;refine⟨List.nodup_cons.2 ⟨fun hm=>i2 s hm (by simp),i1⟩,fun x hx=>?_⟩
  rcases List.mem_cons.1 hx with rfl|hx
  ·exact h2
  ·exact fun hm=>i2 x hx (List.mem_append_left _ hm)
theorem zE5:∀(l seen:List (List UInt8)),l.all yI=true→l.Nodup→(∀s∈l,s ∉ seen)→wN true seen l=true
 |[],_,_,_,_=>rfl
 |s::r,seen,h,hn,hs=>by
  rw[List.all_cons,Bool.and_eq_true]at h;rw[List.nodup_cons]at hn;rw[wN,h.1,Bool.true_and,Bool.true_and,decide_eq_false (hs s (List.mem_cons_self ..)),Bool.not_false,Bool.true_and]
  refine zE5 r _ h.2 hn.2 fun x hx=>?_
  rw[List.mem_append,List.mem_singleton];rintro(e|rfl)
  ·exact hs x (List.mem_cons_of_mem _ hx) e
  ·exact hn.1 hx
theorem yi{α:Type}{l:List α}{g:α→List UInt8}{m:Nat}:yp l g m↔l.length≤m∧(∀x∈l,yI (g x)=true)∧(l.map g).Nodup:=by
 unfold yp;refine⟨fun⟨a,b⟩=>⟨a,?_,(V8 _ _ b).1⟩,fun⟨a,b,c⟩=>⟨a,zE5 _ _ ?_ c fun _ _ h=>by cases h⟩⟩
 ·have:=YT _ _ b
  simpa using this
 ·simpa using b
inductive Ed where
 |rule (r:zb)
 |fin (n:List UInt8) (d:Int)
 |dfn (d:Def)
 |row (n:List UInt8) (x:Entry)
 |zone (z:zm)
 |lim (n:List UInt8) (v:Int)
def Ed.ok:Ed→Prop
 |.rule r=>yI r.Name=true∧K3 r
 |.fin n d=>yI n=true∧1≤d∧d≤1073741824
 |.dfn d=>yI d.Name=true∧okE 12 d.Body=true
 |.row n x=>yI n=true∧yI x.Name=true∧-1099511627776≤x.N∧x.N≤1099511627776
 |.zone z=>yI z.Name=true∧WR z.Corners
 |.lim n v=>yI n=true∧0≤v∧v≤1099511627776
def Ed.thing:Ed→Nat×List UInt8×List UInt8
 |.rule r=>(0,r.Name,[])
 |.fin n _=>(0,n,[])
 |.dfn d=>(1,d.Name,[])
 |.row n x=>(2,n,x.Name)
 |.zone z=>(3,z.Name,[])
 |.lim n _=>(4,n,[])
def zT(n:List UInt8):Table:=⟨n,[],0⟩
def zav(x:Entry)(t:Table):Table:={ t with Rows:=KL.put Entry.Name x.Name (fun _=>x) x t.Rows }
def app(p:zu):Ed→Option zu
 |.rule r=>if r.Name∈p.Rules.map zb.Name∨200≤p.Rules.length then none else some { p with Rules:=p.Rules++[r] }
 |.fin n d=>match KL.get zb.Name n p.Rules with
  |none=>none
  |some r=>if d≤r.From then none else some { p with Rules:=KL.put zb.Name n (fun r=>{ r with Until:=d }) r p.Rules }
 |.dfn d=>if d.Name ∉ p.Defs.map Def.Name∧60≤p.Defs.length then none else some { p with Defs:=KL.put Def.Name d.Name (fun _=>d) d p.Defs }
 |.row n x=>if(n ∉ p.Tables.map Table.Name∧60≤p.Tables.length)∨(x.Name ∉ ((KL.get Table.Name n p.Tables).getD (zT n)).Rows.map Entry.Name∧60≤((KL.get Table.Name n p.Tables).getD (zT n)).Rows.length)then none
  else some { p with Tables:=KL.put Table.Name n (zav x) (zT n) p.Tables }
 |.zone z=>if(z.Name ∉ p.Zones.map zm.Name∧60≤p.Zones.length)∨(∃y,KL.get zm.Name z.Name p.Zones=some y∧y.Overlay≠z.Overlay)then none
  else some { p with Zones:=KL.put zm.Name z.Name (fun _=>z) z p.Zones }
 |.lim n v=>match KL.get Cap.Name n p.Caps with
  |none=>none
  |some c=>some { p with Caps:=KL.put Cap.Name n (fun c=>{ c with Limit:=v }) c p.Caps }
theorem jk{α:Type}{g:α→List UInt8}{k:List UInt8}{c:α→α}{z:α}{P:α→Prop}(hz:P (c z)):∀{l:List α},(∀x∈l,P x)→(∀x∈l,g x=k→P (c x))→∀x∈KL.put g k c z l,P x
 |[],_,_,x,hx=>by rw[KL.put,List.mem_singleton]at hx;exact hx▸hz
 |y::r,h,hc,x,hx=>by
  rw[KL.put]at hx;by_cases e:g y=k
  ·rw[if_pos e]at hx
   rcases List.mem_cons.1 hx with rfl|hx
   ·exact hc y (List.mem_cons_self ..) e
   ·exact h x (List.mem_cons_of_mem _ hx)
  ·rw[if_neg e]at hx
   rcases List.mem_cons.1 hx with rfl|hx
   ·exact h _ (List.mem_cons_self ..)
   ·exact jk hz (fun x hx=>h x (List.mem_cons_of_mem _ hx)) (fun x hx=>hc x (List.mem_cons_of_mem _ hx)) x hx
theorem AF{α:Type}{g:α→List UInt8}{m:Nat}{k:List UInt8}{c:α→α}{z:α}(hc:∀x,g x=k→g (c x)=k)(hz:g (c z)=k)(hk:yI k=true){l:List α}(h:yp l g m)(hm:¬(k ∉ l.map g∧m≤l.length)):yp (KL.put g k c z l) g m:=by
 rw[yi]at h ⊢;obtain⟨h1,h2,h3⟩:=h;refine⟨?_,jk (P:=fun x=>yI (g x)=true) (by rw[hz];exact hk) h2 (fun x _ e=>by rw[hc x e];exact hk),KL.zqs hc hz h3⟩;rw[KL.zqu];by_cases hi:k∈l.map g
 ·rw[if_pos hi];exact h1
 ·rw[if_neg hi]
  have:¬m≤l.length:=fun e=>hm ⟨hi,e⟩
  omega
theorem V9{α:Type}{g:α→List UInt8}{k:List UInt8}{x:α}{l:List α}(h:KL.get g k l=some x):k∈l.map g:=by
 by_cases hk:k∈l.map g
 ·exact hk
 ·rw[KL.get_none.2 hk]at h;cases h
theorem zen{x:Entry}{t:Table}(hn:yI x.Name=true)(h1:-1099511627776≤x.N∧x.N≤1099511627776)(h:o5 t)(hm:¬(x.Name ∉ t.Rows.map Entry.Name∧60≤t.Rows.length)):o5 (zav x t):=by
 have hh:yp t.Rows Entry.Name 60:=h.1;exact⟨AF (c:=fun _=>x) (z:=x) (fun _ _=>rfl) rfl hn hh hm,h.2.1,jk (P:=fun x:Entry=>-1099511627776≤x.N∧x.N≤1099511627776) h1 h.2.2 fun _ _ _=>h1⟩
theorem zeo{p q:zu}{e:Ed}(hp:wO p)(he:e.ok)(h:app p e=some q):wO q:=by
 obtain⟨⟨d,t,z,r,c,v⟩,⟨bd,bt,bz,br,bc,bv⟩,hr⟩:=hp
 cases e with
 |rule x =>
  simp only[app]at h;by_cases g:x.Name∈p.Rules.map zb.Name∨200≤p.Rules.length
  ·rw[if_pos g]at h;cases h
  ·rw[if_neg g]at h;cases h
   rw[not_or]at g;refine⟨⟨d,t,z,?_,c,v⟩,⟨bd,bt,bz,?_,bc,bv⟩,hr⟩
   ·rw[yi]at r ⊢
    refine⟨by simp;omega,?_,?_⟩
    ·intro y hy
     rcases List.mem_append.1 hy with hy|hy
     ·exact r.2.1 y hy
     ·rw[List.mem_singleton]at hy;subst hy;exact he.1
    ·rw[List.map_append,List.nodup_append]
     exact⟨r.2.2,by simp,fun a ha b hb=>by simp at hb;subst hb;intro e;subst e;exact g.1 ha⟩
   ·intro y hy
    rcases List.mem_append.1 hy with hy|hy
    ·exact br y hy
    ·rw[List.mem_singleton]at hy;subst hy;exact he.2
 |fin n dd =>
  simp only[app]at h
  cases hg:KL.get zb.Name n p.Rules with
  |none=>rw[hg]at h;cases h
  |some x =>
   rw[hg]at h;dsimp only at h;by_cases g:dd≤x.From
   ·rw[if_pos g]at h;cases h
   ·rw[if_neg g]at h;cases h
    have hx:=KL.kH hg;have hn:(p.Rules.map zb.Name).Nodup:=(yi.1 r).2.2
    have hu:∀y∈p.Rules,y.Name=n→K3 { y with Until:=dd }:=fun y hy e=>by
     have:y=x:=by
      have:=KL.get_mem hn hy;rw[e,hg]at this;exact(Option.some.inj this).symm
     subst this;have:=br y hy;refine⟨⟨this.1.1,⟨this.1.2.1,this.1.2.2.1,⟨?_,he.2.2⟩,.inr ?_⟩⟩,this.2⟩
     ·show(0:Int)≤dd
      have:=he.2.1;omega
     ·show y.From<dd
      omega
    exact⟨⟨d,t,z,AF (g:=zb.Name) (k:=n) (c:=fun r:zb=>{ r with Until:=dd }) (fun _ e=>e) hx.1 he.1 r (fun e=>e.1 (V9 hg)),c,v⟩,⟨bd,bt,bz,jk (P:=K3) (hu x hx.2 hx.1) br hu,bc,bv⟩,hr⟩
 |dfn x =>
  simp only[app]at h;by_cases g:x.Name ∉ p.Defs.map Def.Name∧60≤p.Defs.length
  ·rw[if_pos g]at h;cases h
  ·rw[if_neg g]at h;cases h
   exact⟨⟨AF (fun _ _=>rfl) rfl he.1 d g,t,z,r,c,v⟩,⟨jk (P:=fun d:Def=>okE 12 d.Body=true) he.2 bd fun _ _ _=>he.2,bt,bz,br,bc,bv⟩,hr⟩
 |row n x =>
  simp only[app]at h;by_cases g:(n ∉ p.Tables.map Table.Name∧60≤p.Tables.length)∨(x.Name ∉ ((KL.get Table.Name n p.Tables).getD (zT n)).Rows.map Entry.Name∧60≤((KL.get Table.Name n p.Tables).getD (zT n)).Rows.length)
  ·rw[if_pos g]at h;cases h
  ·rw[if_neg g]at h;cases h
   rw[not_or]at g;have hn:(p.Tables.map Table.Name).Nodup:=(yi.1 t).2.2;refine⟨⟨d,AF (g:=Table.Name) (k:=n) (c:=zav x) (z:=zT n) (fun _ e=>e) rfl he.1 t g.1,z,r,c,v⟩,⟨bd,jk (P:=o5) (zen he.2.1 he.2.2 ⟨⟨by simp[zT],rfl⟩,by simp[zT],fun _ h=>by cases h⟩ (by simp[zT])) bt fun y hy e=>?_,bz,br,bc,bv⟩,hr⟩;have hy':=KL.get_mem hn hy;rw[e]at hy';have:=g.2;rw[hy']at this;exact zen he.2.1 he.2.2 (bt y hy) this
 |zone x =>
  simp only[app]at h;by_cases g:(x.Name ∉ p.Zones.map zm.Name∧60≤p.Zones.length)∨(∃y,KL.get zm.Name x.Name p.Zones=some y∧y.Overlay≠x.Overlay)
  ·rw[if_pos g]at h;cases h
  ·rw[if_neg g]at h;cases h
   rw[not_or]at g;exact⟨⟨d,t,AF (fun _ _=>rfl) rfl he.1 z g.1,r,c,v⟩,⟨bd,bt,jk (P:=fun z:zm=>WR z.Corners) he.2 bz fun _ _ _=>he.2,br,bc,bv⟩,hr⟩
 |lim n w =>
  simp only[app]at h
  cases hg:KL.get Cap.Name n p.Caps with
  |none=>rw[hg]at h;cases h
  |some x =>
   rw[hg]at h;cases h;have hx:=KL.kH hg
   have hu:∀y∈p.Caps,y.Name=n→zAt { y with Limit:=w }:=fun y hy _=>⟨(bc y hy).1,he.2,(bc y hy).2.2⟩
   exact⟨⟨d,t,z,r,AF (g:=Cap.Name) (k:=n) (c:=fun c:Cap=>{ c with Limit:=w }) (fun _ e=>e) hx.1 he.1 c (fun e=>e.1 (V9 hg)),v⟩,⟨bd,bt,bz,br,jk (P:=zAt) (hu x hx.2 hx.1) bc hu,bv⟩,hr⟩
inductive Sx where
 |r (x:zb)
 |d (x:Def)
 |e (x:Entry)
 |z (x:zm)
 |c (x:Cap)
def rowAt(p:zu)(n k:List UInt8):Option Entry:=(KL.get Table.Name n p.Tables).bind fun t=>KL.get Entry.Name k t.Rows
def state(p:zu)(t:Nat×List UInt8×List UInt8):Option Sx :=
 match t.1 with
 |0=>(KL.get zb.Name t.2.1 p.Rules).map .r
 |1=>(KL.get Def.Name t.2.1 p.Defs).map .d
 |2=>(rowAt p t.2.1 t.2.2).map .e
 |3=>(KL.get zm.Name t.2.1 p.Zones).map .z
 |4=>(KL.get Cap.Name t.2.1 p.Caps).map .c
 |_=>none
def zaf(t:Nat×List UInt8×List UInt8):Prop:=t.1≠2→t.2.2=[]
theorem zjd(e:Ed):zaf e.thing:=by cases e<;>simp[zaf,Ed.thing]
theorem zqv{p q:zu}{e:Ed}(h:app p e=some q){t:Nat×List UInt8×List UInt8}(ht:zaf t)(hne:t≠e.thing):state q t=state p t:=by
 obtain⟨i,n',k'⟩:=t
 cases e with
 |rule x =>
  simp only[app]at h;by_cases g:x.Name∈p.Rules.map zb.Name∨200≤p.Rules.length
  ·rw[if_pos g]at h;cases h
  ·rw[if_neg g]at h;cases h
   match i with
   |0 =>
    have hk:k'=[]:=ht (by simp)
    have hn:n'≠x.Name:=fun e=>hne (by rw[e,hk];rfl)
    show(KL.get zb.Name n' (p.Rules++[x])).map Sx.r=_
    rw[KL.zqr,KL.get,if_neg (Ne.symm hn),KL.get,Option.or_none];rfl
   |1=>rfl
   |2=>rfl
   |3=>rfl
   |4=>rfl
   |_+5=>rfl
 |fin n dd =>
  simp only[app]at h
  cases hg:KL.get zb.Name n p.Rules with
  |none=>rw[hg]at h;cases h
  |some x =>
   rw[hg]at h;dsimp only at h;by_cases g:dd≤x.From
   ·rw[if_pos g]at h;cases h
   ·rw[if_neg g]at h;cases h
    match i with
    |0 =>
     have hk:k'=[]:=ht (by simp)
     have hn:n'≠n:=fun e=>hne (by rw[e,hk];rfl)
     show(KL.get zb.Name n' (KL.put zb.Name n _ x p.Rules)).map Sx.r=_
     rw[KL.kI (key:=zb.Name) (k:=n) (c:=fun r:zb=>{ r with Until:=dd }) (fun _ e=>e) (KL.kH hg).1 hn];rfl
    |1=>rfl
    |2=>rfl
    |3=>rfl
    |4=>rfl
    |_+5=>rfl
 |dfn x =>
  simp only[app]at h;by_cases g:x.Name ∉ p.Defs.map Def.Name∧60≤p.Defs.length
  ·rw[if_pos g]at h;cases h
  ·rw[if_neg g]at h;cases h
   match i with
   |1 =>
    have hk:k'=[]:=ht (by simp)
    have hn:n'≠x.Name:=fun e=>hne (by rw[e,hk];rfl)
    show(KL.get Def.Name n' (KL.put Def.Name x.Name _ x p.Defs)).map Sx.d=_
    rw[KL.kI (fun _ _=>rfl) rfl hn];rfl
   |0=>rfl
   |2=>rfl
   |3=>rfl
   |4=>rfl
   |_+5=>rfl
 |row n x =>
  simp only[app]at h;split at h
  ·cases h
  ·cases h
   match i with
   |2 =>
    show(rowAt { p with Tables:=KL.put Table.Name n (zav x) (zT n) p.Tables } n' k').map Sx.e=(rowAt p n' k').map Sx.e
    unfold rowAt;dsimp only;by_cases hn:n'=n
    ·subst hn
     have hk:k'≠x.Name:=fun e=>hne (by rw[e];rfl)
     rw[KL.zqt (key:=Table.Name) (k:=n') (z:=zT n') (c:=zav x) (fun _ e=>e) rfl,Option.bind_some]
     show(KL.get Entry.Name k' (KL.put Entry.Name x.Name (fun _=>x) x _)).map Sx.e=_
     rw[KL.kI (fun _ _=>rfl) rfl hk]
     cases KL.get Table.Name n' p.Tables with
     |none=>rfl
     |some t=>rfl
    ·rw[KL.kI (key:=Table.Name) (k:=n) (z:=zT n) (c:=zav x) (fun _ e=>e) rfl hn]
   |0=>rfl
   |1=>rfl
   |3=>rfl
   |4=>rfl
   |_+5=>rfl
 |zone x =>
  simp only[app]at h;split at h
  ·cases h
  ·cases h
   match i with
   |3 =>
    have hk:k'=[]:=ht (by simp)
    have hn:n'≠x.Name:=fun e=>hne (by rw[e,hk];rfl)
    show(KL.get zm.Name n' (KL.put zm.Name x.Name _ x p.Zones)).map Sx.z=_
    rw[KL.kI (fun _ _=>rfl) rfl hn];rfl
   |0=>rfl
   |1=>rfl
   |2=>rfl
   |4=>rfl
   |_+5=>rfl
 |lim n w =>
  simp only[app]at h
  cases hg:KL.get Cap.Name n p.Caps with
  |none=>rw[hg]at h;cases h
  |some x =>
   rw[hg]at h;cases h
   match i with
   |4 =>
    have hk:k'=[]:=ht (by simp)
    have hn:n'≠n:=fun e=>hne (by rw[e,hk];rfl)
    show(KL.get Cap.Name n' (KL.put Cap.Name n _ x p.Caps)).map Sx.c=_
    rw[KL.kI (key:=Cap.Name) (k:=n) (c:=fun c:Cap=>{ c with Limit:=w }) (fun _ e=>e) (KL.kH hg).1 hn];rfl
   |0=>rfl
   |1=>rfl
   |2=>rfl
   |3=>rfl
   |_+5=>rfl
def AK:zu→List Ed→Option zu
 |p,[]=>some p
 |p,e::l=>(app p e).bind fun q=>AK q l
theorem Wa{t:Nat×List UInt8×List UInt8}(ht:zaf t):∀{l:List Ed}{p q:zu},AK p l=some q→(∀e∈l,t≠e.thing)→state q t=state p t
 |[],p,q,h,_=>by cases h;rfl
 |e::l,p,q,h,hl=>by
  rw[AK]at h;obtain⟨m,h1,h2⟩:=Option.bind_eq_some_iff.1 h;rw[Wa ht h2 fun x hx=>hl x (List.mem_cons_of_mem _ hx),zqv h1 ht (hl e (List.mem_cons_self ..))]
theorem zvz{τ:Type}:∀{a b:List τ},a.Nodup→(∀x∈a,x∈b)→a.length≤b.length
 |[],b,_,_=>Nat.zero_le _
 |x::a,b,hn,hs=>by
  rw[List.nodup_cons]at hn;obtain⟨s,t,rfl⟩:=List.append_of_mem (hs x (List.mem_cons_self ..))
  have:=zvz (b:=s++t) hn.2 fun y hy=>by
   have hy':=hs y (List.mem_cons_of_mem _ hy)
   have hne:y≠x:=fun e=>hn.1 (e▸hy)
   simp only[List.mem_append,List.mem_cons]at hy' ⊢
   rcases hy' with h|h|h
   ·exact .inl h
   ·exact absurd h hne
   ·exact .inr h
  simp only[List.length_append,List.length_cons]at this ⊢;omega
theorem zqw{p q:zu}{l d:List Ed}(h:AK p l=some q)(hn:(d.map Ed.thing).Nodup)(hd:∀e∈d,state q e.thing≠state p e.thing):d.length≤l.length:=by
 have:=zvz (b:=l.map Ed.thing) hn fun t ht=>by
  obtain⟨e,he,rfl⟩:=List.mem_map.1 ht;by_cases hm:e.thing∈l.map Ed.thing
  ·exact hm
  ·exact absurd (Wa (zjd e) h fun x hx hxe=>hm (hxe▸List.mem_map_of_mem hx)) (hd e he)
 simpa using this
theorem zug{p q y:zu}{d:List Ed}(hn:(d.map Ed.thing).Nodup)(hd:∀e∈d,state q e.thing≠state p e.thing){i:Nat}(hi:i<d.length)(h:AK p (d.take i++d.drop (i+1))=some y):y≠q:=fun e=>by
 subst e;refine hd (d[i]) (List.getElem_mem hi) (Wa (zjd _) h fun x hx hxe=>?_)
 have hs:d=d.take i++d[i]::d.drop (i+1):=by rw[← List.drop_eq_getElem_cons hi,List.take_append_drop]
 rw[hs,List.map_append,List.map_cons,List.nodup_append,List.nodup_cons]at hn
 rcases List.mem_append.1 hx with h|h
 ·exact hn.2.2 _ (List.mem_map_of_mem h) _ (List.mem_cons_self ..) hxe.symm
 ·exact hn.2.1.1 (hxe▸List.mem_map_of_mem h)
def kJ{α:Type}(g:α→Bool):List α→Option Nat
 |[]=>none
 |x::r=>bif g x then some 0 else(kJ g r).map (·+1)
theorem YV{α:Type}(l:List α)(g:α→Bool)(L:Nat→Int→Option (Int⊕Unit))
  (hL:∀K (i:Nat) x,l[i]?=some x→L (K+1) (i:Int)=bif g x then some (.inl (i:Int))else L K ((i+1:Nat):Int)) (hE:∀K,L (K+1) (l.length:Int)=some (.inr ())):
  ∀(r:List α)(i K:Nat),l.drop i=r→i≤l.length→r.length<K→L K (i:Int)=some (match kJ g r with|some j=>.inl ((i+j:Nat):Int)|none=>.inr ())
 |[],i,K,hr,hi,hK=>by
  obtain⟨K,rfl⟩:∃k,K=k+1:=⟨K-1,by omega⟩
  have:=drop_nil hr hi
  have e:i=l.length:=by omega
  rw[e,hE];rfl
 |x::r,i,K,hr,hi,hK=>by
  obtain⟨K,rfl⟩:∃k,K=k+1:=⟨K-1,by omega⟩
  obtain⟨h1,h2,h3⟩:=xT hr;simp only[List.length_cons]at hK;rw[hL K i x h1,kJ]
  cases g x with
  |true=>rfl
  |false =>
   rw[cond_false,cond_false,YV l g L hL hE r (i+1) K h2 (by omega) (by omega)]
   cases kJ g r with
   |none=>rfl
   |some j=>simp only[Option.map_some];congr 3;omega
theorem yg{α:Type}(l:List α)(g:α→Bool)(L:Nat→Int→Option (Int⊕Unit))(hs:l.length≤9223372036854775807)
  (hL:∀K (i:Nat) x,l[i]?=some x→L (K+1) (i:Int)=bif g x then some (.inl (i:Int))else L K ((i+1:Nat):Int)) (hE:∀K,L (K+1) (l.length:Int)=some (.inr ())):
  (L KK 0).bind (yj some fun _=>some (-1))=some (yH (kJ g l)):=by
 rw[show(0:Int)=((0:Nat):Int) from rfl,YV l g L hL hE l 0 KK rfl (Nat.zero_le _) (u9 (by omega))]
 cases kJ g l with
 |none=>rfl
 |some j=>simp[yj,yH]
theorem uA{α β:Type}{l:List α}{i:Nat}{x:α}(h:l[i]?=some x)(f:α→Option β):((grd (0≤(i:Int)∧(i:Int)<((List.length l:Nat):Int))).bind fun _=>(l[Int.toNat (i:Int)]?).bind f)=f x:=by
 have:=yG h;rw[zV (by omega),Option.bind_some,Int.toNat_natCast,h,Option.bind_some]
theorem zE6{o:Option Nat}:decide (yH o<0)=o.isNone:=by
 cases o with
 |none=>rfl
 |some i=>exact decide_eq_false (by simp only[yH];omega)
theorem zz4{o:Option Nat}:decide (yH o≥0)=o.isSome:=by
 cases o with
 |none=>rfl
 |some i=>exact decide_eq_true (by simp[yH])
theorem zag{α:Type}{g:α→Bool}:∀{l:List α}{i:Nat},kJ g l=some i→∃x,l[i]?=some x∧g x=true
 |x::r,i,h=>by
  rw[kJ]at h
  cases hx:g x with
  |true=>rw[hx]at h;cases h;exact⟨x,rfl,hx⟩
  |false =>
   rw[hx,cond_false]at h;obtain⟨j,h1,rfl⟩:=Option.map_eq_some_iff.1 h;obtain⟨y,h2,h3⟩:=zag h1;exact⟨y,by simpa using h2,h3⟩
theorem Qv{α:Type}{key:α→List UInt8}{k:List UInt8}:∀{l:List α},(kJ (fun x=>decide (key x=k)) l).isSome=decide (k∈l.map key)
 |[]=>by simp[kJ]
 |x::r=>by
  rw[kJ];by_cases h:key x=k
  ·rw[decide_eq_true h,cond_true];simp[h]
  ·rw[decide_eq_false h,cond_false,Option.isSome_map,Qv]
   exact vh (by simp[Ne.symm h])
theorem zah{α:Type}{key:α→List UInt8}{k:List UInt8}:∀{l:List α},(kJ (fun x=>decide (key x=k)) l).bind (fun i=>l[i]?)=KL.get key k l
 |[]=>rfl
 |x::r=>by
  rw[kJ,KL.get];by_cases h:key x=k
  ·rw[decide_eq_true h,cond_true,if_pos h];rfl
  ·rw[decide_eq_false h,cond_false,if_neg h,← zah]
   cases kJ (fun x=>decide (key x=k)) r<;>rfl
def zep{α:Type}(g:α→Bool)(c:α→α)(z:α):List α→List α
 |[]=>[c z]
 |x::r=>bif g x then c x::r else x::zep g c z r
theorem zai{α:Type}{key:α→List UInt8}{k:List UInt8}{c:α→α}{z:α}:∀{l:List α},zep (fun x=>decide (key x=k)) c z l=KL.put key k c z l
 |[]=>rfl
 |x::r=>by
  rw[zep,KL.put,zai];by_cases h:key x=k
  ·rw[decide_eq_true h,if_pos h];rfl
  ·rw[decide_eq_false h,if_neg h];rfl
theorem Wb{α:Type}{g:α→Bool}{c:α→α}{z:α}:∀{l:List α}{i:Nat}{x:α},kJ g l=some i→l[i]?=some x→l.set i (c x)=zep g c z l
 |y::r,i,x,h,hx=>by
  rw[kJ]at h;rw[zep]
  cases hy:g y with
  |true=>rw[hy]at h;cases h;cases hx;rfl
  |false =>
   rw[hy,cond_false]at h;obtain⟨j,h1,rfl⟩:=Option.map_eq_some_iff.1 h;rw[cond_false,List.set_cons_succ,Wb h1 (by simpa using hx)]
theorem Wc{α:Type}{g:α→Bool}{c:α→α}{z:α}:∀{l:List α},kJ g l=none→(l++[z]).set l.length (c z)=zep g c z l
 |[],_=>rfl
 |y::r,h=>by
  rw[kJ]at h;rw[zep]
  cases hy:g y with
  |true=>rw[hy]at h;cases h
  |false =>
   rw[hy,cond_false,Option.map_eq_none_iff]at h;rw[cond_false,List.cons_append,List.length_cons,List.set_cons_succ,Wc h]
theorem zaj{α:Type}{a b:List α}(h:a.length=b.length):eqB [(a.length,b.length)]=true:=by
 simp[eqB,h,Nat.beq_refl]
section
variable{α σ:Type}{l:List α}{g:α→Bool}{z:α}{c:α→α}{most bytes:Nat}{m:Int}{Cl:Option (List α)}{Ix:List α→Option Int}{Ap:List α→Int→Option (List α)}
theorem J4(hm:m=(most:Int))(hs:(l.length+1)*bytes≤140737488355328)(hC:Cl=some l)(hI:Ix l=some (yH (kJ g l)))(hA:∀(q:List α)(i:Nat) x,q[i]?=some x→Ap q (i:Int)=some (q.set i (c x))):
  (Cl.bind fun x1=>(Ix x1).bind fun x2=>((bif (decide (x2<0))then(bif (decide (((List.length x1:Nat):Int)≥m))then(grd (eqB []=true)).bind fun _=>some (Sum.inl (([]:List α),(6:Int)))else(grd (List.length (x1++([z]:List α))*bytes≤140737488355328)).bind fun _=>some (Sum.inr (((List.length x1:Nat):Int),(x1++([z]:List α)))))else some (Sum.inr (x2,x1)))).bind (yj some fun x3=>(grd (0≤x3.1∧x3.1<((List.length x3.2:Nat):Int))).bind fun _=>(Ap x3.2 ((Int.toNat x3.1:Nat):Int)).bind fun x6=>(grd (eqB [(List.length x3.2,List.length x6)]=true)).bind fun _=>some (x6,(0:Int)))) =
   some (bif (kJ g l).isNone&&decide (most≤l.length)then([],6)else(zep g c z l,0)):=by
 subst hC;rw[Option.bind_some,hI,Option.bind_some,zE6]
 cases hf:kJ g l with
 |none =>
  rw[Option.isNone_none,cond_true,Bool.true_and];by_cases h:most≤l.length
  ·rw[decide_eq_true (by omega:((List.length l:Nat):Int)≥m),decide_eq_true h];rfl
  ·rw[decide_eq_false (by omega:¬((List.length l:Nat):Int)≥m),decide_eq_false h,cond_false,cond_false,zV (by simpa using hs),Option.bind_some,Option.bind_some]
   simp only[yj,Int.toNat_natCast];rw[zV (by simp;omega),Option.bind_some,hA (l++[z]) l.length z (by simp),Option.bind_some,zV (zaj (by simp)),Option.bind_some,Wc hf]
 |some i =>
  obtain⟨x,h1,_⟩:=zag hf;have:=yG h1;rw[Option.isNone_some,cond_false,Bool.false_and,cond_false,Option.bind_some]
  show(grd (0≤(i:Int)∧(i:Int)<((List.length l:Nat):Int))).bind (fun _=>(Ap l ((Int.toNat (i:Int):Nat):Int)).bind fun x6=>(grd (eqB [(List.length l,List.length x6)]=true)).bind fun _=>some (x6,(0:Int)))=_
  rw[zV (by omega),Option.bind_some,Int.toNat_natCast,hA l i x h1,Option.bind_some,zV (zaj (by simp)),Option.bind_some,Wb hf h1]
end
def ja:zb:=⟨[],[],[],0,0,0,false,0,jN,⟨0,0,0,0⟩,0,0,0⟩
theorem ix2{l:List zb}{n:List UInt8}(h:l.length≤9223372036854775807):yz l n=some (yH (kJ (fun x=>decide (x.Name=n)) l)) :=
 yg l _ (zK n l ((List.length l:Nat):Int)) h (fun K i x hx=>by rw[zK,xg hx,cond_true,zU hx,Option.bind_some,zJ (by have:=yG hx;omega)];rfl) (fun K=>by rw[zK,zZ];rfl)
theorem ix3{l:List zb}(h:l.length≤9223372036854775807):xX l=some (yH (kJ (fun x=>false) l)) :=
 yg l _ (zL l ((List.length l:Nat):Int)) h (fun K i x hx=>by rw[zL,xg hx,cond_true,uA hx,zJ (by have:=yG hx;omega)];rfl) (fun K=>by rw[zL,zZ];rfl)
theorem ix4{l:List zb}{n:List UInt8}(h:l.length≤9223372036854775807):xY l n=some (yH (kJ (fun x=>decide (x.Name=n)) l)) :=
 yg l _ (zM l n ((List.length l:Nat):Int)) h (fun K i x hx=>by rw[zM,xg hx,cond_true,uA hx,zJ (by have:=yG hx;omega)];rfl) (fun K=>by rw[zM,zZ];rfl)
theorem ix5{l:List Def}{ed:EB}(h:l.length≤9223372036854775807):xZ l ed=some (yH (kJ (fun x=>decide (x.Name=ed.n)) l)) :=
 yg l _ (zN ed l ((List.length l:Nat):Int)) h (fun K i x hx=>by rw[zN,xg hx,cond_true,uA hx,zJ (by have:=yG hx;omega)];rfl) (fun K=>by rw[zN,zZ];rfl)
theorem ix6{l:List Table}{ed:EB}(h:l.length≤9223372036854775807):wa l ed=some (yH (kJ (fun x=>decide (x.Name=ed.n)) l)) :=
 yg l _ (zO ed l ((List.length l:Nat):Int)) h (fun K i x hx=>by rw[zO,xg hx,cond_true,uA hx,zJ (by have:=yG hx;omega)];rfl) (fun K=>by rw[zO,zZ];rfl)
theorem ix7{l:List Entry}{ed:EB}(h:l.length≤9223372036854775807):wb l ed=some (yH (kJ (fun x=>decide (x.Name=ed.y)) l)) :=
 yg l _ (zP ed l ((List.length l:Nat):Int)) h (fun K i x hx=>by rw[zP,xg hx,cond_true,uA hx,zJ (by have:=yG hx;omega)];rfl) (fun K=>by rw[zP,zZ];rfl)
theorem ix8{l:List zm}{ed:EB}(h:l.length≤9223372036854775807):wc l ed=some (yH (kJ (fun x=>decide (x.Name=ed.n)) l)) :=
 yg l _ (zQ ed l ((List.length l:Nat):Int)) h (fun K i x hx=>by rw[zQ,xg hx,cond_true,zU hx,Option.bind_some,zJ (by have:=yG hx;omega)];rfl) (fun K=>by rw[zQ,zZ];rfl)
theorem ix9{l:List zm}{ed:EB}(h:l.length≤9223372036854775807):we l ed=some (yH (kJ (fun x=>decide (x.Name=ed.n)) l)) :=
 yg l _ (zR ed l ((List.length l:Nat):Int)) h (fun K i x hx=>by rw[zR,xg hx,cond_true,uA hx,zJ (by have:=yG hx;omega)];rfl) (fun K=>by rw[zR,zZ];rfl)
theorem ix11{l:List Cap}{ed:EB}(h:l.length≤9223372036854775807):xB l ed=some (yH (kJ (fun x=>decide (x.Name=ed.n)) l)) :=
 yg l _ (zB ed l ((List.length l:Nat):Int)) h (fun K i x hx=>by rw[zB,xg hx,cond_true,uA hx,zJ (by have:=yG hx;omega)];rfl) (fun K=>by rw[zB,zZ];rfl)
theorem ix10{l:List Cap}{ed:EB}(h:l.length≤9223372036854775807):xA l ed=some (yH (kJ (fun x=>decide (x.Name=ed.n)) l)) :=
 yg l _ (zA ed l ((List.length l:Nat):Int)) h (fun K i x hx=>by rw[zA,xg hx,cond_true,zU hx,Option.bind_some,zJ (by have:=yG hx;omega)];rfl) (fun K=>by rw[zA,zZ];rfl)
theorem cl2{l:List zb}(h:l.length≤100000):yo l=some l:=by
 unfold yo;rw[List.nil_append,zV (by omega)];rfl
theorem cl3{l:List Def}(h:l.length≤100000):y9 l=some l:=by
 unfold y9;rw[List.nil_append,zV (by omega)];rfl
theorem cl4{l:List Table}(h:l.length≤100000):xa l=some l:=by
 unfold xa;rw[List.nil_append,zV (by omega)];rfl
theorem cl5{l:List Entry}(h:l.length≤100000):wu l=some l:=by
 unfold wu;rw[List.nil_append,zV (by omega)];rfl
theorem cl6{l:List zm}(h:l.length≤100000):xb l=some l:=by
 unfold xb;rw[List.nil_append,zV (by omega)];rfl
theorem cl7{l:List Cap}(h:l.length≤100000):xd l=some l:=by
 unfold xd;rw[List.nil_append,zV (by omega)];rfl
theorem cl8{l:List View}(h:l.length≤100000):wv l=some l:=by
 unfold wv;rw[List.nil_append,zV (by omega)];rfl
theorem cl9{l:List zj}(h:l.length≤100000):xe l=some l:=by
 unfold xe;rw[List.nil_append,zV (by omega)];rfl
theorem cl10{l:List Entry}(h:l.length≤100000):xR l=some l:=by
 unfold xR;rw[List.nil_append,zV (by omega)];rfl
theorem cl11{l:List zw}(h:l.length≤100000):yE l=some l:=by
 unfold yE;rw[List.nil_append,zV (by omega)];rfl
theorem cl12{l:List (List UInt8)}(h:l.length≤100000):yF l=some l:=by
 unfold yF;rw[List.nil_append,zV (by omega)];rfl
theorem put1{l:List zb}{ed:EB}{most:Nat}{m:Int}(hm:m=(most:Int))(h:l.length≤100000):ZS l ed m=some (bif (kJ (fun x=>false) l).isNone&&decide (most≤l.length)then([],6)else(zep (fun x=>false) (fun x=>⟨ed.r0,ed.r1,ed.r2,ed.r3,ed.r4,ed.r5,ed.r6,ed.r7,⟨ed.r8,ed.r9,ed.r10,ed.r11,ed.r12⟩,⟨ed.r13,ed.r14,ed.r15,ed.r16⟩,ed.r17,ed.r18,ed.r19⟩) ja l,0)):=by
 unfold ZS
 exact J4 (g:=fun x:zb=>false) (c:=fun x:zb=>⟨ed.r0,ed.r1,ed.r2,ed.r3,ed.r4,ed.r5,ed.r6,ed.r7,⟨ed.r8,ed.r9,ed.r10,ed.r11,ed.r12⟩,⟨ed.r13,ed.r14,ed.r15,ed.r16⟩,ed.r17,ed.r18,ed.r19⟩) (z:=(ja:zb)) (bytes:=232) (Ap:=fun q i=>ky q i ed) hm (by omega) (cl2 h) (ix3 (by omega)) (fun q i x hx=>by
  show ky q (i:Int) ed=_
  unfold ky
  rw[Int.toNat_natCast,hx];rfl)
theorem put2{l:List zb}{n:List UInt8}{ed:EB}{most:Nat}{m:Int}(hm:m=(most:Int))(h:l.length≤100000):HX l n ed m=some (bif (kJ (fun x=>decide (x.Name=n)) l).isNone&&decide (most≤l.length)then([],6)else(zep (fun x=>decide (x.Name=n)) (fun x=>{ x with Until:=ed.m }) ja l,0)):=by
 unfold HX
 exact J4 (g:=fun x:zb=>decide (x.Name=n)) (c:=fun x:zb=>{ x with Until:=ed.m }) (z:=(ja:zb)) (bytes:=232) (Ap:=fun q i=>kz q i ed) hm (by omega) (cl2 h) (ix4 (by omega)) (fun q i x hx=>by
  show kz q (i:Int) ed=_
  unfold kz
  rw[Int.toNat_natCast,hx,Option.bind_some,zy])
theorem put3{l:List Def}{ed:EB}{most:Nat}{m:Int}(hm:m=(most:Int))(h:l.length≤100000):HY l ed m=some (bif (kJ (fun x=>decide (x.Name=ed.n)) l).isNone&&decide (most≤l.length)then([],6)else(zep (fun x=>decide (x.Name=ed.n)) (fun x=>⟨ed.n,⟨ed.b0,ed.b1,ed.b2,ed.b3,ed.b4⟩⟩) ⟨[],jN⟩ l,0)):=by
 unfold HY
 exact J4 (g:=fun x:Def=>decide (x.Name=ed.n)) (c:=fun x:Def=>⟨ed.n,⟨ed.b0,ed.b1,ed.b2,ed.b3,ed.b4⟩⟩) (z:=(⟨[],jN⟩:Def)) (bytes:=88) (Ap:=fun q i=>kA q i ed) hm (by omega) (cl3 h) (ix5 (by omega)) (fun q i x hx=>by
  show kA q (i:Int) ed=_
  unfold kA
  rw[Int.toNat_natCast,hx];rfl)
theorem put5{l:List Entry}{ed:EB}{most:Nat}{m:Int}(hm:m=(most:Int))(h:l.length≤100000):oE l ed m=some (bif (kJ (fun x=>decide (x.Name=ed.y)) l).isNone&&decide (most≤l.length)then([],6)else(zep (fun x=>decide (x.Name=ed.y)) (fun x=>⟨ed.y,ed.m⟩) ⟨[],0⟩ l,0)):=by
 unfold oE
 exact J4 (g:=fun x:Entry=>decide (x.Name=ed.y)) (c:=fun x:Entry=>⟨ed.y,ed.m⟩) (z:=(⟨[],0⟩:Entry)) (bytes:=24) (Ap:=fun q i=>wZ q i ed) hm (by omega) (cl5 h) (ix7 (by omega)) (fun q i x hx=>by
  show wZ q (i:Int) ed=_
  unfold wZ
  rw[Int.toNat_natCast,hx];rfl)
theorem put6{l:List zm}{ed:EB}{most:Nat}{m:Int}(hm:m=(most:Int))(h:l.length≤100000):H4 l ed m=some (bif (kJ (fun x=>decide (x.Name=ed.n)) l).isNone&&decide (most≤l.length)then([],6)else(zep (fun x=>decide (x.Name=ed.n)) (fun x=>⟨ed.n,decide (ed.m=1),ed.c⟩) ⟨[],false,[]⟩ l,0)):=by
 unfold H4
 exact J4 (g:=fun x:zm=>decide (x.Name=ed.n)) (c:=fun x:zm=>⟨ed.n,decide (ed.m=1),ed.c⟩) (z:=(⟨[],false,[]⟩:zm)) (bytes:=48) (Ap:=fun q i=>vO q i ed) hm (by omega) (cl6 h) (ix9 (by omega)) (fun q i x hx=>by
  show vO q (i:Int) ed=_
  unfold vO
  rw[Int.toNat_natCast,hx];rfl)
theorem put7{l:List Cap}{ed:EB}{most:Nat}{m:Int}(hm:m=(most:Int))(h:l.length≤100000):H5 l ed m=some (bif (kJ (fun x=>decide (x.Name=ed.n)) l).isNone&&decide (most≤l.length)then([],6)else(zep (fun x=>decide (x.Name=ed.n)) (fun x=>{ x with Limit:=ed.m }) ⟨[],0,0,[]⟩ l,0)):=by
 unfold H5
 exact J4 (g:=fun x:Cap=>decide (x.Name=ed.n)) (c:=fun x:Cap=>{ x with Limit:=ed.m }) (z:=(⟨[],0,0,[]⟩:Cap)) (bytes:=56) (Ap:=fun q i=>vP q i ed) hm (by omega) (cl7 h) (ix11 (by omega)) (fun q i x hx=>by
  show vP q (i:Int) ed=_
  unfold vP
  rw[Int.toNat_natCast,hx];rfl)
def enc:Ed→zn
 |.rule r=>⟨0,[],[],0,r,jN,[]⟩
 |.fin n d=>⟨1,n,[],d,ja,jN,[]⟩
 |.dfn d=>⟨2,d.Name,[],0,ja,d.Body,[]⟩
 |.row n x=>⟨3,n,x.Name,x.N,ja,jN,[]⟩
 |.zone z=>⟨4,z.Name,[],bif z.Overlay then 1 else 0,ja,jN,z.Corners⟩
 |.lim n v=>⟨5,n,[],v,ja,jN,[]⟩
def o7(p:zu):Ed→Int
 |.rule r=>if r.Name∈p.Rules.map zb.Name then 5 else if 200≤p.Rules.length then 6 else 0
 |.fin n d=>match KL.get zb.Name n p.Rules with
  |none=>4
  |some r=>if d≤r.From then 20 else 0
 |.dfn d=>if d.Name ∉ p.Defs.map Def.Name∧60≤p.Defs.length then 6 else 0
 |.row n x=>if(n ∉ p.Tables.map Table.Name∧60≤p.Tables.length)∨(x.Name ∉ ((KL.get Table.Name n p.Tables).getD (zT n)).Rows.map Entry.Name∧60≤((KL.get Table.Name n p.Tables).getD (zT n)).Rows.length)then 6 else 0
 |.zone z=>if(∃y,KL.get zm.Name z.Name p.Zones=some y∧y.Overlay≠z.Overlay)then 17 else if z.Name ∉ p.Zones.map zm.Name∧60≤p.Zones.length then 6 else 0
 |.lim n _=>match KL.get Cap.Name n p.Caps with
  |none=>4
  |some _=>0
theorem zak{p:zu}{e:Ed}:(app p e).isSome=true↔o7 p e=0:=by
 cases e with
 |rule r =>
  simp only[app,o7];by_cases h1:r.Name∈p.Rules.map zb.Name
  ·rw[if_pos (.inl h1),if_pos h1];simp
  ·by_cases h2:200≤p.Rules.length
   ·rw[if_pos (.inr h2),if_neg h1,if_pos h2];simp
   ·rw[if_neg (fun h=>h.elim h1 h2),if_neg h1,if_neg h2];simp
 |fin n d =>
  simp only[app,o7]
  cases KL.get zb.Name n p.Rules with
  |none=>simp
  |some r =>
   dsimp only;by_cases h:d≤r.From
   ·rw[if_pos h,if_pos h];simp
   ·rw[if_neg h,if_neg h];simp
 |dfn d =>
  simp only[app,o7];by_cases h:d.Name ∉ p.Defs.map Def.Name∧60≤p.Defs.length
  ·rw[if_pos h,if_pos h];simp
  ·rw[if_neg h,if_neg h];simp
 |row n x =>
  simp only[app,o7];by_cases h:(n ∉ p.Tables.map Table.Name∧60≤p.Tables.length)∨(x.Name ∉ ((KL.get Table.Name n p.Tables).getD (zT n)).Rows.map Entry.Name∧60≤((KL.get Table.Name n p.Tables).getD (zT n)).Rows.length)
  ·rw[if_pos h,if_pos h];simp
  ·rw[if_neg h,if_neg h];simp
 |zone z =>
  simp only[app,o7];by_cases h1:∃y,KL.get zm.Name z.Name p.Zones=some y∧y.Overlay≠z.Overlay
  ·rw[if_pos (.inr h1),if_pos h1];simp
  ·by_cases h2:z.Name ∉ p.Zones.map zm.Name∧60≤p.Zones.length
   ·rw[if_pos (.inl h2),if_neg h1,if_pos h2];simp
   ·rw[if_neg (fun h=>h.elim h2 h1),if_neg h1,if_neg h2];simp
 |lim n v =>
  simp only[app,o7];cases KL.get Cap.Name n p.Caps<;>simp
def fp(c:Int)(q:zu):Int×(List Def)×(List Table)×(List zm)×(List zb)×(List Cap)×(List View)×(List zj)×Int:=(c,q.Defs,q.Tables,q.Zones,q.Rules,q.Caps,q.Views,q.Sun,q.Hours)
structure zz5(p:zu):Prop where
 d:p.Defs.length≤100000
 t:p.Tables.length≤100000
 z:p.Zones.length≤100000
 r:p.Rules.length≤100000
 c:p.Caps.length≤100000
 rows:∀t∈p.Tables,t.Rows.length≤100000
theorem zje{α:Type}{key:α→List UInt8}{k:List UInt8}{l:List α}:(kJ (fun x=>decide (key x=k)) l).isNone=decide (k ∉ l.map key):=by
 have:=Qv (key:=key) (k:=k) (l:=l)
 cases h:kJ (fun x=>decide (key x=k)) l with
 |none=>rw[h]at this;rw[decide_eq_true (of_decide_eq_false this.symm)];rfl
 |some i=>rw[h]at this;rw[decide_eq_false (fun g=>g (of_decide_eq_true this.symm))];rfl
theorem YW{α:Type}:∀{l:List α},kJ (fun _=>false) l=none
 |[]=>rfl
 |x::r=>by rw[kJ,cond_false,YW];rfl
theorem YX{α:Type}{c:α→α}{z:α}:∀{l:List α},zep (fun _=>false) c z l=l++[c z]
 |[]=>rfl
 |x::r=>by rw[zep,cond_false,YX];rfl
theorem zz6{p q:Prop}[Decidable p][Decidable q]:(decide p&&decide q)=decide (p∧q):=by
 by_cases hp:p<;>by_cases hq:q<;>simp[hp,hq]
theorem Wd{α:Type}{key:α→List UInt8}{k:List UInt8}{c:α→α}{z:α}{most:Nat}{l:List α}:(bif (kJ (fun x=>decide (key x=k)) l).isNone&&decide (most≤l.length)then(([]:List α),(6:Int))else(zep (fun x=>decide (key x=k)) c z l,0))=if k ∉ l.map key∧most≤l.length then([],6)else(KL.put key k c z l,0):=by
 rw[zje,zz6,zai];by_cases h:k ∉ l.map key∧most≤l.length
 ·rw[decide_eq_true h,if_pos h];rfl
 ·rw[decide_eq_false h,if_neg h];rfl
theorem o8{α:Type}[Inhabited α]{β:Type}{key:α→List UInt8}{k:List UInt8}{l:List α}{f:α→β}{b:β}:(bif decide (yH (kJ (fun x=>decide (key x=k)) l)≥0)then(idx l (yH (kJ (fun x=>decide (key x=k)) l))).bind fun x=>some (f x)else some b)=some (((KL.get key k l).map f).getD b):=by
 rw[zz4,← zah]
 cases h:kJ (fun x=>decide (key x=k)) l with
 |none=>rfl
 |some i =>
  obtain⟨x,h1,_⟩:=zag h;rw[Option.isSome_some,cond_true,Option.bind_some,h1,yH,zU h1,Option.bind_some];rfl
theorem has2{l:List zb}{n:List UInt8}(h:l.length≤9223372036854775807):zY l n=some (decide (n∈l.map zb.Name)):=by
 unfold zY;rw[ix2 h,Option.bind_some,zz4,Qv]
theorem has3{l:List Cap}{ed:EB}(h:l.length≤9223372036854775807):yh l ed=some (decide (ed.n∈l.map Cap.Name)):=by
 unfold yh;rw[ix10 h,Option.bind_some,zz4,Qv]
theorem get_some{α:Type}{key:α→List UInt8}{k:List UInt8}{l:List α}:(KL.get key k l).isSome=decide (k∈l.map key):=by
 cases h:KL.get key k l with
 |none=>rw[decide_eq_false (KL.get_none.1 h)];rfl
 |some x=>rw[decide_eq_true (V9 h)];rfl
theorem zal{α:Type}{key:α→List UInt8}{k:List UInt8}{c:α→α}{z z':α}:∀{l:List α},k∈l.map key→KL.put key k c z l=KL.put key k c z' l
 |[],h=>by cases h
 |x::r,h=>by
  rw[KL.put,KL.put];by_cases e:key x=k
  ·rw[if_pos e,if_pos e]
  ·rw[if_neg e,if_neg e,zal (by
    rw[List.map_cons,List.mem_cons]at h
    exact h.resolve_left (Ne.symm e))]
theorem zE7{l:List zb}{n:List UInt8}{ed:EB}(h:l.length≤100000):kW l n ed=some (match KL.get zb.Name n l with|none=>([],4)|some r=>(KL.put zb.Name n (fun x=>{ x with Until:=ed.m }) r l,0)):=by
 unfold kW;rw[has2 (by omega),Option.bind_some,← get_some]
 cases hg:KL.get zb.Name n l with
 |none=>rfl
 |some r =>
  have hin:=V9 hg;rw[Option.isSome_some,Bool.not_true,cond_false,put2 (most:=l.length) rfl h,Wd,if_neg (fun e=>e.1 hin),Option.bind_some]
  congr 3
  exact zal hin
theorem zE8{l:List Cap}{ed:EB}(h:l.length≤100000):vH l ed=some (match KL.get Cap.Name ed.n l with|none=>([],4)|some r=>(KL.put Cap.Name ed.n (fun x=>{ x with Limit:=ed.m }) r l,0)):=by
 unfold vH;rw[has3 (by omega),Option.bind_some,← get_some]
 cases hg:KL.get Cap.Name ed.n l with
 |none=>rfl
 |some r =>
  have hin:=V9 hg;rw[Option.isSome_some,Bool.not_true,cond_false,put7 (most:=l.length) rfl h,Wd,if_neg (fun e=>e.1 hin),Option.bind_some]
  congr 3
  exact zal hin
theorem o9{α:Type}{key:α→List UInt8}{k:List UInt8}{c c':α→α}{z z':α}(hz:c z=c' z'):∀{l:List α},(∀x,KL.get key k l=some x→c x=c' x)→KL.put key k c z l=KL.put key k c' z' l
 |[],_=>by rw[KL.put,KL.put,hz]
 |x::r,h=>by
  rw[KL.put,KL.put];by_cases e:key x=k
  ·rw[if_pos e,if_pos e,h x (by rw[KL.get,if_pos e])]
  ·rw[if_neg e,if_neg e,o9 hz fun y hy=>h y (by rw[KL.get,if_neg e];exact hy)]
def We(y:List UInt8)(m:Int)(l:List Entry):List Entry×Int:=if y ∉ l.map Entry.Name∧60≤l.length then([],6)else(KL.put Entry.Name y (fun _=>⟨y,m⟩) ⟨[],0⟩ l,0)
theorem put5'{l:List Entry}{ed:EB}(h:l.length≤100000):oE l ed 60=some (We ed.y ed.m l):=by
 rw[put5 (m:=60) (most:=60) rfl h,Wd];rfl
theorem ap8{q:List Table}{i:Nat}{x:Table}{ed:EB}{t:Int}(hx:q[i]?=some x)(h:x.Rows.length≤100000):kB q (i:Int) ed t=some (q.set i ⟨ed.n,(We ed.y ed.m x.Rows).1,x.Else⟩,(We ed.y ed.m x.Rows).2):=by
 have hl:=yG hx;unfold kB;rw[Int.toNat_natCast,hx,Option.bind_some,List.getElem?_set_self hl,Option.bind_some,put5' h,Option.bind_some,Option.bind_some,List.set_set]
theorem put4{l:List Table}{ed:EB}(h:l.length≤100000)(hr:∀t∈l,t.Rows.length≤100000):
  H0 l ed 0 60=some (if ed.n ∉ l.map Table.Name∧60≤l.length then([],6,0)else(KL.put Table.Name ed.n (fun x=>⟨ed.n,(We ed.y ed.m x.Rows).1,x.Else⟩) ⟨[],[],0⟩ l,0,(We ed.y ed.m ((KL.get Table.Name ed.n l).getD ⟨[],[],0⟩).Rows).2)):=by
 unfold H0;rw[cl4 h,Option.bind_some,ix6 (by omega),Option.bind_some,zE6,← zah,← zai]
 cases hf:kJ (fun x:Table=>decide (x.Name=ed.n)) l with
 |none =>
  have hk:ed.n ∉ l.map Table.Name:=by
   have:=zje (key:=Table.Name) (k:=ed.n) (l:=l);rw[hf]at this;exact of_decide_eq_true this.symm
  rw[Option.isNone_none,cond_true];by_cases h6:60≤l.length
  ·rw[decide_eq_true (by omega:((List.length l:Nat):Int)≥60),if_pos ⟨hk,h6⟩];rfl
  ·rw[decide_eq_false (by omega:¬((List.length l:Nat):Int)≥60),if_neg (fun e=>h6 e.2),cond_false,zV (by simp;omega),Option.bind_some,Option.bind_some]
   simp only[yj,Int.toNat_natCast];rw[zV (by simp;omega),Option.bind_some,ap8 (q:=l++[(⟨[],[],0⟩:Table)]) (i:=l.length) (x:=(⟨[],[],0⟩:Table)) (by simp) (by simp),Option.bind_some,zV (zaj (by simp)),Option.bind_some];rw[← Wc hf];rfl
 |some i =>
  obtain⟨x,h1,h2⟩:=zag hf;have:=yG h1;have hk:ed.n∈l.map Table.Name:=List.mem_map.2 ⟨x,List.mem_of_getElem? h1,of_decide_eq_true h2⟩;rw[Option.isNone_some,cond_false,Option.bind_some,if_neg (fun e=>e.1 hk),Option.bind_some,h1]
  show(grd (0≤(i:Int)∧(i:Int)<((List.length l:Nat):Int))).bind (fun _=>(kB l ((Int.toNat (i:Int):Nat):Int) ed 0).bind fun x6=>(grd (eqB [(List.length l,List.length x6.1)]=true)).bind fun _=>some (x6.1,(0:Int),x6.2))=_
  rw[zV (by omega),Option.bind_some,Int.toNat_natCast,ap8 h1 (hr x (List.mem_of_getElem? h1)),Option.bind_some,zV (zaj (by simp)),Option.bind_some,← Wb hf h1];rfl
theorem zz7{p:zu}{d:Ed}(h:zz5 p):∃q,yn p (enc d)=some (fp (o7 p d) q)∧∀r,app p d=some r→q=r:=by
 cases d with
 |rule r =>
  show ∃q,yn p (⟨0,[],[],0,r,jN,[]⟩:zn)=_∧_
  unfold yn;dsimp only;simp only[decide_true,cond_true,vz,Option.bind_some];rw[has2 (by have:=h.r;omega),Option.bind_some,put1 (m:=200) (most:=200) rfl h.r,YW,Option.isNone_none,Bool.true_and,YX];simp only[app,o7];by_cases h1:r.Name∈p.Rules.map zb.Name
  ·rw[decide_eq_true h1,if_pos h1]
   exact⟨p,rfl,fun q hq=>by rw[if_pos (.inl h1)]at hq;cases hq⟩
  ·rw[decide_eq_false h1,if_neg h1]
   by_cases h2:200≤p.Rules.length
   ·rw[decide_eq_true h2,if_pos h2]
    exact⟨{ p with Rules:=[] },rfl,fun q hq=>by rw[if_pos (.inr h2)]at hq;cases hq⟩
   ·rw[decide_eq_false h2,if_neg h2,if_neg (fun e=>e.elim h1 h2)]
    exact⟨{ p with Rules:=p.Rules++[r] },by
     obtain⟨a1,a2,a3,a4,a5,a6,a7,a8,⟨b1,b2,b3,b4,b5⟩,a10,a11,a12,a13⟩:=r
     rfl,fun q hq=>Option.some.inj hq⟩
 |fin n d =>
  show ∃q,yn p (⟨1,n,[],d,ja,jN,[]⟩:zn)=_∧_
  unfold yn;dsimp only;simp only[Int.reduceEq,decide_true,decide_false,cond_true,cond_false,vz,Option.bind_some];rw[ix2 (by have:=h.r;omega),Option.bind_some,o8 (key:=zb.Name) (k:=n) (l:=p.Rules) (b:=false) (f:=fun x8:zb=>decide (d≤x8.From)),Option.bind_some,zE7 h.r,Option.bind_some];simp only[app,o7]
  cases hg:KL.get zb.Name n p.Rules with
  |none=>exact⟨{ p with Rules:=[] },rfl,fun q hq=>by cases hq⟩
  |some r =>
   dsimp only[Option.map_some,Option.getD_some];by_cases h1:d≤r.From
   ·rw[decide_eq_true h1,if_pos h1,if_pos h1]
    exact⟨p,rfl,fun q hq=>by cases hq⟩
   ·rw[decide_eq_false h1,if_neg h1,if_neg h1]
    exact⟨_,rfl,fun q hq=>Option.some.inj hq⟩
 |dfn d =>
  show ∃q,yn p (⟨2,d.Name,[],0,ja,d.Body,[]⟩:zn)=_∧_
  unfold yn;dsimp only;simp only[Int.reduceEq,decide_true,decide_false,cond_true,cond_false];rw[put3 (m:=60) (most:=60) rfl h.d,Wd,Option.bind_some];simp only[app,o7];by_cases h1:d.Name ∉ p.Defs.map Def.Name∧60≤p.Defs.length
  ·rw[if_pos h1,if_pos h1,if_pos h1]
   exact⟨{ p with Defs:=[] },rfl,fun q hq=>by cases hq⟩
  ·rw[if_neg h1,if_neg h1,if_neg h1]
   refine⟨{ p with Defs:=KL.put Def.Name d.Name (fun _=>d) d p.Defs },?_,fun q hq=>Option.some.inj hq⟩
   have hd:(⟨d.Name,⟨d.Body.Op,d.Body.N,d.Body.S,d.Body.Key,d.Body.Args⟩⟩:Def)=d:=by rw[zy]
   simp only[hd];rw[o9 (c':=fun _=>d) (z':=d) rfl fun _ _=>rfl];rfl
 |row n x =>
  show ∃q,yn p (⟨3,n,x.Name,x.N,ja,jN,[]⟩:zn)=_∧_
  unfold yn;dsimp only;simp only[Int.reduceEq,decide_true,decide_false,cond_true,cond_false];rw[put4 h.t h.rows,Option.bind_some];simp only[app,o7];by_cases h1:n ∉ p.Tables.map Table.Name∧60≤p.Tables.length
  ·rw[if_pos h1,if_pos (.inl h1),if_pos (.inl h1)]
   exact⟨{ p with Tables:=[] },rfl,fun q hq=>by cases hq⟩
  ·rw[if_neg h1]
   have hget:((KL.get Table.Name n p.Tables).getD ⟨[],[],0⟩).Rows=((KL.get Table.Name n p.Tables).getD (zT n)).Rows:=by
    cases KL.get Table.Name n p.Tables<;>rfl
   by_cases h2:x.Name ∉ ((KL.get Table.Name n p.Tables).getD (zT n)).Rows.map Entry.Name∧60≤((KL.get Table.Name n p.Tables).getD (zT n)).Rows.length
   ·rw[if_pos (.inr h2),if_pos (.inr h2)]
    simp only[hget,We,if_pos h2];exact⟨{ p with Tables:=_ },rfl,fun q hq=>by cases hq⟩
   ·rw[if_neg (fun e=>e.elim h1 h2),if_neg (fun e=>e.elim h1 h2)]
    refine⟨{ p with Tables:=KL.put Table.Name n (zav x) (zT n) p.Tables },?_,fun q hq=>Option.some.inj hq⟩
    have e2:(We x.Name x.N ((KL.get Table.Name n p.Tables).getD (zT n)).Rows).2=0:=by
     unfold We;rw[if_neg h2]
    simp only[hget];rw[e2]
    show some (max 0 0,p.Defs,KL.put Table.Name n (fun y:Table=>(⟨n,(We x.Name x.N y.Rows).1,y.Else⟩:Table)) ⟨[],[],0⟩ p.Tables,p.Zones,p.Rules,p.Caps,p.Views,p.Sun,p.Hours)=some (0,p.Defs,KL.put Table.Name n (zav x) (zT n) p.Tables,p.Zones,p.Rules,p.Caps,p.Views,p.Sun,p.Hours)
    rw[o9 (c':=zav x) (z':=zT n) ?_ ?_]
    ·rfl
    ·unfold We
     rw[if_neg (by simp)];rfl
    ·intro y hg
     have hy:=(KL.kH hg).1;rw[hg]at h2;have h2:¬(x.Name ∉ y.Rows.map Entry.Name∧60≤y.Rows.length):=h2;unfold We zav;rw[if_neg h2];obtain⟨a,b,c⟩:=y;dsimp only at hy;subst hy
     show(⟨a,KL.put Entry.Name x.Name (fun _=>x) ⟨[],0⟩ b,c⟩:Table)=⟨a,KL.put Entry.Name x.Name (fun _=>x) x b,c⟩
     rw[o9 (c':=fun _=>x) (z':=x) rfl fun _ _=>rfl]
 |zone z =>
  show ∃q,yn p (⟨4,z.Name,[],bif z.Overlay then 1 else 0,ja,jN,z.Corners⟩:zn)=_∧_
  unfold yn;dsimp only
  have ho:decide ((bif z.Overlay then(1:Int)else 0)=1)=z.Overlay:=by cases z.Overlay<;>rfl
  simp only[Int.reduceEq,decide_true,decide_false,cond_true,cond_false,ho];rw[ix8 (by have:=h.z;omega),Option.bind_some,o8 (key:=zm.Name) (k:=z.Name) (l:=p.Zones) (b:=false) (f:=fun x:zm=>!(x.Overlay==z.Overlay)),Option.bind_some,put6 (m:=60) (most:=60) rfl h.z,Wd];simp only[app,o7];by_cases h1:∃y,KL.get zm.Name z.Name p.Zones=some y∧y.Overlay≠z.Overlay
  ·rw[if_pos h1,if_pos (Or.inr h1)]
   obtain⟨y,hg,hy⟩:=h1
   have:(y.Overlay==z.Overlay)=false:=by simpa using hy
   rw[hg,Option.map_some,Option.getD_some,this];exact⟨p,rfl,fun q hq=>by cases hq⟩
  ·have:((KL.get zm.Name z.Name p.Zones).map fun x:zm=>!(x.Overlay==z.Overlay)).getD false=false:=by
    cases hg:KL.get zm.Name z.Name p.Zones with
    |none=>rfl
    |some y =>
     have:y.Overlay=z.Overlay:=Classical.byContradiction fun e=>h1 ⟨y,hg,e⟩
     simp[this]
   rw[this,if_neg h1,cond_false];by_cases h2:z.Name ∉ p.Zones.map zm.Name∧60≤p.Zones.length
   ·rw[if_pos h2,if_pos h2,if_pos (Or.inl h2)]
    exact⟨{ p with Zones:=[] },rfl,fun q hq=>by cases hq⟩
   ·rw[if_neg h2,if_neg h2,if_neg (fun e=>e.elim h2 h1)]
    refine⟨{ p with Zones:=KL.put zm.Name z.Name (fun _=>z) z p.Zones },?_,fun q hq=>Option.some.inj hq⟩;simp only[ho];rw[o9 (c':=fun _=>z) (z':=z) rfl fun _ _=>rfl];rfl
 |lim n v =>
  show ∃q,yn p (⟨5,n,[],v,ja,jN,[]⟩:zn)=_∧_
  unfold yn;dsimp only;simp only[Int.reduceEq,decide_true,decide_false,cond_true,cond_false];rw[zE8 h.c,Option.bind_some];simp only[app,o7]
  cases hg:KL.get Cap.Name n p.Caps with
  |none=>exact⟨{ p with Caps:=[] },rfl,fun q hq=>by cases hq⟩
  |some c=>exact⟨_,rfl,fun q hq=>Option.some.inj hq⟩
theorem zjf{α:Type}(l:List α)(L:Nat→(Int×List α)→Option (List α))(hL:∀K (i:Nat) x,l[i]?=some x→L (K+1) ((i:Int),l)=L K (((i+1:Nat):Int),l))(hE:∀K,L (K+1) ((l.length:Int),l)=some l):
  ∀(r:List α)(i K:Nat),l.drop i=r→i≤l.length→r.length<K→L K ((i:Int),l)=some l
 |[],i,K,hr,hi,hK=>by
  obtain⟨K,rfl⟩:∃k,K=k+1:=⟨K-1,by omega⟩
  have:=drop_nil hr hi
  have e:i=l.length:=by omega
  rw[e,hE]
 |x::r,i,K,hr,hi,hK=>by
  obtain⟨K,rfl⟩:∃k,K=k+1:=⟨K-1,by omega⟩
  obtain⟨h1,h2,h3⟩:=xT hr;simp only[List.length_cons]at hK;rw[hL K i x h1,zjf l L hL hE r (i+1) K h2 (by omega) (by omega)]
theorem J5{α:Type}(l:List α)(L:Nat→(Int×List α)→Option (List α))(hs:l.length≤100000)(hL:∀K (i:Nat) x,l[i]?=some x→L (K+1) ((i:Int),l)=L K (((i+1:Nat):Int),l))(hE:∀K,L (K+1) ((l.length:Int),l)=some l):L KK (0,l)=some l :=
 zjf l L hL hE l 0 KK rfl (Nat.zero_le _) (u9 (by omega))
theorem uB{α:Type}:∀{l:List α}{i:Nat}{x:α},l[i]?=some x→l.set i x=l
 |y::r,0,x,h=>by cases h;rfl
 |y::r,i+1,x,h=>by rw[List.set_cons_succ,uB (by simpa using h)]
def flE(e:Expr):Int×Int×(List UInt8)×(List UInt8)×(List Expr):=(e.Op,e.N,e.S,e.Key,e.Args)
theorem zv0{R:Expr→Option (Int×Int×(List UInt8)×(List UInt8)×(List Expr))}{l:List Expr}{c2 c3 c6:Int}{c4 c5 c7:List UInt8}{c8:List Expr}(hl:l.length≤1000000000)(hR:∀x∈l,R x=some (flE x)):
  ∀(r:List Expr)(i K:Nat),l.drop i=r→i≤l.length→r.length<K→xj R l ((List.length l:Nat):Int) c2 c3 c4 c5 c6 c7 c8 K ((i:Int),l.take i)=some l
 |[],i,K,hr,hi,hK=>by
  obtain⟨K,rfl⟩:∃k,K=k+1:=⟨K-1,by omega⟩
  have:=drop_nil hr hi
  have e:i=l.length:=by omega
  rw[xj];simp only[e,zZ,cond_false,List.take_length]
 |x::r,i,K,hr,hi,hK=>by
  obtain⟨K,rfl⟩:∃k,K=k+1:=⟨K-1,by omega⟩
  obtain⟨h1,h2,h3⟩:=xT hr;simp only[List.length_cons]at hK;rw[xj];simp only[xg h1,cond_true,zU h1,Option.bind_some,zy,hR x (List.mem_of_getElem? h1),flE]
  have e:l.take i++[x]=l.take (i+1):=by
   rw[List.take_succ,h1];rfl
  rw[e,zV (by rw[List.length_take];omega),Option.bind_some,zJ (by omega),zv0 hl hR r (i+1) K h2 (by omega) (by omega)]
theorem ownE:∀(n:Nat)(e:Expr)(K:Nat),K2 e≤n→n≤K→n≤1000000000→y3 K e=some (flE e):=by
 intro n
 induction n with
 |zero=>intro e K h;have:=zgy e;omega
 |succ n ih =>
  intro e K h hK hn
  obtain⟨K,rfl⟩:∃k,K=k+1:=⟨K-1,by omega⟩
  obtain⟨o,m,s,k,az⟩:=e;rw[K2]at h;have hz:=Qr az;rw[y3];have:=zv0 (R:=y3 K) (l:=az) (c2:=o) (c3:=m) (c6:=0) (c4:=s) (c5:=k) (c7:=[]) (c8:=[]) (by omega) (fun x hx=>ih x K (by have:=Qs hx;omega) (by omega) (by omega)) az 0 KK rfl (Nat.zero_le _) (u9 (by omega));rw[List.take_zero]at this;rw[show((0:Int),([]:List Expr))=(((0:Nat):Int),[]) from rfl,this];rfl
theorem zE9{e:Expr}(h:qQ e):y3 KK e=some (flE e):=ownE 1000000000 e KK h (Nat.le_of_lt (u9 (by omega))) (by omega)
structure OwnP(p:zu):Prop where
 lens:zz5 p
 v:p.Views.length≤100000
 s:p.Sun.length≤100000
 ds:∀x∈p.Defs,qQ x.Body
 zs:∀x∈p.Zones,x.Corners.length≤100000
 rs:∀x∈p.Rules,x.Zones.length≤100000∧x.Except.length≤100000∧qQ x.Test
 cs:∀x∈p.Caps,x.Corners.length≤100000
 vs:∀x∈p.Views,x.Targets.length≤100000
theorem zFa{c1:(List zj)}{c2:Int}{c3:(List zj)}{c4:Int}{c5:(List Table)}{c6:(List zm)}{c7:(List zb)}{c8:(List Cap)}{c9:(List View)}{c10:(List Def)}{c11:(List Table)}{c12:(List zm)}{c13:(List zb)}{c14:(List Cap)}{c15:(List View)}{l:List Def}(hl:l.length≤100000)(hb:∀x∈l,qQ x.Body):j4 ((List.length l:Nat):Int) c1 c2 c3 c4 c5 c6 c7 c8 c9 c10 c11 c12 c13 c14 c15 KK (0,l)=some l:=by
 refine J5 l _ hl (fun K i x hx=>?_) (fun K=>by rw[j4];simp only[zZ,cond_false])
 ·rw[j4]
  have hlt:=yG hx
  have hg:(0:Int)≤(i:Int)∧(i:Int)<((List.length l:Nat):Int):=by omega
  simp only[xg hx,cond_true,zV hg,hx,Int.toNat_natCast,Option.bind_some,zE9 (hb x (List.mem_of_getElem? hx)),flE,zy];rw[uB hx,zJ (by omega)]
theorem zFb{c1:(List zj)}{c2:Int}{c3:(List zj)}{c4:Int}{c5:(List Def)}{c6:(List zm)}{c7:(List zb)}{c8:(List Cap)}{c9:(List View)}{c10:(List Def)}{c11:(List Table)}{c12:(List zm)}{c13:(List zb)}{c14:(List Cap)}{c15:(List View)}{l:List Table}(hl:l.length≤100000)(hb:∀x∈l,x.Rows.length≤100000):j5 ((List.length l:Nat):Int) c1 c2 c3 c4 c5 c6 c7 c8 c9 c10 c11 c12 c13 c14 c15 KK (0,l)=some l:=by
 refine J5 l _ hl (fun K i x hx=>?_) (fun K=>by rw[j5];simp only[zZ,cond_false])
 ·rw[j5]
  have hlt:=yG hx
  have hg:(0:Int)≤(i:Int)∧(i:Int)<((List.length l:Nat):Int):=by omega
  simp only[xg hx,cond_true,zV hg,hx,Int.toNat_natCast,Option.bind_some,cl10 (hb x (List.mem_of_getElem? hx)),flE,zy];rw[uB hx,zJ (by omega)]
theorem zFc{c1:(List zj)}{c2:Int}{c3:(List zj)}{c4:Int}{c5:(List Def)}{c6:(List Table)}{c7:(List zb)}{c8:(List Cap)}{c9:(List View)}{c10:(List Def)}{c11:(List Table)}{c12:(List zm)}{c13:(List zb)}{c14:(List Cap)}{c15:(List View)}{l:List zm}(hl:l.length≤100000)(hb:∀x∈l,x.Corners.length≤100000):j6 ((List.length l:Nat):Int) c1 c2 c3 c4 c5 c6 c7 c8 c9 c10 c11 c12 c13 c14 c15 KK (0,l)=some l:=by
 refine J5 l _ hl (fun K i x hx=>?_) (fun K=>by rw[j6];simp only[zZ,cond_false])
 ·rw[j6]
  have hlt:=yG hx
  have hg:(0:Int)≤(i:Int)∧(i:Int)<((List.length l:Nat):Int):=by omega
  simp only[xg hx,cond_true,zV hg,hx,Int.toNat_natCast,Option.bind_some,cl11 (hb x (List.mem_of_getElem? hx)),flE,zy];rw[uB hx,zJ (by omega)]
theorem zFd{c1:(List zj)}{c2:Int}{c3:(List zj)}{c4:Int}{c5:(List Def)}{c6:(List Table)}{c7:(List zm)}{c8:(List Cap)}{c9:(List View)}{c10:(List Def)}{c11:(List Table)}{c12:(List zm)}{c13:(List zb)}{c14:(List Cap)}{c15:(List View)}{l:List zb}(hl:l.length≤100000)(hb:∀x∈l,x.Zones.length≤100000∧x.Except.length≤100000∧qQ x.Test):j7 ((List.length l:Nat):Int) c1 c2 c3 c4 c5 c6 c7 c8 c9 c10 c11 c12 c13 c14 c15 KK (0,l)=some l:=by
 refine J5 l _ hl (fun K i x hx=>?_) (fun K=>by rw[j7];simp only[zZ,cond_false])
 ·rw[j7]
  have hr:=hb x (List.mem_of_getElem? hx);have hlt:=yG hx
  have hg:(0:Int)≤(i:Int)∧(i:Int)<((List.length l:Nat):Int):=by omega
  simp only[xg hx,cond_true,zV hg,hx,Int.toNat_natCast,Option.bind_some,cl12 hr.1,cl12 hr.2.1,zy,zE9 hr.2.2,flE];simp only[uB hx,hx,zV hg,Option.bind_some];rw[zJ (by omega)]
theorem zFe{c1:(List zj)}{c2:Int}{c3:(List zj)}{c4:Int}{c5:(List Def)}{c6:(List Table)}{c7:(List zm)}{c8:(List zb)}{c9:(List View)}{c10:(List Def)}{c11:(List Table)}{c12:(List zm)}{c13:(List zb)}{c14:(List Cap)}{c15:(List View)}{l:List Cap}(hl:l.length≤100000)(hb:∀x∈l,x.Corners.length≤100000):j8 ((List.length l:Nat):Int) c1 c2 c3 c4 c5 c6 c7 c8 c9 c10 c11 c12 c13 c14 c15 KK (0,l)=some l:=by
 refine J5 l _ hl (fun K i x hx=>?_) (fun K=>by rw[j8];simp only[zZ,cond_false])
 ·rw[j8]
  have hlt:=yG hx
  have hg:(0:Int)≤(i:Int)∧(i:Int)<((List.length l:Nat):Int):=by omega
  simp only[xg hx,cond_true,zV hg,hx,Int.toNat_natCast,Option.bind_some,cl11 (hb x (List.mem_of_getElem? hx)),flE,zy];rw[uB hx,zJ (by omega)]
theorem zFf{c1:(List zj)}{c2:Int}{c3:(List zj)}{c4:Int}{c5:(List Def)}{c6:(List Table)}{c7:(List zm)}{c8:(List zb)}{c9:(List Cap)}{c10:(List Def)}{c11:(List Table)}{c12:(List zm)}{c13:(List zb)}{c14:(List Cap)}{c15:(List View)}{l:List View}(hl:l.length≤100000)(hb:∀x∈l,x.Targets.length≤100000):j9 ((List.length l:Nat):Int) c1 c2 c3 c4 c5 c6 c7 c8 c9 c10 c11 c12 c13 c14 c15 KK (0,l)=some l:=by
 refine J5 l _ hl (fun K i x hx=>?_) (fun K=>by rw[j9];simp only[zZ,cond_false])
 ·rw[j9]
  have hlt:=yG hx
  have hg:(0:Int)≤(i:Int)∧(i:Int)<((List.length l:Nat):Int):=by omega
  simp only[xg hx,cond_true,zV hg,hx,Int.toNat_natCast,Option.bind_some,cl9 (hb x (List.mem_of_getElem? hx)),flE,zy];rw[uB hx,zJ (by omega)]
theorem zz8{p:zu}(h:OwnP p):oG p=some (p.Sun,p.Hours,p.Defs,p.Tables,p.Zones,p.Rules,p.Caps,p.Views):=by
 unfold oG;rw[cl3 h.lens.d,Option.bind_some,cl4 h.lens.t,Option.bind_some,cl6 h.lens.z,Option.bind_some,cl2 h.lens.r,Option.bind_some,cl7 h.lens.c,Option.bind_some,cl8 h.v,Option.bind_some,cl9 h.s,Option.bind_some];rw[zFa h.lens.d h.ds,Option.bind_some,zFb h.lens.t h.lens.rows,Option.bind_some,zFc h.lens.z h.zs,Option.bind_some,zFd h.lens.r h.rs,Option.bind_some,zFe h.lens.c h.cs,Option.bind_some,zFf h.v h.vs,Option.bind_some]
mutual
theorem zeq:∀e:Expr,uT e=true
 |⟨_,_,s,k,az⟩=>by rw[uT,Wf az];simp
theorem Wf:∀l:List Expr,V5 l=true
 |[]=>rfl
 |e::r=>by rw[V5,zeq e,Wf r];rfl
end
theorem zg2{e:Expr}(h:K2 e≤5000):zaa e=true:=by
 unfold zaa;rw[zeq,decide_eq_true h];rfl
theorem zqx{r:zb}(h1:r.Zones.length≤3000)(h2:r.Except.length≤3000)(h3:K2 r.Test≤5000):zex r=true:=by
 unfold zex zEn;rw[zg2 h3,decide_eq_true h1,decide_eq_true h2];simp
def SzD(e:zn):Prop:=zex e.zb=true∧zaa e.Body=true∧e.Corners.length≤64
theorem zqy(D:List Def)(Z:List zm)(R:List zb)(hD:D.length≤300∧∀x∈D,zaa x.Body=true)(hZ:Z.length≤300∧∀x∈Z,x.Corners.length≤64)(hR:R.length≤300∧∀x∈R,zex x=true):zey ⟨D,[],Z,R,[],[],[],0⟩ :=
 ⟨hD.1,by simp,hZ.1,hR.1,by simp,by simp,by simp,fun x hx=>⟨by omega,hD.2 x hx⟩,fun x hx=>(by cases hx),fun x hx=>⟨by omega,hZ.2 x hx⟩,hR.2,fun x hx=>(by cases hx),fun x hx=>(by cases hx)⟩
theorem zey.fit{p:zu}(h:zey p):FitP p:=by
 refine⟨⟨by have:=h.d;omega,fun x hx=>qR (h.ds x hx).2⟩,⟨by have:=h.t;omega,fun x hx=>by have:=(h.ts x hx).2.1;omega⟩,⟨by have:=h.z;omega,fun x hx=>by have:=(h.zs x hx).2;omega⟩,⟨by have:=h.r;omega,fun x hx=>?_⟩,⟨by have:=h.c;omega,fun x hx=>by have:=(h.cs x hx).2;omega⟩,⟨by have:=h.v;omega,fun x hx=>by have:=(h.vs x hx).2;omega⟩,by have:=h.s;omega⟩;obtain⟨_,h2,h3,h4⟩:=Qu (h.rs x hx);exact⟨by have:=h2.1;omega,by have:=h3.1;omega,qR h4⟩
theorem uC(r:zb):zb.mk r.Name r.Zones r.Except r.From r.Until r.Grace r.Vary r.Kind (Expr.mk r.Test.Op r.Test.N r.Test.S r.Test.Key r.Test.Args) r.zg r.Uses r.Other r.N=r:=by
 rw[zy]
theorem zer{a b:zn}(h:SzD a):wX a b=some (pd (a=b)):=by
 obtain⟨k,n,y,m,r,b1,c⟩:=a;obtain⟨k',n',y',m',r',b1',c'⟩:=b;obtain⟨h1,h2,h3⟩:=h;dsimp only at h1 h2 h3;unfold wX;dsimp only;rw[uC r,uC r',zy b1,zy b1',uz (by omega),oZ (zey.fit (zqy _ _ _ ⟨by simp,fun x hx=>by rw[List.mem_singleton]at hx;subst hx;exact h2⟩ ⟨by simp,fun x hx=>by cases hx⟩ ⟨by simp,fun x hx=>by rw[List.mem_singleton]at hx;subst hx;exact h1⟩))];simp only[Option.bind_some,kM]
 have e:pd ((⟨k,n,y,m,r,b1,c⟩:zn)=⟨k',n',y',m',r',b1',c'⟩)=(pd (k=k')&&(pd (n=n')&&(pd (y=y')&&(pd (m=m')&&(pd (c=c')&&pd ((⟨[⟨[],b1⟩],[],[],[r],[],[],[],0⟩:zu)=⟨[⟨[],b1'⟩],[],[],[r'],[],[],[],0⟩)))))):=by
  simp only[← xv];refine xU ?_;simp only[zn.mk.injEq,zu.mk.injEq,List.cons.injEq,Def.mk.injEq,true_and,and_true];constructor
  ·rintro⟨rfl,rfl,rfl,rfl,rfl,rfl,rfl⟩;simp
  ·rintro⟨rfl,rfl,rfl,rfl,rfl,rfl,rfl⟩;simp
 rw[e];cases pd (k=k')<;>cases pd (n=n')<;>cases pd (y=y')<;>cases pd (m=m')<;>cases pd (c=c')<;>rfl
theorem zly{r:zb}:wO ⟨[],[],[],[r],[],[],[],0⟩↔yI r.Name=true∧K3 r:=by
 simp[wO,yp,zae,wN]
theorem zqz{d:Def}:wO ⟨[d],[],[],[],[],[],[],0⟩↔yI d.Name=true∧okE 12 d.Body=true:=by
 simp[wO,yp,zae,wN]
theorem zlz{z:zm}:wO ⟨[],[],[z],[],[],[],[],0⟩↔yI z.Name=true∧WR z.Corners:=by
 simp[wO,yp,zae,wN]
def fe(e:zn):Int×(List UInt8)×(List UInt8)×Int×(List UInt8)×(List (List UInt8))×(List (List UInt8))×Int×Int×Int×Bool×Int×Int×Int×(List UInt8)×(List UInt8)×(List Expr)×Int×Int×Int×Int×Int×Int×Int×Int×Int×(List UInt8)×(List UInt8)×(List Expr)×(List zw) :=
 (e.Kind,e.Name,e.Key,e.N,e.zb.Name,e.zb.Zones,e.zb.Except,e.zb.From,e.zb.Until,e.zb.Grace,e.zb.Vary,e.zb.Kind,e.zb.Test.Op,e.zb.Test.N,e.zb.Test.S,e.zb.Test.Key,e.zb.Test.Args,e.zb.zg.Side,e.zb.zg.Base,e.zb.zg.Num,e.zb.zg.Den,e.zb.Uses,e.zb.Other,e.zb.N,e.Body.Op,e.Body.N,e.Body.S,e.Body.Key,e.Body.Args,e.Corners)
theorem zq0{r:zb}:Ay ⟨[],[],[],[r],[],[],[],0⟩=some (fe (enc (.rule r))):=rfl
theorem zuh{d:Def}:Ay ⟨[d],[],[],[],[],[],[],0⟩=some (fe (enc (.dfn d))):=rfl
theorem zes{z:zm}:Ay ⟨[],[],[z],[],[],[],[],0⟩=some (fe (enc (.zone z))):=by
 obtain⟨n,o,c⟩:=z;cases o<;>rfl
def SzE:Ed→Prop
 |.rule r=>zex r=true
 |.dfn d=>zaa d.Body=true
 |.zone z=>z.Corners.length≤64
 |_=>True
theorem zq1:zaa jN=true:=zg2 (by simp[jN,K2,zqg])
theorem zq2:zex ja=true:=zqx (by simp[ja]) (by simp[ja]) (by simp[ja,jN,K2,zqg])
theorem Hj{d:Ed}(h:SzE d):SzD (enc d):=by
 cases d with
 |rule r=>exact⟨h,zq1,by simp[enc]⟩
 |dfn r=>exact⟨zq2,h,by simp[enc]⟩
 |zone z=>exact⟨zq2,zq1,h⟩
 |_=>exact⟨zq2,zq1,by simp[enc]⟩
theorem zl0{P:Prop}{b:Bool}(h:b=true↔P):some b=some (pd P):=congrArg some (jj h)
theorem zz9{e:zn}(h:SzD e):wY e=some (pd (∃d:Ed,d.ok∧enc d=e)):=by
 obtain⟨k,n,y,m,r,b1,c⟩:=e;have hz:SzD ⟨k,n,y,m,r,b1,c⟩:=h;obtain⟨h1,h2,h3⟩:=h;dsimp only at h1 h2 h3;unfold wY;dsimp only;rw[uC r,zy b1];unfold HW;dsimp only;rw[uC r,zy b1];by_cases k0:k=0
 ·subst k0
  simp only[decide_true,cond_true,Option.bind_some];rw[jO (zqy [] [] [r] ⟨by simp,fun x hx=>by cases hx⟩ ⟨by simp,fun x hx=>by cases hx⟩ ⟨by simp,fun x hx=>by rw[List.mem_singleton]at hx;subst hx;exact h1⟩),Option.bind_some];rw[zq0,Option.bind_some]
  show(bif _ then(wX (enc (.rule r)) ⟨0,n,y,m,r,b1,c⟩).bind fun x4=>some x4 else some false)=_
  rw[zer (b:=⟨0,n,y,m,r,b1,c⟩) (Hj (d:=.rule r) h1),Option.bind_some,vg,← xv];refine congrArg some (xU ?_);rw[zly];constructor
  ·rintro⟨g,e⟩;exact⟨.rule r,g,e⟩
  ·rintro⟨d,g,e⟩
   cases d with
   |rule r' =>
    have:r'=r:=by injection e
    subst this;exact⟨g,e⟩
   |_=>simp[enc]at e
 by_cases k2:k=2
 ·subst k2
  simp only[Int.reduceEq,decide_false,cond_false,decide_true,cond_true,Option.bind_some];rw[jO (zqy [⟨n,b1⟩] [] [] ⟨by simp,fun x hx=>by rw[List.mem_singleton]at hx;subst hx;exact h2⟩ ⟨by simp,fun x hx=>by cases hx⟩ ⟨by simp,fun x hx=>by cases hx⟩),Option.bind_some];rw[zuh,Option.bind_some]
  show(bif _ then(wX (enc (.dfn ⟨n,b1⟩)) ⟨2,n,y,m,r,b1,c⟩).bind fun x4=>some x4 else some false)=_
  rw[zer (b:=⟨2,n,y,m,r,b1,c⟩) (Hj (d:=.dfn ⟨n,b1⟩) h2),Option.bind_some,vg,← xv];refine congrArg some (xU ?_);rw[zqz];constructor
  ·rintro⟨g,e⟩;exact⟨.dfn ⟨n,b1⟩,g,e⟩
  ·rintro⟨d,g,e⟩
   cases d with
   |dfn d' =>
    obtain⟨n',b'⟩:=d';simp only[enc,zn.mk.injEq]at e;obtain⟨_,rfl,rfl,rfl,rfl,rfl,rfl⟩:=e;exact⟨g,rfl⟩
   |_=>simp[enc]at e
 by_cases k4:k=4
 ·subst k4
  simp only[Int.reduceEq,decide_false,cond_false,decide_true,cond_true,Option.bind_some];rw[jO (zqy [] [⟨n,decide (m=1),c⟩] [] ⟨by simp,fun x hx=>by cases hx⟩ ⟨by simp,fun x hx=>by rw[List.mem_singleton]at hx;subst hx;exact h3⟩ ⟨by simp,fun x hx=>by cases hx⟩),Option.bind_some];rw[zes,Option.bind_some]
  show(bif _ then(wX (enc (.zone ⟨n,decide (m=1),c⟩)) ⟨4,n,y,m,r,b1,c⟩).bind fun x4=>some x4 else some false)=_
  rw[zer (b:=⟨4,n,y,m,r,b1,c⟩) (Hj (d:=.zone ⟨n,decide (m=1),c⟩) h3),Option.bind_some,vg,← xv];refine congrArg some (xU ?_);rw[zlz];constructor
  ·rintro⟨g,e⟩;exact⟨.zone ⟨n,decide (m=1),c⟩,g,e⟩
  ·rintro⟨d,g,e⟩
   cases d with
   |zone d' =>
    obtain⟨n',o',c'⟩:=d';simp only[enc,zn.mk.injEq]at e;obtain⟨_,rfl,rfl,rfl,rfl,rfl,rfl⟩:=e
    have:decide ((bif o' then(1:Int)else 0)=1)=o':=by cases o'<;>rfl
    rw[this];exact⟨g,rfl⟩
   |_=>simp[enc]at e
 rw[decide_eq_false k0,decide_eq_false k2,decide_eq_false k4];simp only[cond_false,Option.bind_some];rw[zer hz];simp only[Option.bind_some];rw[z6 (Nat.zero_le _)]
 have hz0:(⟨k,n,y,m,r,b1,c⟩:zn)=⟨k,n,y,m,ja,jN,[]⟩↔(r=ja∧b1=jN∧c=[]):=by
  simp only[zn.mk.injEq,true_and]
 show(Option.bind (bif (!(pd ((⟨k,n,y,m,r,b1,c⟩:zn)=⟨k,n,y,m,ja,jN,[]⟩)))then some true else(some (yI n)).bind fun x7=>some (!x7)) _)=_
 by_cases hq:r=ja∧b1=jN∧c=[]
 ·rw[xV.2 (hz0.2 hq)]
  obtain⟨rfl,rfl,rfl⟩:=hq;by_cases hn:yI n=true
  ·rw[hn]
   simp only[Bool.not_true,cond_false,Option.bind_some];rw[z6 (Nat.zero_le _)];simp only[Option.bind_some];by_cases k1:k=1
   ·subst k1
    simp only[decide_true,cond_true];rw[vg,vg];refine zl0 ?_;simp only[Bool.and_eq_true,decide_eq_true_eq];constructor
    ·rintro⟨rfl,g1,g2⟩;exact⟨.fin n m,⟨hn,g1,g2⟩,rfl⟩
    ·rintro⟨d,g,e⟩
     cases d with
     |fin n' d' =>
      simp only[enc,zn.mk.injEq]at e;obtain⟨_,rfl,rfl,rfl,_⟩:=e;exact⟨rfl,g.2⟩
     |_=>simp[enc]at e
   by_cases k3:k=3
   ·subst k3
    simp only[Int.reduceEq,decide_false,cond_false,decide_true,cond_true];rw[vg,vg];refine zl0 ?_;simp only[Bool.and_eq_true,decide_eq_true_eq];constructor
    ·rintro⟨g0,g1,g2⟩;exact⟨.row n ⟨y,m⟩,⟨hn,g0,g1,g2⟩,rfl⟩
    ·rintro⟨d,g,e⟩
     cases d with
     |row n' d' =>
      simp only[enc,zn.mk.injEq]at e;obtain⟨_,rfl,rfl,rfl,_⟩:=e;exact g.2
     |_=>simp[enc]at e
   by_cases k5:k=5
   ·subst k5
    simp only[Int.reduceEq,decide_false,cond_false,decide_true,cond_true];rw[vg,vg];refine zl0 ?_;simp only[Bool.and_eq_true,decide_eq_true_eq];constructor
    ·rintro⟨rfl,g1,g2⟩;exact⟨.lim n m,⟨hn,g1,g2⟩,rfl⟩
    ·rintro⟨d,g,e⟩
     cases d with
     |lim n' d' =>
      simp only[enc,zn.mk.injEq]at e;obtain⟨_,rfl,rfl,rfl,_⟩:=e;exact⟨rfl,g.2⟩
     |_=>simp[enc]at e
   rw[decide_eq_false k1,decide_eq_false k3,decide_eq_false k5];simp only[cond_false];refine zl0 ⟨fun h=>(by cases h),?_⟩;rintro⟨d,g,e⟩;cases d<;>simp only[enc,zn.mk.injEq]at e<;>omega
  ·have hn':yI n=false:=by simpa using hn
   rw[hn'];simp only[Bool.not_true,Bool.not_false,cond_false,cond_true,Option.bind_some];refine zl0 ⟨fun h=>(by cases h),?_⟩;rintro⟨d,g,e⟩
   cases d with
   |fin n' d' =>
    simp only[enc,zn.mk.injEq]at e;obtain⟨_,rfl,_⟩:=e;exact absurd g.1 hn
   |row n' d' =>
    simp only[enc,zn.mk.injEq]at e;obtain⟨_,rfl,_⟩:=e;exact absurd g.1 hn
   |lim n' d' =>
    simp only[enc,zn.mk.injEq]at e;obtain⟨_,rfl,_⟩:=e;exact absurd g.1 hn
   |_=>simp only[enc,zn.mk.injEq]at e;omega
 ·rw[vI (fun e=>hq (hz0.1 e))]
  simp only[Bool.not_false,cond_true,Option.bind_some];refine zl0 ⟨fun h=>(by cases h),?_⟩;rintro⟨d,g,e⟩
  cases d with
  |fin n' d' =>
   simp only[enc,zn.mk.injEq]at e;exact absurd ⟨e.2.2.2.2.1.symm,e.2.2.2.2.2.1.symm,e.2.2.2.2.2.2.symm⟩ hq
  |row n' d' =>
   simp only[enc,zn.mk.injEq]at e;exact absurd ⟨e.2.2.2.2.1.symm,e.2.2.2.2.2.1.symm,e.2.2.2.2.2.2.symm⟩ hq
  |lim n' d' =>
   simp only[enc,zn.mk.injEq]at e;exact absurd ⟨e.2.2.2.2.1.symm,e.2.2.2.2.2.1.symm,e.2.2.2.2.2.2.symm⟩ hq
  |_=>simp only[enc,zn.mk.injEq]at e;omega
theorem zq3{a b:Ed}(h:enc a=enc b):a=b:=by
 cases a<;>cases b<;>simp only[enc,zn.mk.injEq]at h<;>first|(exfalso;omega)|skip
 case rule.rule r s=>rw[h.2.2.2.2.1]
 case fin.fin n d m e=>rw[h.2.1,h.2.2.2.1]
 case dfn.dfn d e =>
  obtain⟨n,b⟩:=d;obtain⟨n',b'⟩:=e;obtain⟨_,h1,_,_,_,h2,_⟩:=h;dsimp only at h1 h2;rw[h1,h2]
 case row.row n x m y =>
  obtain⟨k,v⟩:=x;obtain⟨k',v'⟩:=y;obtain⟨_,h1,h2,h3,_⟩:=h;dsimp only at h1 h2 h3;rw[h1,h2,h3]
 case zone.zone x y =>
  obtain⟨k,o,v⟩:=x;obtain⟨k',o',v'⟩:=y;obtain⟨_,h1,_,h2,_,_,h3⟩:=h;dsimp only at h1 h2 h3
  have:o=o':=by revert h2;cases o<;>cases o'<;>simp
  rw[h1,this,h3]
 case lim.lim n d m e=>rw[h.2.1,h.2.2.2.1]
structure zez(p:zu):Prop where
 right:wO p
 ds:∀x∈p.Defs,zaa x.Body=true
 rs:∀x∈p.Rules,zex x=true
theorem zez.big{p:zu}(h:zez p):zey p:=by
 obtain⟨⟨⟨d,t,z,r,c,v⟩,⟨bd,bt,bz,br,bc,bv,bs⟩,hr,hs⟩,e1,e2⟩:=h;exact⟨by have:=d.1;omega,by have:=t.1;omega,by have:=z.1;omega,by have:=r.1;omega,by have:=c.1;omega,by have:=v.1;omega,by omega,fun x hx=>⟨by omega,e1 x hx⟩,fun x hx=>⟨by omega,by have:=(bt x hx).1.1;omega,fun y _=>by omega⟩,fun x hx=>⟨by omega,by have:=(bz x hx).1.2;omega⟩,e2,fun x hx=>⟨by omega,by have:=(bc x hx).2.2.1.2;omega⟩,fun x hx=>⟨by omega,by have:=(bv x hx).2.1.2;omega⟩⟩
theorem zey.lens{p:zu}(h:zey p):zz5 p :=
 ⟨by have:=h.d;omega,by have:=h.t;omega,by have:=h.z;omega,by have:=h.r;omega,by have:=h.c;omega,fun t ht=>by have:=(h.ts t ht).2.1;omega⟩
theorem zey.own{p:zu}(h:zey p):OwnP p :=
 ⟨h.lens,by have:=h.v;omega,by have:=h.s;omega,fun x hx=>qR (h.ds x hx).2,fun x hx=>by have:=(h.zs x hx).2;omega,fun x hx=>by
  obtain⟨_,h2,h3,h4⟩:=Qu (h.rs x hx)
  exact⟨by have:=h2.1;omega,by have:=h3.1;omega,qR h4⟩,fun x hx=>by have:=(h.cs x hx).2;omega,fun x hx=>by have:=(h.vs x hx).2;omega⟩
theorem zjg{p q:zu}{e:Ed}(h:zez p)(he:e.ok)(hs:SzE e)(ha:app p e=some q):zez q:=by
 refine⟨zeo h.right he ha,?_,?_⟩
 ·intro x hx
  cases e with
  |dfn d =>
   simp only[app]at ha;split at ha
   ·cases ha
   ·cases ha
    exact jk (c:=fun _=>d) (z:=d) (P:=fun d:Def=>zaa d.Body=true) hs h.ds (fun _ _ _=>hs) x hx
  |rule r =>
   simp only[app]at ha;split at ha
   ·cases ha
   ·cases ha;exact h.ds x hx
  |fin n d =>
   simp only[app]at ha;split at ha
   ·cases ha
   ·split at ha
    ·cases ha
    ·cases ha;exact h.ds x hx
  |row n d =>
   simp only[app]at ha;split at ha
   ·cases ha
   ·cases ha;exact h.ds x hx
  |zone n =>
   simp only[app]at ha;split at ha
   ·cases ha
   ·cases ha;exact h.ds x hx
  |lim n d =>
   simp only[app]at ha;split at ha
   ·cases ha
   ·cases ha;exact h.ds x hx
 ·intro x hx
  cases e with
  |rule r =>
   simp only[app]at ha;split at ha
   ·cases ha
   ·cases ha
    rcases List.mem_append.1 hx with hx|hx
    ·exact h.rs x hx
    ·rw[List.mem_singleton]at hx;subst hx;exact hs
  |dfn d =>
   simp only[app]at ha;split at ha
   ·cases ha
   ·cases ha;exact h.rs x hx
  |fin n d =>
   simp only[app]at ha;split at ha
   ·cases ha
   ·rename_i r hg
    split at ha
    ·cases ha
    ·cases ha
     have hu:∀y:zb,zex y=true→zex { y with Until:=d }=true:=fun y hy=>hy
     exact jk (c:=fun y:zb=>{ y with Until:=d }) (z:=r) (P:=fun r:zb=>zex r=true) (hu r (h.rs r (KL.kH hg).2)) h.rs (fun y hy _=>hu y (h.rs y hy)) x hx
  |row n d =>
   simp only[app]at ha;split at ha
   ·cases ha
   ·cases ha;exact h.rs x hx
  |zone n =>
   simp only[app]at ha;split at ha
   ·cases ha
   ·cases ha;exact h.rs x hx
  |lim n d =>
   simp only[app]at ha;split at ha
   ·cases ha
   ·cases ha;exact h.rs x hx
def zp:zu:=⟨[],[],[],[],[],[],[],0⟩
def zui(p:zu)(d:Ed):Int×zu:=match app p d with
 |some q=>(0,q)
 |none=>(o7 p d,zp)
open Classical in
noncomputable def uJ(p:zu)(e:zn):Int×zu:=if h:∃d:Ed,d.ok∧enc d=e then zui p h.choose else(1,zp)
theorem Wg{p:zu}{d:Ed}(hd:d.ok):uJ p (enc d)=zui p d:=by
 have h:∃d':Ed,d'.ok∧enc d'=enc d:=⟨d,hd,rfl⟩
 unfold uJ;rw[dif_pos h,zq3 h.choose_spec.2]
theorem zam{p:zu}{e:zn}(h:¬∃d:Ed,d.ok∧enc d=e):uJ p e=(1,zp):=by
 unfold uJ;rw[dif_neg h]
theorem zq4{d:Ed}(h:SzD (enc d)):SzE d:=by
 cases d with
 |rule r=>exact h.1
 |dfn d=>exact h.2.1
 |zone z=>exact h.2.2
 |_=>trivial
theorem zq5{p:zu}{d:Ed}:(zui p d).1=0↔(app p d).isSome=true:=by
 unfold zui
 cases h:app p d with
 |some q=>simp
 |none =>
  have:=(not_congr (zak (p:=p) (e:=d))).1 (by rw[h];simp);simp[this]
theorem e_One{p:zu}{e:zn}(hp:zez p)(he:SzD e):JQ p e=some (fp (uJ p e).1 (uJ p e).2):=by
 unfold JQ;simp only[uC,zy];rw[jO hp.big,vj hp.right,zz9 he];simp only[Option.bind_some,Bool.not_true,cond_false];by_cases h:∃d:Ed,d.ok∧enc d=e
 ·rw[vj h,Bool.not_true,cond_false]
  obtain⟨d,hd,rfl⟩:=h;obtain⟨q,h1,h2⟩:=zz7 (d:=d) hp.big.lens;rw[h1,Wg hd,Option.bind_some];unfold zui
  cases hq:app p d with
  |none =>
   have:=(not_congr (zak (p:=p) (e:=d))).1 (by rw[hq];simp)
   show(bif (!(decide (o7 p d=0)))then _ else _)=_
   rw[decide_eq_false this];rfl
  |some r =>
   have hc:=(zak (p:=p) (e:=d)).1 (by rw[hq];rfl);cases h2 r hq;have hk:=zjg hp hd (zq4 he) hq
   show(bif (!(decide (o7 p d=0)))then _ else(oG q).bind _)=_
   rw[hc,zz8 hk.big.own];rfl
 ·rw[vI h,zam h]
  rfl
noncomputable def J6:zu→List zn→Int×zu
 |p,[]=>(0,p)
 |p,e::l=>if(uJ p e).1=0 then J6 (uJ p e).2 l else uJ p e
theorem zjh{p:zu}{e:zn}(hp:zez p)(he:SzD e)(h:(uJ p e).1=0):zez (uJ p e).2:=by
 by_cases hd:∃d:Ed,d.ok∧enc d=e
 ·obtain⟨d,hd,rfl⟩:=hd
  rw[Wg hd]at h ⊢;have hs:=zq5.1 h;unfold zui
  cases hq:app p d with
  |none=>rw[hq]at hs;cases hs
  |some q=>exact zjg hp hd (zq4 he) hq
 ·rw[zam hd]at h;cases h
theorem zFg{p:zu}{e:zn}(h:¬(uJ p e).1=0):(uJ p e).2=zp:=by
 by_cases hd:∃d:Ed,d.ok∧enc d=e
 ·obtain⟨d,hd,rfl⟩:=hd
  rw[Wg hd]at h ⊢;unfold zui at h ⊢
  cases hq:app p d with
  |none=>rfl
  |some q=>rw[hq]at h;exact absurd rfl h
 ·rw[zam hd]
theorem zq6:∀{l:List zn}{p:zu},¬(J6 p l).1=0→(J6 p l).2=zp
 |[],p,h=>absurd rfl h
 |e::l,p,h=>by
  rw[J6]at h ⊢;by_cases g:(uJ p e).1=0
  ·rw[if_pos g]at h ⊢;exact zq6 h
  ·rw[if_neg g];exact zFg g
theorem Qw:∀{l:List zn}{p:zu},zez p→(∀e∈l,SzD e)→(J6 p l).1=0→zez (J6 p l).2
 |[],p,hp,_,h=>hp
 |e::l,p,hp,hl,h=>by
  rw[J6]at h ⊢;by_cases g:(uJ p e).1=0
  ·rw[if_pos g]at h ⊢;exact Qw (zjh hp (hl e (List.mem_cons_self ..)) g) (fun x hx=>hl x (List.mem_cons_of_mem _ hx)) h
  ·rw[if_neg g]at h;exact absurd h g
theorem zg3:∀{l:List zn}{p:zu},(J6 p l).1=0→∃ds:List Ed,l=ds.map enc∧(∀d∈ds,d.ok)∧AK p ds=some (J6 p l).2
 |[],p,h=>⟨[],rfl,fun _ h=>(by cases h),rfl⟩
 |e::l,p,h=>by
  rw[J6]at h ⊢;by_cases g:(uJ p e).1=0
  ·rw[if_pos g]at h ⊢
   obtain⟨ds,rfl,h2,h3⟩:=zg3 h;by_cases hd:∃d:Ed,d.ok∧enc d=e
   ·obtain⟨d,hd,rfl⟩:=hd
    refine⟨d::ds,rfl,fun x hx=>(List.mem_cons.1 hx).elim (fun e=>e▸hd) (h2 x),?_⟩;rw[Wg hd]at g h3 ⊢;have hs:=zq5.1 g;unfold zui at h3 ⊢;rw[AK]
    cases hq:app p d with
    |none=>rw[hq]at hs;cases hs
    |some q=>rw[hq]at h3;exact h3
   ·rw[zam hd]at g;cases g
  ·rw[if_neg g]at h;exact absurd h g
theorem zq7:∀{ds:List Ed}{p q:zu},(∀d∈ds,d.ok)→AK p ds=some q→J6 p (ds.map enc)=(0,q)
 |[],p,q,_,h=>by cases h;rfl
 |d::ds,p,q,hd,h=>by
  rw[AK]at h;obtain⟨m,h1,h2⟩:=Option.bind_eq_some_iff.1 h;rw[List.map_cons,J6,Wg (hd d (List.mem_cons_self ..))];unfold zui;rw[h1];exact zq7 (fun x hx=>hd x (List.mem_cons_of_mem _ hx)) h2
theorem zq8{l:List zn}(hs:l.length≤1000000000):
  ∀(r:List zn)(i K:Nat)(p:zu),l.drop i=r→i≤l.length→r.length<K→zez p→(∀e∈r,SzD e)→xI l ((List.length l:Nat):Int) [] [] [] [] [] [] [] 0 K ((i:Int),p.Defs,p.Tables,p.Zones,p.Rules,p.Caps,p.Views,p.Sun,p.Hours)=some (if(J6 p r).1=0 then .inr ((fp 0 (J6 p r).2).2)else .inl (fp (J6 p r).1 zp))
 |[],i,K,p,hr,hi,hK,hp,hl=>by
  obtain⟨K,rfl⟩:∃k,K=k+1:=⟨K-1,by omega⟩
  have:=drop_nil hr hi
  have e:i=l.length:=by omega
  rw[xI,e,zZ];rfl
 |e::r,i,K,p,hr,hi,hK,hp,hl=>by
  obtain⟨K,rfl⟩:∃k,K=k+1:=⟨K-1,by omega⟩
  obtain⟨h1,h2,h3⟩:=xT hr;simp only[List.length_cons]at hK;rw[xI];simp only[xg h1,cond_true,zU h1,Option.bind_some,uC,zy];have hz:=hl e (List.mem_cons_self ..);rw[show(⟨p.Defs,p.Tables,p.Zones,p.Rules,p.Caps,p.Views,p.Sun,p.Hours⟩:zu)=p from rfl,e_One hp hz,Option.bind_some,J6];by_cases g:(uJ p e).1=0
  ·rw[if_pos g]
   show(bif (!(decide ((uJ p e).1=0)))then _ else xI l ((List.length l:Nat):Int) [] [] [] [] [] [] [] 0 K (w64 ((i:Int)+1),(uJ p e).2.Defs,(uJ p e).2.Tables,(uJ p e).2.Zones,(uJ p e).2.Rules,(uJ p e).2.Caps,(uJ p e).2.Views,(uJ p e).2.Sun,(uJ p e).2.Hours))=_
   rw[decide_eq_true g,zJ (by omega)];exact zq8 hs r (i+1) K _ h2 (by omega) (by omega) (zjh hp hz g) (fun x hx=>hl x (List.mem_cons_of_mem _ hx))
  ·rw[if_neg g,if_neg g]
   show(bif (!(decide ((uJ p e).1=0)))then _ else _)=_
   rw[decide_eq_false g];rfl
theorem zan{p:zu}{l:List zn}(hs:l.length≤1000000000)(hp:zez p)(hl:∀e∈l,SzD e):wm p l=some (fp (J6 p l).1 (J6 p l).2):=by
 unfold wm;rw[jO hp.big,vj hp.right,Option.bind_some,Bool.not_true,cond_false];have:=zq8 hs l 0 KK p rfl (Nat.zero_le _) (u9 (by omega)) hp hl;rw[show((0:Nat):Int)=0 from rfl]at this;rw[this,Option.bind_some];by_cases g:(J6 p l).1=0
 ·rw[if_pos g,g]
  show(oG (J6 p l).2).bind _=_
  rw[zz8 (Qw hp hl g).big.own];rfl
 ·rw[if_neg g,zq6 g]
  rfl
theorem zuj{p:zu}{l:List zn}(hp:zey p)(h:¬wO p):wm p l=some (fp 1 zp):=by
 unfold wm;rw[jO hp,vI h];rfl
inductive Evo{α:Type}(key:α→List UInt8)(R:α→α→Prop)(Z:α→Prop):List α→List α→Prop
 |nil (b:List α):(∀y∈b,Z y)→Evo key R Z [] b
 |cons (x y:α) (l m:List α):key x=key y→R x y→Evo key R Z l m→Evo key R Z (x::l) (y::m)
theorem uD{α:Type}{key:α→List UInt8}{R:α→α→Prop}{Z:α→Prop}(h:∀x,R x x):∀l:List α,Evo key R Z l l
 |[]=>.nil [] fun _ h=>by cases h
 |x::l=>.cons x x l l rfl (h x) (uD h l)
theorem zg4{α:Type}{key:α→List UInt8}{R:α→α→Prop}{Z:α→Prop}{k:List UInt8}{c:α→α}{z:α}(hc:∀x,key x=k→key (c x)=k)(hR:∀x y,R x y→key y=k→R x (c y))(hZ:∀y,Z y→key y=k→Z (c y))(hz:Z (c z)){l m:List α}(h:Evo key R Z l m):Evo key R Z l (KL.put key k c z m):=by
 induction h with
 |nil b hb=>exact .nil _ (jk (P:=Z) hz hb fun y hy e=>hZ y (hb y hy) e)
 |cons x y l m e r h ih =>
  rw[KL.put];by_cases g:key y=k
  ·rw[if_pos g]
   exact .cons _ _ _ _ (by rw[e,hc y g,g]) (hR x y r g) h
  ·rw[if_neg g]
   exact .cons _ _ _ _ e r ih
theorem zji{α:Type}{key:α→List UInt8}{R:α→α→Prop}{Z:α→Prop}{k:List UInt8}{c:α→α}{z:α}(hc:∀x,key x=k→key (c x)=k)(hR:∀x y,R x y→key y=k→R x (c y))(hZ:∀y,Z y→key y=k→Z (c y)){l m:List α}(hk:k∈m.map key)(h:Evo key R Z l m):Evo key R Z l (KL.put key k c z m):=by
 induction h with
 |nil b hb =>
  obtain⟨y,hy,e⟩:=List.mem_map.1 hk;rw[zal (z':=y) hk];exact .nil _ (jk (P:=Z) (hZ y (hb y hy) e) hb fun y hy e=>hZ y (hb y hy) e)
 |cons x y l m e r h ih =>
  rw[KL.put];by_cases g:key y=k
  ·rw[if_pos g]
   exact .cons _ _ _ _ (by rw[e,hc y g,g]) (hR x y r g) h
  ·rw[if_neg g]
   exact .cons _ _ _ _ e r (ih (by
    rw[List.map_cons,List.mem_cons]at hk
    exact hk.resolve_left (Ne.symm g)))
theorem zAa{α:Type}{key:α→List UInt8}{R:α→α→Prop}{Z:α→Prop}{z:α}(hz:Z z){l m:List α}(h:Evo key R Z l m):Evo key R Z l (m++[z]):=by
 induction h with
 |nil b hb=>exact .nil _ fun y hy=>(List.mem_append.1 hy).elim (hb y) fun h=>by rw[List.mem_singleton]at h;exact h▸hz
 |cons x y l m e r h ih=>exact .cons _ _ _ _ e r ih
theorem Hk{α:Type}{key:α→List UInt8}{k:List UInt8}{c:α→α}{z:α}:∀{pre:List α}{x:α}{post:List α},k ∉ pre.map key→key x=k→KL.put key k c z (pre++x::post)=pre++c x::post
 |[],x,post,_,h=>by rw[List.nil_append,KL.put,if_pos h];rfl
 |y::pre,x,post,hk,h=>by
  rw[List.map_cons,List.mem_cons,not_or]at hk;rw[List.cons_append,KL.put,if_neg (Ne.symm hk.1),Hk hk.2 h];rfl
theorem J7{α:Type}{key:α→List UInt8}{k:List UInt8}{c:α→α}{z:α}:∀{pre:List α},k ∉ pre.map key→KL.put key k c z pre=pre++[c z]
 |[],_=>rfl
 |y::pre,hk=>by
  rw[List.map_cons,List.mem_cons,not_or]at hk;rw[KL.put,if_neg (Ne.symm hk.1),J7 hk.2];rfl
theorem Wh{α:Type}{key:α→List UInt8}{k:List UInt8}:∀{pre:List α}{x:α}{post:List α},k ∉ pre.map key→key x=k→KL.get key k (pre++x::post)=some x
 |[],x,post,_,h=>by rw[List.nil_append,KL.get,if_pos h]
 |y::pre,x,post,hk,h=>by
  rw[List.map_cons,List.mem_cons,not_or]at hk;rw[List.cons_append,KL.get,if_neg (Ne.symm hk.1),Wh hk.2 h]
theorem Aa:∀(a b:List Ed)(p:zu),AK p (a++b)=(AK p a).bind fun q=>AK q b
 |[],b,p=>rfl
 |e::a,b,p=>by
  rw[List.cons_append,AK,AK,Option.bind_assoc]
  congr 1
  funext q
  exact Aa a b q
theorem zao{α:Type}{key:α→List UInt8}{pre:List α}{x:α}{post:List α}{k:List UInt8}(h:key x=k):k∈(pre++x::post).map key:=List.mem_map.2 ⟨x,by simp,h⟩
theorem J8{α:Type}{key:α→List UInt8}{Z:α→Prop}{S:List α→zu}{ch:α→List Ed}{m0:List α}(hB:∀pre y,y∈m0→Z y→key y ∉ pre.map key→(∃post,m0=pre++y::post)→AK (S pre) (ch y)=some (S (pre++[y]))):
  ∀(m pre:List α),pre++m=m0→(∀y∈m,Z y)→(m0.map key).Nodup→AK (S pre) (m.flatMap ch)=some (S m0)
 |[],pre,h,_,_=>by rw[List.append_nil]at h;rw[h];rfl
 |y::m,pre,h,hz,hn=>by
  have hk:key y ∉ pre.map key:=by
   rw[← h,List.map_append,List.map_cons,List.nodup_append]at hn
   exact fun e=>hn.2.2 _ e _ (List.mem_cons_self ..) rfl
  rw[List.flatMap_cons,Aa,hB pre y (by rw[← h];simp) (hz y (List.mem_cons_self ..)) hk ⟨m,h.symm⟩,Option.bind_some];exact J8 hB m (pre++[y]) (by rw[← h];simp) (fun x hx=>hz x (List.mem_cons_of_mem _ hx)) hn
theorem replay{α:Type}{key:α→List UInt8}{R:α→α→Prop}{Z:α→Prop}{S:List α→zu}{ch:α→List Ed}{l0 m0:List α}(hA:∀pre x y post,x∈l0→y∈m0→key x=key y→R x y→key y ∉ pre.map key→AK (S (pre++x::post)) (ch y)=some (S (pre++y::post)))
  (hB:∀pre y,y∈m0→Z y→key y ∉ pre.map key→key y ∉ l0.map key→(∃post,m0=pre++y::post)→AK (S pre) (ch y)=some (S (pre++[y]))) (hn:(m0.map key).Nodup) {l m:List α} (h:Evo key R Z l m):
  ∀pre,pre++m=m0→(∀x∈l,x∈l0)→(∀k∈l0.map key,k∈pre.map key∨k∈l.map key)→AK (S (pre++l)) (m.flatMap ch)=some (S m0):=by
 induction h with
 |nil b hb =>
  intro pre hm hl hk;rw[List.append_nil];refine J8 (key:=key) (Z:=fun y=>Z y∧key y ∉ l0.map key) (fun pre y hy hz hk he=>hB pre y hy hz.1 hk hz.2 he) b pre hm (fun y hy=>⟨hb y hy,fun e=>?_⟩) hn
  rcases hk _ e with h|h
  ·rw[← hm,List.map_append,List.nodup_append]at hn
   exact hn.2.2 _ h _ (List.mem_map_of_mem hy) rfl
  ·cases h
 |cons x y l m e r h ih =>
  intro pre hm hl hk
  have hky:key y ∉ pre.map key:=by
   rw[← hm,List.map_append,List.map_cons,List.nodup_append]at hn
   exact fun e=>hn.2.2 _ e _ (List.mem_cons_self ..) rfl
  rw[List.flatMap_cons,Aa,hA pre x y l (hl x (List.mem_cons_self ..)) (by rw[← hm];simp) e r hky,Option.bind_some]
  have:=ih (pre++[y]) (by rw[← hm];simp) (fun x hx=>hl x (List.mem_cons_of_mem _ hx)) fun k hk'=>by
   rcases hk k hk' with h|h
   ·exact .inl (by rw[List.map_append];exact List.mem_append_left _ h)
   ·rw[List.map_cons,List.mem_cons]at h
    rcases h with rfl|h
    ·exact .inl (by rw[List.map_append,e];simp)
    ·exact .inr h
  rw[List.append_assoc,List.singleton_append]at this;exact this
theorem J9{α:Type}{key:α→List UInt8}{R:α→α→Prop}{Z:α→Prop}{S:List α→zu}{ch:α→List Ed}{l m:List α}(hA:∀pre x y post,x∈l→y∈m→key x=key y→R x y→key y ∉ pre.map key→AK (S (pre++x::post)) (ch y)=some (S (pre++y::post)))
  (hB:∀pre y,y∈m→Z y→key y ∉ pre.map key→key y ∉ l.map key→(∃post,m=pre++y::post)→AK (S pre) (ch y)=some (S (pre++[y]))) (hn:(m.map key).Nodup) (h:Evo key R Z l m):AK (S l) (m.flatMap ch)=some (S m) :=
 replay hA hB hn h [] rfl (fun _ h=>h) fun _ h=>.inr h
def RowR(x y:Table):Prop:=Evo Entry.Name (fun _ _=>True) (fun _=>True) x.Rows y.Rows∧x.Else=y.Else
def RulR(x y:zb):Prop:=∃u,y={ x with Until:=u }∧(u=x.Until∨1≤u)
def CapR(x y:Cap):Prop:=∃v,y={ x with Limit:=v }
structure Jw(p q:zu):Prop where
 d:Evo Def.Name (fun _ _=>True) (fun _=>True) p.Defs q.Defs
 t:Evo Table.Name RowR (fun y=>y.Else=0∧y.Rows≠[]) p.Tables q.Tables
 z:Evo zm.Name (fun x y=>x.Overlay=y.Overlay) (fun _=>True) p.Zones q.Zones
 r:Evo zb.Name RulR (fun _=>True) p.Rules q.Rules
 c:Evo Cap.Name CapR (fun _=>False) p.Caps q.Caps
 v:p.Views=q.Views
 s:p.Sun=q.Sun
 h:p.Hours=q.Hours
theorem zg5(p:zu):Jw p p :=
 ⟨uD (fun _=>trivial) _,uD (fun x=>⟨uD (fun _=>trivial) _,rfl⟩) _,uD (R:=fun x y:zm=>x.Overlay=y.Overlay) (fun _=>rfl) _,uD (fun x=>⟨x.Until,rfl,.inl rfl⟩) _,uD (fun x=>⟨x.Limit,rfl⟩) _,rfl,rfl,rfl⟩
theorem zv1{α:Type}{key:α→List UInt8}{k:List UInt8}{c:α→α}{z:α}:∀l:List α,KL.put key k c z l≠[]
 |[]=>by simp[KL.put]
 |x::r=>by rw[KL.put];split<;>simp
theorem zl1{p q r:zu}{e:Ed}(he:e.ok)(h:Jw p q)(ha:app q e=some r)(hq:(q.Zones.map zm.Name).Nodup):Jw p r:=by
 obtain⟨d,t,z,ru,c,v,s,ho⟩:=h
 cases e with
 |rule x =>
  simp only[app]at ha;split at ha
  ·cases ha
  ·cases ha
   exact⟨d,t,z,zAa trivial ru,c,v,s,ho⟩
 |fin n u =>
  simp only[app]at ha;split at ha
  ·cases ha
  ·rename_i x hg
   split at ha
   ·cases ha
   ·cases ha
    exact⟨d,t,z,zji (key:=zb.Name) (R:=RulR) (k:=n) (c:=fun r:zb=>{ r with Until:=u }) (fun _ e=>e) (fun x y hR _=>by
     obtain⟨w,rfl,_⟩:=hR
     exact⟨u,rfl,.inr he.2.1⟩) (fun _ _ _=>trivial) (V9 hg) ru,c,v,s,ho⟩
 |dfn x =>
  simp only[app]at ha;split at ha
  ·cases ha
  ·cases ha
   exact⟨zg4 (fun _ _=>rfl) (fun _ _ _ _=>trivial) (fun _ _ _=>trivial) trivial d,t,z,ru,c,v,s,ho⟩
 |row n x =>
  simp only[app]at ha;split at ha
  ·cases ha
  ·cases ha
   refine⟨d,zg4 (key:=Table.Name) (R:=RowR) (k:=n) (c:=zav x) (z:=zT n) (fun _ e=>e) (fun a b hR _=>⟨zg4 (fun _ _=>rfl) (fun _ _ _ _=>trivial) (fun _ _ _=>trivial) trivial hR.1,hR.2⟩) (fun y hy _=>⟨hy.1,zv1 _⟩) ⟨rfl,zv1 _⟩ t,z,ru,c,v,s,ho⟩
 |zone x =>
  simp only[app]at ha;split at ha
  ·cases ha
  ·rename_i g
   cases ha;rw[not_or]at g;refine⟨d,t,?_,ru,c,v,s,ho⟩
   have key:∀{l m:List zm},(∀y∈m,y.Name=x.Name→y.Overlay=x.Overlay)→Evo zm.Name (fun x y=>x.Overlay=y.Overlay) (fun _=>True) l m→Evo zm.Name (fun x y=>x.Overlay=y.Overlay) (fun _=>True) l (KL.put zm.Name x.Name (fun _=>x) x m):=fun hm hE=>by
    induction hE with
    |nil b hb=>exact .nil _ fun _ _=>trivial
    |cons a b l m e r h ih =>
     rw[KL.put];by_cases gk:b.Name=x.Name
     ·rw[if_pos gk]
      exact .cons _ _ _ _ (by rw[e,gk]) (by rw[r];exact hm b (List.mem_cons_self ..) gk) h
     ·rw[if_neg gk]
      exact .cons _ _ _ _ e r (ih fun y hy=>hm y (List.mem_cons_of_mem _ hy))
   refine key (fun y hy e=>?_) z;have:=KL.get_mem hq hy;rw[e]at this
   exact Classical.byContradiction fun g'=>g.2 ⟨y,this,g'⟩
 |lim n w =>
  simp only[app]at ha;split at ha
  ·cases ha
  ·rename_i x hg
   cases ha
   exact⟨d,t,z,ru,zji (key:=Cap.Name) (R:=CapR) (k:=n) (c:=fun r:Cap=>{ r with Limit:=w }) (fun _ e=>e) (fun x y hR _=>by
     obtain⟨w',rfl⟩:=hR
     exact⟨w,rfl⟩) (fun _ h _=>h) (V9 hg) c,v,s,ho⟩
theorem YY:∀{l:List Ed}{p q r:zu},wO q→(∀e∈l,e.ok)→Jw p q→AK q l=some r→Jw p r
 |[],p,q,r,_,_,h,hr=>by cases hr;exact h
 |e::l,p,q,r,hq,hl,h,hr=>by
  rw[AK]at hr;obtain⟨m,h1,h2⟩:=Option.bind_eq_some_iff.1 hr;have he:=hl e (List.mem_cons_self ..);exact YY (zeo hq he h1) (fun x hx=>hl x (List.mem_cons_of_mem _ hx)) (zl1 he h h1 (yi.1 hq.1.2.2.1).2.2) h2
open Classical in
noncomputable def chD(p:zu)(d:Def):List Ed:=if KL.get Def.Name d.Name p.Defs=some d then[]else[.dfn d]
open Classical in
noncomputable def chX(p:zu)(n:List UInt8)(x:Entry):List Ed:=if(rowAt p n x.Name).map Entry.N=some x.N then[]else[.row n x]
noncomputable def chT(p:zu)(t:Table):List Ed:=t.Rows.flatMap (chX p t.Name)
open Classical in
noncomputable def chZ(p:zu)(z:zm):List Ed:=if(KL.get zm.Name z.Name p.Zones).map zm.Corners=some z.Corners then[]else[.zone z]
def chR(p:zu)(r:zb):List Ed:=match KL.get zb.Name r.Name p.Rules with
 |none=>[.rule r]
 |some x=>if x.Until=r.Until then[]else[.fin r.Name r.Until]
def chC(p:zu)(c:Cap):List Ed:=match KL.get Cap.Name c.Name p.Caps with
 |none=>[]
 |some x=>if x.Limit=c.Limit then[]else[.lim c.Name c.Limit]
noncomputable def chg(p q:zu):List Ed:=q.Defs.flatMap (chD p)++(q.Tables.flatMap (chT p)++(q.Zones.flatMap (chZ p)++(q.Rules.flatMap (chR p)++q.Caps.flatMap (chC p))))
theorem uE{p:zu}{e:Ed}:AK p [e]=app p e:=by
 rw[AK];cases app p e<;>rfl
theorem qS{α:Type}{m pre:List α}{y:α}{n:Nat}(h:∃post,m=pre++y::post)(hm:m.length≤n):pre.length<n:=by
 obtain⟨post,rfl⟩:=h;simp at hm;omega
theorem re_d{p P q:zu}(hp:(p.Defs.map Def.Name).Nodup)(hq:yp q.Defs Def.Name 60)(h:Evo Def.Name (fun _ _=>True) (fun _=>True) p.Defs q.Defs):AK { P with Defs:=p.Defs } (q.Defs.flatMap (chD p))=some { P with Defs:=q.Defs }:=by
 rw[yi]at hq;refine J9 (key:=Def.Name) (S:=fun l=>{ P with Defs:=l }) ?_ ?_ hq.2.2 h
 ·intro pre x y post hx hy e _ hk
  have hg:=KL.get_mem hp hx;rw[e]at hg;unfold chD;rw[hg];by_cases g:x=y
  ·subst g;rw[if_pos rfl];rfl
  ·rw[if_neg (fun e=>g (Option.some.inj e)),uE]
   simp only[app];rw[if_neg (fun e'=>e'.1 (zao e)),Hk hk e]
 ·intro pre y hy _ hk hl hpre
  unfold chD;rw[KL.get_none.2 hl,if_neg (by simp),uE];simp only[app];rw[if_neg (fun e'=>by have:=qS hpre hq.1;omega),J7 hk]
theorem re_z{p P q:zu}(hp:(p.Zones.map zm.Name).Nodup)(hq:yp q.Zones zm.Name 60)(h:Evo zm.Name (fun x y=>x.Overlay=y.Overlay) (fun _=>True) p.Zones q.Zones):AK { P with Zones:=p.Zones } (q.Zones.flatMap (chZ p))=some { P with Zones:=q.Zones }:=by
 rw[yi]at hq;refine J9 (key:=zm.Name) (S:=fun l=>{ P with Zones:=l }) ?_ ?_ hq.2.2 h
 ·intro pre x y post hx hy e hR hk
  have hg:=KL.get_mem hp hx;rw[e]at hg;unfold chZ;rw[hg,Option.map_some];by_cases g:x.Corners=y.Corners
  ·have:x=y:=by
    obtain⟨a,b,c⟩:=x;obtain⟨a',b',c'⟩:=y;dsimp only at e hR g;rw[e,hR,g]
   subst this;rw[if_pos rfl];rfl
  ·rw[if_neg (fun e=>g (Option.some.inj e)),uE]
   simp only[app];rw[if_neg,Hk hk e];rintro(e'|⟨w,h1,h2⟩)
   ·exact e'.1 (zao e)
   ·rw[Wh hk e]at h1
    cases h1;exact h2 hR
 ·intro pre y hy _ hk hl hpre
  unfold chZ;rw[KL.get_none.2 hl,if_neg (by simp),uE];simp only[app];rw[if_neg,J7 hk];rintro(e'|⟨w,h1,h2⟩)
  ·have:=qS hpre hq.1;omega
  ·rw[KL.get_none.2 hk]at h1;cases h1
theorem re_r{p P q:zu}(hp:(p.Rules.map zb.Name).Nodup)(hq:yp q.Rules zb.Name 200)(hb:∀r∈q.Rules,K3 r)(h:Evo zb.Name RulR (fun _=>True) p.Rules q.Rules):AK { P with Rules:=p.Rules } (q.Rules.flatMap (chR p))=some { P with Rules:=q.Rules }:=by
 rw[yi]at hq;refine J9 (key:=zb.Name) (S:=fun l=>{ P with Rules:=l }) ?_ ?_ hq.2.2 h
 ·intro pre x y post hx hy e hR hk
  have hg:=KL.get_mem hp hx;rw[e]at hg;unfold chR;rw[hg];dsimp only;obtain⟨u,rfl,hu⟩:=hR;by_cases g:x.Until=u
  ·subst g;rw[if_pos rfl];rfl
  ·have hr:=(hb _ hy).1.2.2.2.2
   rw[if_neg g,uE];simp only[app];rw[Wh hk e];dsimp only at hr ⊢;have hu':=hu.resolve_left (Ne.symm g);rw[if_neg (by omega),Hk (key:=zb.Name) (c:=fun r:zb=>{ r with Until:=u }) hk e]
 ·intro pre y hy _ hk hl hpre
  unfold chR;rw[KL.get_none.2 hl];dsimp only;rw[uE];simp only[app];rw[if_neg];rintro(e'|e')
  ·exact hk e'
  ·have:=qS hpre hq.1;omega
theorem re_c{p P q:zu}(hp:(p.Caps.map Cap.Name).Nodup)(hq:yp q.Caps Cap.Name 30)(h:Evo Cap.Name CapR (fun _=>False) p.Caps q.Caps):AK { P with Caps:=p.Caps } (q.Caps.flatMap (chC p))=some { P with Caps:=q.Caps }:=by
 rw[yi]at hq;refine J9 (key:=Cap.Name) (S:=fun l=>{ P with Caps:=l }) ?_ ?_ hq.2.2 h
 ·intro pre x y post hx hy e hR hk
  have hg:=KL.get_mem hp hx;rw[e]at hg;unfold chC;rw[hg];dsimp only;obtain⟨u,rfl⟩:=hR;by_cases g:x.Limit=u
  ·subst g;rw[if_pos rfl];rfl
  ·rw[if_neg g,uE]
   simp only[app];rw[Wh hk e];dsimp only;rw[Hk (key:=Cap.Name) (c:=fun r:Cap=>{ r with Limit:=u }) hk e]
 ·intro pre y hy hf;exact hf.elim
theorem zg6{P:zu}{pre post:List Table}{t:Table}{n:List UInt8}{x:Entry}(hk:n ∉ pre.map Table.Name)(hn:t.Name=n)(hm:¬(x.Name ∉ t.Rows.map Entry.Name∧60≤t.Rows.length)):AK { P with Tables:=pre++t::post } [.row n x]=some { P with Tables:=pre++{ t with Rows:=KL.put Entry.Name x.Name (fun _=>x) x t.Rows }::post }:=by
 rw[uE];simp only[app];rw[Wh hk hn,if_neg,Hk hk hn]
 ·rfl
 ·rintro(e|e)
  ·exact e.1 (zao hn)
  ·exact hm e
theorem re_t{p P q:zu}(hp:(p.Tables.map Table.Name).Nodup)(hx:∀t∈p.Tables,(t.Rows.map Entry.Name).Nodup)(hq:yp q.Tables Table.Name 60)(hb:∀t∈q.Tables,yp t.Rows Entry.Name 60)(h:Evo Table.Name RowR (fun y=>y.Else=0∧y.Rows≠[]) p.Tables q.Tables):AK { P with Tables:=p.Tables } (q.Tables.flatMap (chT p))=some { P with Tables:=q.Tables }:=by
 rw[yi]at hq;refine J9 (key:=Table.Name) (S:=fun l=>{ P with Tables:=l }) ?_ ?_ hq.2.2 h
 ·intro pre x y post hxm hy e hR hk
  have hg:=KL.get_mem hp hxm;rw[e]at hg;have hr:=yi.1 (hb y hy);obtain⟨h1,h2⟩:=hR;obtain⟨n,rows,el⟩:=x;obtain⟨n',rows',el'⟩:=y;dsimp only at e h1 h2 hg hr hk;subst e h2;unfold chT;refine J9 (key:=Entry.Name) (l:=rows) (m:=rows') (S:=fun l=>{ P with Tables:=pre++(⟨n,l,el⟩:Table)::post }) ?_ ?_ hr.2.2 h1
  ·intro pr a b po ha hb' e' _ hk'
   have hga:=KL.get_mem (hx _ hxm) ha;rw[e']at hga;unfold chX rowAt;dsimp only;rw[hg,Option.bind_some];dsimp only;rw[hga,Option.map_some];by_cases gN:a.N=b.N
   ·have:a=b:=by
     obtain⟨u,v⟩:=a;obtain⟨u',v'⟩:=b;dsimp only at e' gN;rw[e',gN]
    subst this;rw[if_pos rfl];rfl
   ·rw[if_neg (fun e=>gN (Option.some.inj e)),zg6 (t:=⟨n,pr++a::po,el⟩) hk rfl (fun e=>e.1 (zao e'))]
    dsimp only;rw[Hk hk' e']
  ·intro pr b hb' _ hk' hl hpre
   unfold chX rowAt;dsimp only;rw[hg,Option.bind_some];dsimp only;rw[KL.get_none.2 hl,Option.map_none,if_neg (by simp),zg6 (t:=⟨n,pr,el⟩) hk rfl (fun e=>by have:=qS hpre hr.1;dsimp only at e;omega)];dsimp only;rw[J7 hk']
 ·intro pre y hy hz hk hl hpre
  have hr:=yi.1 (hb y hy);obtain⟨n,rows,el⟩:=y;dsimp only at hz hk hl hr;obtain⟨rfl,hne⟩:=hz
  have hch:∀x,chX p n x=[.row n x]:=fun x=>by
   unfold chX rowAt;rw[KL.get_none.2 hl,Option.bind_none,Option.map_none,if_neg (by simp)]
  unfold chT
  cases rows with
  |nil=>exact absurd rfl hne
  |cons x rs =>
   dsimp only;rw[List.flatMap_cons,hch,Aa,uE]
   have h1:app { P with Tables:=pre } (.row n x)=some { P with Tables:=pre++[(⟨n,[x],0⟩:Table)] }:=by
    simp only[app];rw[KL.get_none.2 hk,if_neg,J7 hk]
    ·rfl
    ·rintro(e|e)
     ·have:=qS hpre hq.1;omega
     ·have:=e.2;simp[zT]at this
   rw[h1,Option.bind_some];refine J8 (key:=Entry.Name) (Z:=fun _=>True) (m0:=x::rs) (S:=fun l=>{ P with Tables:=pre++[(⟨n,l,0⟩:Table)] }) ?_ rs [x] rfl (fun _ _=>trivial) hr.2.2;intro pr b hb' _ hk' hpre';rw[hch,zg6 (t:=⟨n,pr,0⟩) hk rfl (fun e=>by have:=qS hpre' hr.1;dsimp only at e;omega)];dsimp only;rw[J7 hk']
theorem zq9{p q:zu}(hp:wO p)(hq:wO q)(h:Jw p q):AK p (chg p q)=some q:=by
 obtain⟨⟨d,t,z,r,c,v⟩,⟨bd,bt,bz,br,bc,bv⟩,_⟩:=hp;obtain⟨⟨d',t',z',r',c',v'⟩,⟨bd',bt',bz',br',bc',bv'⟩,_⟩:=hq
 have nd:=fun{α:Type}{l:List α}{g:α→List UInt8}{m:Nat}(h:yp l g m)=>(yi.1 h).2.2
 unfold chg;have e1:=re_d (P:=p) (nd d) d' h.d;have e2:=re_t (P:={ p with Defs:=q.Defs }) (nd t) (fun t ht=>nd (bt t ht).1) t' (fun t ht=>(bt' t ht).1) h.t;have e3:=re_z (P:={ p with Defs:=q.Defs,Tables:=q.Tables }) (nd z) z' h.z;have e4:=re_r (P:={ p with Defs:=q.Defs,Tables:=q.Tables,Zones:=q.Zones }) (nd r) r' br' h.r;have e5:=re_c (P:={ p with Defs:=q.Defs,Tables:=q.Tables,Zones:=q.Zones,Rules:=q.Rules }) (nd c) c' h.c;rw[Aa,show p={ p with Defs:=p.Defs } from rfl,e1,Option.bind_some,Aa];dsimp only at e2 ⊢;rw[e2,Option.bind_some,Aa];dsimp only at e3 ⊢;rw[e3,Option.bind_some,Aa];dsimp only at e4 ⊢;rw[e4,Option.bind_some];dsimp only at e5 ⊢;rw[e5];obtain⟨_,_,_,_,_,h1,h2,h3⟩:=h;obtain⟨a1,a2,a3,a4,a5,a6,a7,a8⟩:=p;obtain⟨b1,b2,b3,b4,b5,b6,b7,b8⟩:=q;dsimp only at h1 h2 h3 ⊢;rw[h1,h2,h3]
theorem zAb{α:Type}{key:α→List UInt8}{R:α→α→Prop}{Z:α→Prop}{l m:List α}(h:Evo key R Z l m)(hn:(m.map key).Nodup){x y:α}(hx:KL.get key (key y) l=some x)(hy:y∈m):R x y:=by
 induction h with
 |nil b hb=>cases hx
 |cons a b l m e r h ih =>
  rw[List.map_cons,List.nodup_cons]at hn;rw[KL.get]at hx;by_cases g:key a=key y
  ·rw[if_pos g]at hx
   cases hx
   rcases List.mem_cons.1 hy with rfl|hy
   ·exact r
   ·exact absurd (List.mem_map_of_mem (f:=key) hy) (by rw[← g,e];exact hn.1)
  ·rw[if_neg g]at hx
   rcases List.mem_cons.1 hy with rfl|hy
   ·exact absurd e g
   ·exact ih hn.2 hx hy
theorem zap{p q:zu}{e:Ed}(h:e∈q.Defs.flatMap (chD p)):∃d∈q.Defs,e=.dfn d∧KL.get Def.Name d.Name p.Defs≠some d:=by
 obtain⟨d,h1,h2⟩:=List.mem_flatMap.1 h;unfold chD at h2;split at h2
 ·cases h2
 ·rename_i g
  rw[List.mem_singleton]at h2;exact⟨d,h1,h2,g⟩
theorem zaq{p q:zu}{e:Ed}(h:e∈q.Tables.flatMap (chT p)):∃t∈q.Tables,∃x∈t.Rows,e=.row t.Name x∧(rowAt p t.Name x.Name).map Entry.N≠some x.N:=by
 obtain⟨t,h1,h2⟩:=List.mem_flatMap.1 h;obtain⟨x,h3,h4⟩:=List.mem_flatMap.1 h2;unfold chX at h4;split at h4
 ·cases h4
 ·rename_i g
  rw[List.mem_singleton]at h4;exact⟨t,h1,x,h3,h4,g⟩
theorem zar{p q:zu}{e:Ed}(h:e∈q.Zones.flatMap (chZ p)):∃d∈q.Zones,e=.zone d∧(KL.get zm.Name d.Name p.Zones).map zm.Corners≠some d.Corners:=by
 obtain⟨d,h1,h2⟩:=List.mem_flatMap.1 h;unfold chZ at h2;split at h2
 ·cases h2
 ·rename_i g
  rw[List.mem_singleton]at h2;exact⟨d,h1,h2,g⟩
theorem zas{p q:zu}{e:Ed}(h:e∈q.Rules.flatMap (chR p)):∃r∈q.Rules,(e=.rule r∧KL.get zb.Name r.Name p.Rules=none)∨(e=.fin r.Name r.Until∧∃x,KL.get zb.Name r.Name p.Rules=some x∧x.Until≠r.Until):=by
 obtain⟨d,h1,h2⟩:=List.mem_flatMap.1 h;unfold chR at h2;split at h2
 ·rename_i g
  rw[List.mem_singleton]at h2;exact⟨d,h1,.inl ⟨h2,g⟩⟩
 ·rename_i x g
  split at h2
  ·cases h2
  ·rename_i gu
   rw[List.mem_singleton]at h2;exact⟨d,h1,.inr ⟨h2,x,g,gu⟩⟩
theorem zat{p q:zu}{e:Ed}(h:e∈q.Caps.flatMap (chC p)):∃c∈q.Caps,e=.lim c.Name c.Limit∧∃x,KL.get Cap.Name c.Name p.Caps=some x∧x.Limit≠c.Limit:=by
 obtain⟨d,h1,h2⟩:=List.mem_flatMap.1 h;unfold chC at h2;split at h2
 ·cases h2
 ·rename_i x g
  split at h2
  ·cases h2
  ·rename_i gu
   rw[List.mem_singleton]at h2;exact⟨d,h1,h2,x,g,gu⟩
theorem Wi{p q:zu}{e:Ed}(h:e∈chg p q):e∈q.Defs.flatMap (chD p)∨e∈q.Tables.flatMap (chT p)∨e∈q.Zones.flatMap (chZ p)∨e∈q.Rules.flatMap (chR p)∨e∈q.Caps.flatMap (chC p):=by
 unfold chg at h;simpa only[List.mem_append]using h
theorem zv2{p q:zu}(hq:wO q)(h:Jw p q):∀e∈chg p q,e.ok:=by
 intro e he;obtain⟨⟨d',t',z',r',c',v'⟩,⟨bd',bt',bz',br',bc',bv'⟩,_⟩:=hq;rw[yi]at d' t' z' r' c'
 rcases Wi he with g|g|g|g|g
 ·obtain⟨d,h1,rfl,_⟩:=zap g
  exact⟨d'.2.1 d h1,bd' d h1⟩
 ·obtain⟨t,h1,x,h2,rfl,_⟩:=zaq g
  have ht:=bt' t h1;exact⟨t'.2.1 t h1,(yi.1 ht.1).2.1 x h2,ht.2.2 x h2⟩
 ·obtain⟨d,h1,rfl,_⟩:=zar g
  exact⟨z'.2.1 d h1,bz' d h1⟩
 ·obtain⟨r,h1,⟨rfl,_⟩|⟨rfl,x,hx,hne⟩⟩:=zas g
  ·exact⟨r'.2.1 r h1,br' r h1⟩
  ·obtain⟨u,rfl,hu⟩:=zAb h.r r'.2.2 hx h1
   have hd:=(br' _ h1).1.2.2.2.1;exact⟨r'.2.1 _ h1,hu.resolve_left (Ne.symm hne),hd.2⟩
 ·obtain⟨c,h1,rfl,_⟩:=zat g
  exact⟨c'.2.1 c h1,(bc' c h1).2.1⟩
theorem zv3{p q:zu}(hq:zez q):∀e∈chg p q,SzE e:=by
 intro e he
 rcases Wi he with g|g|g|g|g
 ·obtain⟨d,h1,rfl,_⟩:=zap g
  exact hq.ds d h1
 ·obtain⟨t,h1,x,h2,rfl,_⟩:=zaq g
  trivial
 ·obtain⟨d,h1,rfl,_⟩:=zar g
  exact(hq.big.zs d h1).2
 ·obtain⟨r,h1,⟨rfl,_⟩|⟨rfl,x,hx,hne⟩⟩:=zas g
  ·exact hq.rs r h1
  ·trivial
 ·obtain⟨c,h1,rfl,_⟩:=zat g
  trivial
theorem zra{p q:zu}(hq:wO q)(h:Jw p q):∀e∈chg p q,state q e.thing≠state p e.thing:=by
 intro e he;obtain⟨⟨d',t',z',r',c',v'⟩,⟨bd',bt',bz',br',bc',bv'⟩,_⟩:=hq;rw[yi]at d' t' z' r' c'
 rcases Wi he with g|g|g|g|g
 ·obtain⟨d,h1,rfl,hne⟩:=zap g
  show(KL.get Def.Name d.Name q.Defs).map Sx.d≠(KL.get Def.Name d.Name p.Defs).map Sx.d
  rw[KL.get_mem d'.2.2 h1];intro e;apply hne
  cases hg:KL.get Def.Name d.Name p.Defs with
  |none=>rw[hg]at e;cases e
  |some x=>rw[hg]at e;injection e with e;injection e with e;rw[e]
 ·obtain⟨t,h1,x,h2,rfl,hne⟩:=zaq g
  show(rowAt q t.Name x.Name).map Sx.e≠(rowAt p t.Name x.Name).map Sx.e
  have:rowAt q t.Name x.Name=some x:=by
   unfold rowAt;rw[KL.get_mem t'.2.2 h1,Option.bind_some];exact KL.get_mem (yi.1 (bt' t h1).1).2.2 h2
  rw[this];intro e;apply hne
  cases hg:rowAt p t.Name x.Name with
  |none=>rw[hg]at e;cases e
  |some y=>rw[hg]at e;injection e with e;injection e with e;rw[e];rfl
 ·obtain⟨d,h1,rfl,hne⟩:=zar g
  show(KL.get zm.Name d.Name q.Zones).map Sx.z≠(KL.get zm.Name d.Name p.Zones).map Sx.z
  rw[KL.get_mem z'.2.2 h1];intro e;apply hne
  cases hg:KL.get zm.Name d.Name p.Zones with
  |none=>rw[hg]at e;cases e
  |some x=>rw[hg]at e;injection e with e;injection e with e;rw[e];rfl
 ·obtain⟨r,h1,⟨rfl,hg⟩|⟨rfl,x,hx,hne⟩⟩:=zas g
  ·show(KL.get zb.Name r.Name q.Rules).map Sx.r≠(KL.get zb.Name r.Name p.Rules).map Sx.r
   rw[KL.get_mem r'.2.2 h1,hg];simp
  ·show(KL.get zb.Name r.Name q.Rules).map Sx.r≠(KL.get zb.Name r.Name p.Rules).map Sx.r
   rw[KL.get_mem r'.2.2 h1,hx];intro e
   injection e with e;injection e with e
   exact hne (by rw[e])
 ·obtain⟨c,h1,rfl,x,hx,hne⟩:=zat g
  show(KL.get Cap.Name c.Name q.Caps).map Sx.c≠(KL.get Cap.Name c.Name p.Caps).map Sx.c
  rw[KL.get_mem c'.2.2 h1,hx];intro e
  injection e with e;injection e with e
  exact hne (by rw[e])
theorem zet{τ:Type}{a b:List τ}(ha:a.Nodup)(hb:b.Nodup)(h:∀x∈a,∀y∈b,x≠y):(a++b).Nodup:=List.nodup_append.2 ⟨ha,hb,h⟩
theorem Hl{α τ κ:Type}{key:α→κ}{f:α→List τ}{g:τ→κ}:∀{l:List α},(l.map key).Nodup→(∀x∈l,(f x).Nodup)→(∀x∈l,∀t∈f x,g t=key x)→(l.flatMap f).Nodup
 |[],_,_,_=>List.nodup_nil
 |x::l,hn,h1,h2=>by
  rw[List.map_cons,List.nodup_cons]at hn;rw[List.flatMap_cons];refine zet (h1 x (List.mem_cons_self ..)) (Hl hn.2 (fun y hy=>h1 y (List.mem_cons_of_mem _ hy)) fun y hy=>h2 y (List.mem_cons_of_mem _ hy)) ?_;intro a ha b hb e;subst e;obtain⟨y,hy,hb⟩:=List.mem_flatMap.1 hb;have e1:=h2 x (List.mem_cons_self ..) a ha;have e2:=h2 y (List.mem_cons_of_mem _ hy) a hb;exact hn.1 (by rw[← e1,e2];exact List.mem_map_of_mem hy)
theorem uF{α β γ:Type}(f:α→List β)(g:β→γ)(l:List α):(l.flatMap f).map g=l.flatMap fun x=>(f x).map g:=by
 induction l with
 |nil=>rfl
 |cons x l ih=>rw[List.flatMap_cons,List.map_append,ih,List.flatMap_cons]
theorem zrb{p q:zu}(hq:wO q):((chg p q).map Ed.thing).Nodup:=by
 obtain⟨⟨d',t',z',r',c',v'⟩,⟨bd',bt',bz',br',bc',bv'⟩,_⟩:=hq;rw[yi]at d' t' z' r' c';unfold chg;simp only[List.map_append]
 have fst:∀{l:List Ed}{x:Nat×List UInt8×List UInt8}{n:Nat},(∀e∈l,e.thing.1=n)→x∈l.map Ed.thing→x.1=n:=fun h hx=>by
  obtain⟨e,he,rfl⟩:=List.mem_map.1 hx;exact h e he
 have fD:∀e∈q.Defs.flatMap (chD p),e.thing.1=1:=fun e he=>by
  obtain⟨d,_,rfl,_⟩:=zap he;rfl
 have fT:∀e∈q.Tables.flatMap (chT p),e.thing.1=2:=fun e he=>by
  obtain⟨d,_,x,_,rfl,_⟩:=zaq he;rfl
 have fZ:∀e∈q.Zones.flatMap (chZ p),e.thing.1=3:=fun e he=>by
  obtain⟨d,_,rfl,_⟩:=zar he;rfl
 have fR:∀e∈q.Rules.flatMap (chR p),e.thing.1=0:=fun e he=>by
  obtain⟨d,_,⟨rfl,_⟩|⟨rfl,_⟩⟩:=zas he<;>rfl
 have fC:∀e∈q.Caps.flatMap (chC p),e.thing.1=4:=fun e he=>by
  obtain⟨d,_,rfl,_⟩:=zat he;rfl
 refine zet ?_ (zet ?_ (zet ?_ (zet ?_ ?_ ?_) ?_) ?_) ?_
 ·rw[uF]
  refine Hl (key:=Def.Name) (g:=fun t=>t.2.1) d'.2.2 (fun x _=>?_) fun x _ t ht=>?_
  ·unfold chD;split<;>simp
  ·revert ht;unfold chD;split
   ·intro h;cases h
   ·intro h;simp only[List.map_cons,List.map_nil,List.mem_singleton]at h;subst h;rfl
 ·rw[uF]
  refine Hl (key:=Table.Name) (g:=fun t=>t.2.1) t'.2.2 (fun x hx=>?_) fun x _ t ht=>?_
  ·unfold chT
   rw[uF]
   refine Hl (key:=Entry.Name) (g:=fun t=>t.2.2) (yi.1 (bt' x hx).1).2.2 (fun y _=>?_) fun y _ t ht=>?_
   ·unfold chX;split<;>simp
   ·revert ht;unfold chX;split
    ·intro h;cases h
    ·intro h;simp only[List.map_cons,List.map_nil,List.mem_singleton]at h;subst h;rfl
  ·unfold chT at ht
   rw[uF]at ht;obtain⟨y,_,ht⟩:=List.mem_flatMap.1 ht;revert ht;unfold chX;split
   ·intro h;cases h
   ·intro h;simp only[List.map_cons,List.map_nil,List.mem_singleton]at h;subst h;rfl
 ·rw[uF]
  refine Hl (key:=zm.Name) (g:=fun t=>t.2.1) z'.2.2 (fun x _=>?_) fun x _ t ht=>?_
  ·unfold chZ;split<;>simp
  ·revert ht;unfold chZ;split
   ·intro h;cases h
   ·intro h;simp only[List.map_cons,List.map_nil,List.mem_singleton]at h;subst h;rfl
 ·rw[uF]
  refine Hl (key:=zb.Name) (g:=fun t=>t.2.1) r'.2.2 (fun x _=>?_) fun x _ t ht=>?_
  ·unfold chR;split
   ·simp
   ·split<;>simp
  ·revert ht;unfold chR;split
   ·intro h;simp only[List.map_cons,List.map_nil,List.mem_singleton]at h;subst h;rfl
   ·split
    ·intro h;cases h
    ·intro h;simp only[List.map_cons,List.map_nil,List.mem_singleton]at h;subst h;rfl
 ·rw[uF]
  refine Hl (key:=Cap.Name) (g:=fun t=>t.2.1) c'.2.2 (fun x _=>?_) fun x _ t ht=>?_
  ·unfold chC;split
   ·simp
   ·split<;>simp
  ·revert ht;unfold chC;split
   ·intro h;cases h
   ·split
    ·intro h;cases h
    ·intro h;simp only[List.map_cons,List.map_nil,List.mem_singleton]at h;subst h;rfl
 ·intro x hx y hy e;subst e
  have:=fst fR hx;have:=fst fC hy;omega
 ·intro x hx y hy e;subst e
  have:=fst fZ hx
  rcases List.mem_append.1 hy with hy|hy
  ·have:=fst fR hy;omega
  ·have:=fst fC hy;omega
 ·intro x hx y hy e;subst e
  have:=fst fT hx
  rcases List.mem_append.1 hy with hy|hy
  ·have:=fst fZ hy;omega
  ·rcases List.mem_append.1 hy with hy|hy
   ·have:=fst fR hy;omega
   ·have:=fst fC hy;omega
 ·intro x hx y hy e;subst e
  have:=fst fD hx
  rcases List.mem_append.1 hy with hy|hy
  ·have:=fst fT hy;omega
  ·rcases List.mem_append.1 hy with hy|hy
   ·have:=fst fZ hy;omega
   ·rcases List.mem_append.1 hy with hy|hy
    ·have:=fst fR hy;omega
    ·have:=fst fC hy;omega
theorem zjj{α:Type}(B:Nat)(l:List α)(L:Nat→(Int×List zn)→Option (List zn))(ch:α→List Ed)
  (hc:∀x∈l,(ch x).length≤100) (hL:∀K (i:Nat) x (acc:List zn),l[i]?=some x→acc.length≤B→L (K+1) ((i:Int),acc)=L K (((i+1:Nat):Int),acc++(ch x).map enc)) (hE:∀K acc,L (K+1) ((l.length:Int),acc)=some acc):
  ∀(r:List α)(i K:Nat)(acc:List zn),l.drop i=r→i≤l.length→r.length<K→acc.length+100*r.length≤B→L K ((i:Int),acc)=some (acc++(r.flatMap ch).map enc)
 |[],i,K,acc,hr,hi,hK,ha=>by
  obtain⟨K,rfl⟩:∃k,K=k+1:=⟨K-1,by omega⟩
  have:=drop_nil hr hi
  have e:i=l.length:=by omega
  rw[e,hE];simp
 |x::r,i,K,acc,hr,hi,hK,ha=>by
  obtain⟨K,rfl⟩:∃k,K=k+1:=⟨K-1,by omega⟩
  obtain⟨h1,h2,h3⟩:=xT hr;simp only[List.length_cons]at hK ha;have:=hc x (List.mem_of_getElem? h1);rw[hL K i x acc h1 (by omega),zjj B l L ch hc hL hE r (i+1) K _ h2 (by omega) (by omega) (by simp only[List.length_append,List.length_map];omega)];simp
theorem Ka{α:Type}(B:Nat)(l:List α)(L:Nat→(Int×List zn)→Option (List zn))(ch:α→List Ed)(acc:List zn)(hs:l.length≤100000)(ha:acc.length+100*l.length≤B)
  (hc:∀x∈l,(ch x).length≤100) (hL:∀K (i:Nat) x (acc:List zn),l[i]?=some x→acc.length≤B→L (K+1) ((i:Int),acc)=L K (((i+1:Nat):Int),acc++(ch x).map enc)) (hE:∀K acc,L (K+1) ((l.length:Int),acc)=some acc):
  L KK (0,acc)=some (acc++(l.flatMap ch).map enc) :=
 zjj B l L ch hc hL hE l 0 KK acc rfl (Nat.zero_le _) (u9 (by omega)) ha
theorem find1{l:List Def}{n:List UInt8}{a b:Int}{c d:List UInt8}{e:List Expr}(h:l.length≤100000):H7 l n a b c d e=some (((KL.get Def.Name n l).map fun x=>(true,x.Name,x.Body.Op,x.Body.N,x.Body.S,x.Body.Key,x.Body.Args)).getD (false,[],0,0,[],[],[])):=by
 unfold H7 xC;rw[yg l (fun x=>decide (x.Name=n)) (zC n a b c d e l ((List.length l:Nat):Int)) (by omega) (fun K i x hx=>by rw[zC,xg hx,cond_true,zU hx,Option.bind_some,zJ (by have:=yG hx;omega)];rfl) (fun K=>by rw[zC,zZ];rfl),Option.bind_some];exact o8
theorem find2{l:List Table}{n:List UInt8}{a:List Entry}{b:Int}(h:l.length≤100000):Az l n a b=some (((KL.get Table.Name n l).map fun x=>(true,x.Name,x.Rows,x.Else)).getD (false,[],[],0)):=by
 unfold Az xD;rw[yg l (fun x=>decide (x.Name=n)) (zD n a b l ((List.length l:Nat):Int)) (by omega) (fun K i x hx=>by rw[zD,xg hx,cond_true,zU hx,Option.bind_some,zJ (by have:=yG hx;omega)];rfl) (fun K=>by rw[zD,zZ];rfl),Option.bind_some];exact o8
theorem find3{l:List Entry}{n:List UInt8}{b:Int}(h:l.length≤100000):qz l n b=some (((KL.get Entry.Name n l).map fun x=>(true,x.Name,x.N)).getD (false,[],0)):=by
 unfold qz xE;rw[yg l (fun x=>decide (x.Name=n)) (zE n b l ((List.length l:Nat):Int)) (by omega) (fun K i x hx=>by rw[zE,xg hx,cond_true,zU hx,Option.bind_some,zJ (by have:=yG hx;omega)];rfl) (fun K=>by rw[zE,zZ];rfl),Option.bind_some];exact o8
theorem find4{l:List zm}{n:List UInt8}{a:Bool}{b:List zw}(h:l.length≤100000):qA l n a b=some (((KL.get zm.Name n l).map fun x=>(true,x.Name,x.Overlay,x.Corners)).getD (false,[],false,[])):=by
 unfold qA xF;rw[yg l (fun x=>decide (x.Name=n)) (zF n a b l ((List.length l:Nat):Int)) (by omega) (fun K i x hx=>by rw[zF,xg hx,cond_true,zU hx,Option.bind_some,zJ (by have:=yG hx;omega)];rfl) (fun K=>by rw[zF,zZ];rfl),Option.bind_some];exact o8
def fr(b:Bool)(x2:zb):Bool×(List UInt8)×(List (List UInt8))×(List (List UInt8))×Int×Int×Int×Bool×Int×Int×Int×(List UInt8)×(List UInt8)×(List Expr)×Int×Int×Int×Int×Int×Int×Int:=(b,x2.Name,x2.Zones,x2.Except,x2.From,x2.Until,x2.Grace,x2.Vary,x2.Kind,x2.Test.Op,x2.Test.N,x2.Test.S,x2.Test.Key,x2.Test.Args,x2.zg.Side,x2.zg.Base,x2.zg.Num,x2.zg.Den,x2.Uses,x2.Other,x2.N)
theorem find5{l:List zb}{ru:RB}(h:l.length≤100000):qB l ru=some (((KL.get zb.Name ru.r0 l).map (fr true)).getD (fr false ja)):=by
 unfold qB xG;rw[yg l (fun x=>decide (x.Name=ru.r0)) (zG ru l ((List.length l:Nat):Int)) (by omega) (fun K i x hx=>by rw[zG,xg hx,cond_true,zU hx,Option.bind_some,zJ (by have:=yG hx;omega)];rfl) (fun K=>by rw[zG,zZ];rfl),Option.bind_some];exact o8
theorem find6{l:List Cap}{n:List UInt8}{a b:Int}{c:List zw}(h:l.length≤100000):qC l n a b c=some (((KL.get Cap.Name n l).map fun x=>(true,x.Name,x.Load,x.Limit,x.Corners)).getD (false,[],0,0,[])):=by
 unfold qC xH;rw[yg l (fun x=>decide (x.Name=n)) (zH n a b c l ((List.length l:Nat):Int)) (by omega) (fun K i x hx=>by rw[zH,xg hx,cond_true,zU hx,Option.bind_some,zJ (by have:=yG hx;omega)];rfl) (fun K=>by rw[zH,zZ];rfl),Option.bind_some];exact o8
theorem uG{acc:List zn}{e:zn}(h:acc.length≤100000000):((grd (List.length (acc++([e]:List zn))*376≤140737488355328)).bind fun _=>some (acc++([e]:List zn)))=some (acc++[e]):=by
 rw[zV (by rw[List.length_append,List.length_singleton];omega)];rfl
theorem zuk{p:zu}{d:Def}{acc:List zn}(hp:p.Defs.length≤100000)(hd:zaa d.Body=true)(ha:acc.length≤100000000):
  ((H7 p.Defs d.Name d.Body.Op d.Body.N d.Body.S d.Body.Key d.Body.Args).bind fun x3=>((bif (!x3.1)then some true else(wX (zn.mk 2 d.Name ([]:List UInt8) 0 ja d.Body []) (zn.mk 2 d.Name ([]:List UInt8) 0 ja (Expr.mk x3.2.2.1 x3.2.2.2.1 x3.2.2.2.2.1 x3.2.2.2.2.2.1 x3.2.2.2.2.2.2) [])).bind fun x5=>some (!x5))).bind fun x4=>(bif x4 then(grd (List.length (acc++([enc (.dfn d)]:List zn))*376≤140737488355328)).bind fun _=>some (acc++([enc (.dfn d)]:List zn))else some acc))=some (acc++(chD p d).map enc):=by
 rw[find1 hp,Option.bind_some];unfold chD
 cases hg:KL.get Def.Name d.Name p.Defs with
 |none =>
  rw[if_neg (by simp)]
  show(Option.bind (some true) _)=_
  rw[Option.bind_some,cond_true,uG ha];rfl
 |some x =>
  simp only[Option.map_some,Option.getD_some,Bool.not_true,cond_false,zy];rw[zer (a:=⟨2,d.Name,[],0,ja,d.Body,[]⟩) (Hj (d:=.dfn d) hd)];simp only[Option.bind_some];have hn:=(KL.kH hg).1;by_cases g:x=d
  ·subst g
   rw[vj rfl,if_pos rfl];simp
  ·rw[vI,if_neg (fun e=>g (Option.some.inj e)),Bool.not_false,cond_true,uG ha]
   ·rfl
   ·intro e
    simp only[zn.mk.injEq]at e;apply g;obtain⟨a,b⟩:=x;obtain⟨a',b'⟩:=d;dsimp only at hn e;rw[hn,e.2.2.2.2.2.1]
theorem zul{p:zu}{n:List UInt8}{x:Entry}{r:List Entry}{acc:List zn}(hr:r.length≤100000)(hg:rowAt p n x.Name=KL.get Entry.Name x.Name r)(ha:acc.length≤100000000):
  ((qz r x.Name x.N).bind fun x3=>((bif (!x3.1)then some true else some (!(decide (x3.2.2=x.N))))).bind fun x4=>(bif x4 then(grd (List.length (acc++([enc (.row n x)]:List zn))*376≤140737488355328)).bind fun _=>some (acc++([enc (.row n x)]:List zn))else some acc))=some (acc++(chX p n x).map enc):=by
 rw[find3 hr,Option.bind_some];unfold chX;rw[hg]
 cases hg:KL.get Entry.Name x.Name r with
 |none =>
  rw[if_neg (by simp)]
  show(Option.bind (some true) _)=_
  rw[Option.bind_some,cond_true,uG ha];rfl
 |some y =>
  simp only[Option.map_some,Option.getD_some,Bool.not_true,cond_false,Option.bind_some];by_cases g:y.N=x.N
  ·rw[decide_eq_true g,if_pos (by rw[g])];simp
  ·rw[decide_eq_false g,if_neg (fun e=>g (Option.some.inj e)),Bool.not_false,cond_true,uG ha]
   rfl
theorem zum{p:zu}{z:zm}{acc:List zn}(hp:p.Zones.length≤100000)(hc:∀x∈p.Zones,x.Corners.length≤100000)(ha:acc.length≤100000000):
  ((qA p.Zones z.Name z.Overlay z.Corners).bind fun x3=>((bif (!x3.1)then some true else(ya x3.2.2.2 z.Corners).bind fun x5=>some (!x5))).bind fun x4=>(bif x4 then(grd (List.length (acc++([enc (.zone z)]:List zn))*376≤140737488355328)).bind fun _=>some (acc++([enc (.zone z)]:List zn))else some acc))=some (acc++(chZ p z).map enc):=by
 rw[find4 hp,Option.bind_some];unfold chZ
 cases hg:KL.get zm.Name z.Name p.Zones with
 |none =>
  rw[if_neg (by simp)]
  show(Option.bind (some true) _)=_
  rw[Option.bind_some,cond_true,uG ha];rfl
 |some x =>
  simp only[Option.map_some,Option.getD_some,Bool.not_true,cond_false];rw[uz (by have:=hc x (KL.kH hg).2;omega)];simp only[Option.bind_some];by_cases g:x.Corners=z.Corners
  ·rw[vj g,if_pos (by rw[g])];simp
  ·rw[vI g,if_neg (fun e=>g (Option.some.inj e)),Bool.not_false,cond_true,uG ha]
   rfl
theorem zun{p:zu}{r:zb}{ru:RB}{acc:List zn}(hu:ru.r0=r.Name)(hp:p.Rules.length≤100000)(ha:acc.length≤100000000):
  ((qB p.Rules ru).bind fun x3=>(bif (!x3.1)then(grd (List.length (acc++([enc (.rule r)]:List zn))*376≤140737488355328)).bind fun _=>some (acc++([enc (.rule r)]:List zn))else(bif (!(decide (x3.2.2.2.2.2.1=r.Until)))then(grd (List.length (acc++([enc (.fin r.Name r.Until)]:List zn))*376≤140737488355328)).bind fun _=>some (acc++([enc (.fin r.Name r.Until)]:List zn))else some acc)))=some (acc++(chR p r).map enc):=by
 rw[find5 hp,Option.bind_some,hu];unfold chR
 cases hg:KL.get zb.Name r.Name p.Rules with
 |none =>
  show(bif true then _ else _)=_
  rw[cond_true,uG ha];rfl
 |some x =>
  show(bif false then _ else(bif (!(decide (x.Until=r.Until)))then _ else _))=_
  rw[cond_false];by_cases g:x.Until=r.Until
  ·rw[decide_eq_true g]
   dsimp only;rw[if_pos g];simp
  ·rw[decide_eq_false g]
   dsimp only;rw[if_neg g,Bool.not_false,cond_true,uG ha];rfl
theorem zuo{p:zu}{c:Cap}{acc:List zn}(hp:p.Caps.length≤100000)(ha:acc.length≤100000000):
  ((qC p.Caps c.Name c.Load c.Limit c.Corners).bind fun x3=>((bif x3.1 then some (!(decide (x3.2.2.2.1=c.Limit)))else some false)).bind fun x4=>(bif x4 then(grd (List.length (acc++([enc (.lim c.Name c.Limit)]:List zn))*376≤140737488355328)).bind fun _=>some (acc++([enc (.lim c.Name c.Limit)]:List zn))else some acc))=some (acc++(chC p c).map enc):=by
 rw[find6 hp,Option.bind_some];unfold chC
 cases hg:KL.get Cap.Name c.Name p.Caps with
 |none =>
  show(Option.bind (some false) _)=_
  rw[Option.bind_some];simp
 |some x =>
  simp only[Option.map_some,Option.getD_some,cond_true,Option.bind_some];by_cases g:x.Limit=c.Limit
  ·rw[decide_eq_true g,if_pos g];simp
  ·rw[decide_eq_false g,if_neg g,Bool.not_false,cond_true,uG ha]
   rfl
theorem zAc{p:zu}(d:Def):(chD p d).length≤100:=by unfold chD;split<;>simp
theorem zFh{p:zu}{n:List UInt8}(d:Entry):(chX p n d).length≤1:=by unfold chX;split<;>simp
theorem zjk{α β:Type}{f:α→List β}(h:∀x,(f x).length≤1):∀l:List α,(l.flatMap f).length≤l.length
 |[]=>by simp
 |x::l=>by
  have:=h x;have:=zjk h l;simp only[List.flatMap_cons,List.length_append,List.length_cons];omega
theorem zAd{p:zu}{t:Table}(h:t.Rows.length≤64):(chT p t).length≤100:=by
 have:=zjk (f:=chX p t.Name) zFh t.Rows;unfold chT;omega
theorem zAe{p:zu}(d:zm):(chZ p d).length≤100:=by unfold chZ;split<;>simp
theorem zAf{p:zu}(d:zb):(chR p d).length≤100:=by
 unfold chR;split
 ·simp
 ·split<;>simp
theorem zFi{p:zu}(d:Cap):(chC p d).length≤100:=by
 unfold chC;split
 ·simp
 ·split<;>simp
theorem lp1{p:zu}{l:List Def}{acc:List zn}(hp:p.Defs.length≤100000)(hl:l.length≤100000)(hb:∀d∈l,zaa d.Body=true)(ha:acc.length≤10000000){c10:List Table}{c11:List zm}{c12:List zb}{c13:List Cap}{c14:List View}{c15:List zj}{c16:Int}:
  xk l ((List.length l:Nat):Int) p.Defs p.Tables p.Zones p.Rules p.Caps p.Views p.Sun p.Hours c10 c11 c12 c13 c14 c15 c16 KK (0,acc)=some (acc++(l.flatMap (chD p)).map enc):=by
 refine Ka 100000000 l _ (chD p) acc hl (by omega) (fun x _=>zAc x) (fun K i x acc hx ha=>?_) (fun K acc=>by rw[xk];simp only[zZ,cond_false]);rw[xk];simp only[xg hx,cond_true,zU hx,Option.bind_some,zy];exact Hh (zuk hp (hb x (List.mem_of_getElem? hx)) ha) (by rw[zJ (by have:=yG hx;omega)])
theorem lp3{p:zu}{n:List UInt8}{l:List Entry}{r:List Entry}{acc:List zn}(hr:r.length≤100000)(hg:∀k,rowAt p n k=KL.get Entry.Name k r)(hl:l.length≤100000)(ha:acc.length≤10000000){c0:List Table}{c1 c2:Int}{c13:List Def}{c14:List zm}{c15:List zb}{c16:List Cap}{c17:List View}{c18:List zj}{c19 c21 c24:Int}{c22:List UInt8}:
  xl c0 c1 c2 l ((List.length l:Nat):Int) p.Defs p.Tables p.Zones p.Rules p.Caps p.Views p.Sun p.Hours c13 c14 c15 c16 c17 c18 c19 n c21 c22 r c24 KK (0,acc)=some (acc++(l.flatMap (chX p n)).map enc):=by
 refine Ka 100000000 l _ (chX p n) acc hl (by omega) (fun x _=>by have:=zFh (p:=p) (n:=n) x;omega) (fun K i x acc hx ha=>?_) (fun K acc=>by rw[xl];simp only[zZ,cond_false]);rw[xl];simp only[xg hx,cond_true,zU hx,Option.bind_some];exact Hh (zul hr (hg x.Name) ha) (by rw[zJ (by have:=yG hx;omega)])
theorem lp2{p:zu}{l:List Table}{acc:List zn}(hp:zey p)(hl:l.length≤1000)(hb:∀d∈l,d.Rows.length≤64)(ha:acc.length≤1000000){c10:List Def}{c11:List zm}{c12:List zb}{c13:List Cap}{c14:List View}{c15:List zj}{c16:Int}:
  xm l ((List.length l:Nat):Int) p.Defs p.Tables p.Zones p.Rules p.Caps p.Views p.Sun p.Hours c10 c11 c12 c13 c14 c15 c16 KK (0,acc)=some (acc++(l.flatMap (chT p)).map enc):=by
 refine Ka 10000000 l _ (chT p) acc (by omega) (by omega) (fun x hx=>zAd (hb x hx)) (fun K i x acc hx ha=>?_) (fun K acc=>by rw[xm];simp only[zZ,cond_false]);rw[xm];simp only[xg hx,cond_true,zU hx,Option.bind_some];rw[find2 (by have:=hp.t;omega),Option.bind_some];have hx64:=hb x (List.mem_of_getElem? hx);refine Hh (v:=acc++(chT p x).map enc) (lp3 ?_ ?_ (by omega) ha) (by rw[zJ (by have:=yG hx;omega)])
 ·cases hg:KL.get Table.Name x.Name p.Tables with
  |none=>simp
  |some y =>
   have:=(hp.ts y (KL.kH hg).2).2.1;simp only[Option.map_some,Option.getD_some];omega
 ·intro k
  unfold rowAt
  cases hg:KL.get Table.Name x.Name p.Tables with
  |none=>rfl
  |some y=>rfl
theorem lp4{p:zu}{l:List zm}{acc:List zn}(hp:p.Zones.length≤100000)(hc:∀x∈p.Zones,x.Corners.length≤100000)(hl:l.length≤100000)(ha:acc.length≤10000000){c10:List Def}{c11:List Table}{c12:List zb}{c13:List Cap}{c14:List View}{c15:List zj}{c16:Int}:
  xn l ((List.length l:Nat):Int) p.Defs p.Tables p.Zones p.Rules p.Caps p.Views p.Sun p.Hours c10 c11 c12 c13 c14 c15 c16 KK (0,acc)=some (acc++(l.flatMap (chZ p)).map enc):=by
 refine Ka 100000000 l _ (chZ p) acc hl (by omega) (fun x _=>zAe x) (fun K i x acc hx ha=>?_) (fun K acc=>by rw[xn];simp only[zZ,cond_false]);rw[xn];simp only[xg hx,cond_true,zU hx,Option.bind_some,zes];exact Hh (zum hp hc ha) (by rw[zJ (by have:=yG hx;omega)])
theorem lp5{p:zu}{l:List zb}{acc:List zn}(hp:p.Rules.length≤100000)(hl:l.length≤100000)(ha:acc.length≤10000000){c10:List Def}{c11:List Table}{c12:List zm}{c13:List Cap}{c14:List View}{c15:List zj}{c16:Int}:
  xo l ((List.length l:Nat):Int) p.Defs p.Tables p.Zones p.Rules p.Caps p.Views p.Sun p.Hours c10 c11 c12 c13 c14 c15 c16 KK (0,acc)=some (acc++(l.flatMap (chR p)).map enc):=by
 refine Ka 100000000 l _ (chR p) acc hl (by omega) (fun x _=>zAf x) (fun K i x acc hx ha=>?_) (fun K acc=>by rw[xo];simp only[zZ,cond_false]);rw[xo];simp only[xg hx,cond_true,zU hx,Option.bind_some,uC];exact Hh (zun rfl hp ha) (by rw[zJ (by have:=yG hx;omega)])
theorem lp6{p:zu}{l:List Cap}{acc:List zn}(hp:p.Caps.length≤100000)(hl:l.length≤100000)(ha:acc.length≤10000000):
  xp l ((List.length l:Nat):Int) p.Defs p.Tables p.Zones p.Rules p.Caps p.Views p.Sun p.Hours KK (0,acc)=some (acc++(l.flatMap (chC p)).map enc):=by
 refine Ka 100000000 l _ (chC p) acc hl (by omega) (fun x _=>zFi x) (fun K i x acc hx ha=>?_) (fun K acc=>by rw[xp];simp only[zZ,cond_false]);rw[xp];simp only[xg hx,cond_true,zU hx,Option.bind_some];exact Hh (zuo hp ha) (by rw[zJ (by have:=yG hx;omega)])
theorem wo{α β:Type}{f:α→List β}:∀{l:List α},(∀x∈l,(f x).length≤100)→(l.flatMap f).length≤100*l.length
 |[],_=>by simp
 |x::l,h=>by
  have h1:=h x (List.mem_cons_self ..)
  have h2:=wo fun y hy=>h y (List.mem_cons_of_mem _ hy)
  simp only[List.flatMap_cons,List.length_append,List.length_cons];omega
theorem zrc{p q:zu}(hp:zey p)(hq:zey q):uq p q=some ((chg p q).map enc):=by
 unfold uq;have hl:=hp.lens;have ql:=hq.lens
 have b1:=wo (l:=q.Defs) (f:=chD p) fun x _=>zAc x
 have b2:=wo (l:=q.Tables) (f:=chT p) fun x hx=>zAd (hq.ts x hx).2.1
 have b3:=wo (l:=q.Zones) (f:=chZ p) fun x _=>zAe x
 have b4:=wo (l:=q.Rules) (f:=chR p) fun x _=>zAf x
 have q1:=hq.d;have q2:=hq.t;have q3:=hq.z;have q4:=hq.r;rw[lp1 hl.d ql.d (fun d hd=>(hq.ds d hd).2) (by simp),Option.bind_some,lp2 hp (by omega) (fun d hd=>(hq.ts d hd).2.1) (by simp only[List.nil_append,List.length_map];omega),Option.bind_some];rw[lp4 hl.z (fun x hx=>by have:=(hp.zs x hx).2;omega) ql.z (by simp only[List.nil_append,List.length_append,List.length_map];omega),Option.bind_some];rw[lp5 hl.r ql.r (by simp only[List.nil_append,List.length_append,List.length_map];omega),Option.bind_some];rw[lp6 hl.c ql.c (by simp only[List.nil_append,List.length_append,List.length_map];omega),Option.bind_some];unfold chg;simp only[List.map_append,List.nil_append,List.append_assoc]
theorem zg7{p q:zu}(hq:zey q):(chg p q).length≤1000000:=by
 have b1:=wo (l:=q.Defs) (f:=chD p) fun x _=>zAc x
 have b2:=wo (l:=q.Tables) (f:=chT p) fun x hx=>zAd (hq.ts x hx).2.1
 have b3:=wo (l:=q.Zones) (f:=chZ p) fun x _=>zAe x
 have b4:=wo (l:=q.Rules) (f:=chR p) fun x _=>zAf x
 have b5:=wo (l:=q.Caps) (f:=chC p) fun x _=>zFi x
 have q1:=hq.d;have q2:=hq.t;have q3:=hq.z;have q4:=hq.r;have q5:=hq.c;unfold chg;simp only[List.length_append];omega
theorem zrd{R:Expr→Int→Int→Option Int}{m:Nat}{lv:Int}{c2 c3:Int}{c4 c5:List UInt8}{l:List Expr}(hlv:1≤lv∧lv≤1000)(hm:m≤1000)
  (hR:∀x∈l,∀k:Nat,k≤1000→∃v:Nat,R x (k:Int) (lv-1)=some (v:Int)∧1≤v∧v≤k+1∧(v≤k→K2 x≤v)):
  ∀(r:List Expr)(i K n:Nat),l.drop i=r→i≤l.length→m+1-n<K→n≤m+1→i≤n→∃v:Nat,xq R (m:Int) lv c2 c3 c4 c5 l K ((n:Int),(i:Int))=some (v:Int)∧n≤v∧v≤m+1∧(v≤m→n+zqg r≤v)
 |[],i,K,n,hr,hi,hK,hn,hin=>by
  obtain⟨K,rfl⟩:∃k,K=k+1:=⟨K-1,by omega⟩
  have:=drop_nil hr hi
  have e:i=l.length:=by omega
  refine⟨n,?_,by omega,by omega,fun _=>by simp[zqg]⟩;rw[xq,e];simp only[zZ,cond_false,Option.bind_some]
 |x::r,i,K,n,hr,hi,hK,hn,hin=>by
  obtain⟨K,rfl⟩:∃k,K=k+1:=⟨K-1,by omega⟩
  obtain⟨h1,h2,h3⟩:=xT hr;rw[xq];simp only[xg h1,cond_true,Option.bind_some];by_cases g:n≤m
  ·rw[decide_eq_true (by omega:(n:Int)≤(m:Int)),cond_true,zU h1,Option.bind_some]
   obtain⟨v,e1,e2,e3,e4⟩:=hR x (List.mem_of_getElem? h1) (m-n) (by omega);rw[Kt (n:=(m:Int)-(n:Int)) (by omega) (by omega),Kt (n:=lv-1) (by omega) (by omega),show(m:Int)-(n:Int)=((m-n:Nat):Int) by omega,e1,Option.bind_some,Kt (n:=(n:Int)+(v:Int)) (by omega) (by omega),zJ (by omega),show(n:Int)+(v:Int)=((n+v:Nat):Int) by omega];obtain⟨u,f1,f2,f3,f4⟩:=zrd hlv hm hR r (i+1) K (n+v) h2 (by omega) (by omega) (by omega) (by omega);refine⟨u,f1,by omega,f3,fun hu=>?_⟩;have:=f4 hu;have:=e4 (by omega);rw[zqg];omega
  ·rw[decide_eq_false (by omega:¬(n:Int)≤(m:Int)),cond_false]
   exact⟨n,rfl,by omega,hn,fun h=>absurd h g⟩
theorem zup:∀(lv K:Nat)(e:Expr)(m:Nat),lv<K→lv≤1000→m≤1000→∃v:Nat,zW K e (m:Int) (lv:Int)=some (v:Int)∧1≤v∧v≤m+1∧(v≤m→K2 e≤v):=by
 intro lv
 induction lv with
 |zero =>
  intro K e m hK _ hm
  obtain⟨K,rfl⟩:∃k,K=k+1:=⟨K-1,by omega⟩
  refine⟨m+1,?_,by omega,by omega,by omega⟩;rw[zW]
  show(bif true then some (w64 ((m:Int)+1))else _)=_
  rw[cond_true,zJ (by omega)]
 |succ lv ih =>
  intro K e m hK hlv hm
  obtain⟨K,rfl⟩:∃k,K=k+1:=⟨K-1,by omega⟩
  rw[zW,decide_eq_false (by omega:¬((lv+1:Nat):Int)<1),cond_false]
  obtain⟨v,h1,h2,h3,h4⟩:=zrd (R:=zW K) (m:=m) (lv:=((lv+1:Nat):Int)) (c2:=e.Op) (c3:=e.N) (c4:=e.S) (c5:=e.Key) (l:=e.Args) ⟨by omega,by omega⟩ hm (fun x _ k hk=>by
   rw[show((lv+1:Nat):Int)-1=(lv:Int) by omega]
   exact ih K x k (by omega) (by omega) hk) e.Args 0 KK 1 rfl (Nat.zero_le _) (u9 (by omega)) (by omega) (by omega)
  refine⟨v,?_,h2,h3,fun hv=>?_⟩
  ·rw[show(1:Int)=((1:Nat):Int) from rfl,show(0:Int)=((0:Nat):Int) from rfl,h1];rfl
  ·have:=h4 hv
   obtain⟨_,_,_,_,az⟩:=e;rw[K2];dsimp only at this;omega
def SmE(e:Expr):Prop:=∃v:Nat,zW KK e 20 14=some (v:Int)∧v≤20
theorem AG(e:Expr):∃v:Nat,zW KK e 20 14=some (v:Int)∧(v≤20→K2 e≤20):=by
 obtain⟨v,h1,_,_,h4⟩:=zup 14 KK e 20 (u9 (by omega)) (by omega) (by omega);exact⟨v,h1,fun h=>by have:=h4 h;omega⟩
theorem zFj{e:Expr}{v:Nat}(h:zW KK e 20 14=some (v:Int)):decide ((v:Int)≤20)=pd (SmE e):=by
 refine jj ?_;rw[decide_eq_true_eq];constructor
 ·intro g;exact⟨v,h,by omega⟩
 ·rintro⟨u,hu,hu2⟩
  rw[h]at hu;have:(v:Int)=u:=Option.some.inj hu;omega
theorem zFk{e:Expr}{v:Nat}(h:zW KK e 20 14=some (v:Int)):decide ((v:Int)>20)=!(pd (SmE e)):=by
 rw[← zFj h,← decide_not];exact vh (by omega)
theorem SmE.big{e:Expr}(h:SmE e):zaa e=true:=by
 obtain⟨v,h1,h2⟩:=AG e;obtain⟨u,h3,h4⟩:=h;rw[h1]at h3;have:(v:Int)=u:=Option.some.inj h3;have:=h2 (by omega);exact zg2 (by omega)
def SmR(r:zb):Prop:=SmE r.Test∧r.Zones.length≤6∧r.Except.length≤6
theorem SmR.big{r:zb}(h:SmR r):zex r=true:=by
 have:=zad h.1.big;exact zqx (by have:=h.2.1;omega) (by have:=h.2.2;omega) this.1
theorem zjl{r:zb}:ka r=some (pd (SmR r)):=by
 unfold ka;rw[zy];obtain⟨v,h1,_⟩:=AG r.Test;rw[h1,Option.bind_some,zFj h1,vg,vg];refine congrArg some ?_;unfold SmR;rw[xv,xv,zeb r.Zones.length 6 (a:=6) rfl,zeb r.Except.length 6 (a:=6) rfl,kM,kM]
structure SmP(p:zu):Prop where
 l:p.Defs.length≤5∧p.Tables.length≤5∧p.Zones.length≤5∧p.Rules.length≤5∧p.Caps.length≤5∧p.Views.length≤5∧p.Sun.length≤5
 d:∀x∈p.Defs,SmE x.Body
 t:∀x∈p.Tables,x.Rows.length≤6
 z:∀x∈p.Zones,x.Corners.length≤12
 r:∀x∈p.Rules,SmR x
 c:∀x∈p.Caps,x.Corners.length≤12
 v:∀x∈p.Views,x.Targets.length≤6
theorem SmP.big{p:zu}(h:SmP p):zey p:=by
 obtain⟨⟨a1,a2,a3,a4,a5,a6,a7⟩,hd,ht,hz,hr,hc,hv⟩:=h;exact⟨by omega,by omega,by omega,by omega,by omega,by omega,by omega,fun x hx=>⟨by omega,(hd x hx).big⟩,fun x hx=>⟨by omega,by have:=ht x hx;omega,fun _ _=>by omega⟩,fun x hx=>⟨by omega,by have:=hz x hx;omega⟩,fun x hx=>(hr x hx).big,fun x hx=>⟨by omega,by have:=hc x hx;omega⟩,fun x hx=>⟨by omega,by have:=hv x hx;omega⟩⟩
theorem SmP.keep{p:zu}(h:SmP p)(hr:wO p):zez p:=⟨hr,fun x hx=>(h.d x hx).big,fun x hx=>(h.r x hx).big⟩
theorem AI{a:Nat}{m:Int}(n:Nat){f:Option Bool}{r:Prop}(hm:m=(n:Int))(hr:a≤n→f=some (!(pd r))):(bif decide ((a:Int)>m)then some true else f)=some (!(pd (a≤n∧r))):=by
 rw[zzj n hm hr,xv,kM]
theorem zuq{p:zu}:AB p=some (pd (SmP p)):=by
 unfold AB;rw[AI (m:=5) 5 rfl fun h1=>AI (m:=5) 5 rfl fun h2=>AI (m:=5) 5 rfl fun h3=>AI (m:=5) 5 rfl fun h4=>AI (m:=5) 5 rfl fun h5=>AI (m:=5) 5 rfl fun h6=>(by rw[J2 (m:=5) 5 rfl,kM]:some (decide (((List.length p.Sun:Nat):Int)>5))=some (!(pd (p.Sun.length≤5)))),Option.bind_some];by_cases hl:p.Defs.length≤5∧p.Tables.length≤5∧p.Zones.length≤5∧p.Rules.length≤5∧p.Caps.length≤5∧p.Views.length≤5∧p.Sun.length≤5
 ·rw[vj hl,Bool.not_true,cond_false]
  obtain⟨a1,a2,a3,a4,a5,a6,a7⟩:=hl
  have hp:pd (SmP p)=pd ((∀x∈p.Defs,SmE x.Body)∧(∀x∈p.Tables,x.Rows.length≤6)∧(∀x∈p.Zones,x.Corners.length≤12)∧(∀x∈p.Rules,SmR x)∧(∀x∈p.Caps,x.Corners.length≤12)∧(∀x∈p.Views,x.Targets.length≤6)) :=
   xU ⟨fun h=>⟨h.d,h.t,h.z,h.r,h.c,h.v⟩,fun⟨b1,b2,b3,b4,b5,b6⟩=>⟨⟨a1,a2,a3,a4,a5,a6,a7⟩,b1,b2,b3,b4,b5,b6⟩⟩
  rw[hp]
  refine kE (vE p.Defs (fun x=>SmE x.Body) (w6 p.Defs p.Tables p.Zones p.Rules p.Caps p.Views p.Sun p.Hours) (fun q=>(idx p.Defs q).bind fun x1=>(zW KK x1.Body 20 14).bind fun x2=>some (decide (x2>20))) (by omega) (fun K q=>?_) fun i x h=>?_) fun _=>?_
  ·rw[w6];simp only[Option.bind_assoc,Option.bind_some]
  ·obtain⟨v,h1,_⟩:=AG x.Body
   simp only[zU h,Option.bind_some,h1,zFk h1]
  refine kE (vE p.Tables (fun x=>x.Rows.length≤6) (w7 p.Defs p.Tables p.Zones p.Rules p.Caps p.Views p.Sun p.Hours) (fun q=>(idx p.Tables q).bind fun x1=>some (decide (((List.length x1.Rows:Nat):Int)>6))) (by omega) (fun K q=>?_) fun i x h=>?_) fun _=>?_
  ·rw[w7];simp only[Option.bind_assoc,Option.bind_some]
  ·rw[zU h,Option.bind_some,J2 (m:=6) 6 rfl,kM]
  refine kE (vE p.Zones (fun x=>x.Corners.length≤12) (w8 p.Defs p.Tables p.Zones p.Rules p.Caps p.Views p.Sun p.Hours) (fun q=>(idx p.Zones q).bind fun x1=>some (decide (((List.length x1.Corners:Nat):Int)>12))) (by omega) (fun K q=>?_) fun i x h=>?_) fun _=>?_
  ·rw[w8];simp only[Option.bind_assoc,Option.bind_some]
  ·rw[zU h,Option.bind_some,J2 (m:=12) 12 rfl,kM]
  refine kE (vE p.Rules (fun x=>SmR x) (w9 p.Defs p.Tables p.Zones p.Rules p.Caps p.Views p.Sun p.Hours) (fun q=>(idx p.Rules q).bind fun x1=>(ka x1).bind fun x2=>some (!x2)) (by omega) (fun K q=>?_) fun i x h=>?_) fun _=>?_
  ·rw[w9];simp only[Option.bind_assoc,Option.bind_some]
  ·rw[zU h,Option.bind_some,zjl];rfl
  refine kE (vE p.Caps (fun x=>x.Corners.length≤12) (vb p.Defs p.Tables p.Zones p.Rules p.Caps p.Views p.Sun p.Hours) (fun q=>(idx p.Caps q).bind fun x1=>some (decide (((List.length x1.Corners:Nat):Int)>12))) (by omega) (fun K q=>?_) fun i x h=>?_) fun _=>?_
  ·rw[vb];simp only[Option.bind_assoc,Option.bind_some]
  ·rw[zU h,Option.bind_some,J2 (m:=12) 12 rfl,kM]
  have:=kE (r:=True) (f:=fun _=>some true) (vE p.Views (fun x=>x.Targets.length≤6) (vc p.Defs p.Tables p.Zones p.Rules p.Caps p.Views p.Sun p.Hours) (fun q=>(idx p.Views q).bind fun x1=>some (decide (((List.length x1.Targets:Nat):Int)>6))) (by omega) (fun K q=>by
   rw[vc];simp only[Option.bind_assoc,Option.bind_some]) fun i x h=>by
   rw[zU h,Option.bind_some,J2 (m:=6) 6 rfl,kM]) fun _=>by rw[vj trivial]
  rw[this];exact congrArg some (xU (by simp))
 ·rw[vI hl,vI fun h=>hl h.l];rfl
def SmD(e:zn):Prop:=SmR e.zb∧SmE e.Body∧e.Corners.length≤12
theorem SmD.sz{e:zn}(h:SmD e):SzD e:=⟨h.1.big,h.2.1.big,by have:=h.2.2;omega⟩
theorem zAg{l:List zn}:∃b,Jd l=some b∧(b=true→l.length≤6∧∀e∈l,SmD e):=by
 unfold Jd;have key:=Z8 (l.take 7) (fun x=>pd (SmD x)) (some (Sum.inr ())) (some (Sum.inl false)) (wL l) (fun K i x hx=>?_) (fun K=>?_) (l.take 7) 0 KK rfl (Nat.zero_le _) (u9 (by rw[List.length_take];omega))
 ·rw[show((0:Nat):Int)=0 from rfl]at key
  rw[key]
  cases hA:(l.take 7).all (fun x=>pd (SmD x))with
  |false=>exact⟨false,rfl,fun h=>by cases h⟩
  |true =>
   refine⟨decide (((List.length l:Nat):Int)≤6),rfl,fun h=>?_⟩;rw[decide_eq_true_eq]at h;refine⟨by omega,?_⟩;rw[List.take_of_length_le (by omega),List.all_eq_true]at hA
   exact fun e he=>xV.1 (hA e he)
 ·have hi:=yG hx
  rw[List.length_take]at hi
  have hx':l[i]?=some x:=by rwa [List.getElem?_take,if_pos (by omega)]at hx
  have hi7:i<7:=by omega
  have h7:decide ((i:Int)<7)=true:=decide_eq_true (by omega);rw[wL];simp only[xg hx',cond_true,Option.bind_some,h7,zU hx',zjl];obtain⟨v,h1,_⟩:=AG x.Body;rw[h1];simp only[Option.bind_some,zFk h1]
  have hb:((bif (!(pd (SmR x.zb)))then some true else(bif (!(pd (SmE x.Body)))then some true else some (decide (((List.length x.Corners:Nat):Int)>12)))):Option Bool)=some (!(pd (SmD x))):=by
   rw[J2 (m:=12) 12 rfl];unfold SmD;rw[xv,xv,← kM (p:=x.Corners.length≤12)];cases pd (SmR x.zb)<;>cases pd (SmE x.Body)<;>rfl
  rw[hb,Option.bind_some,zJ (by omega)];cases pd (SmD x)<;>rfl
 ·rw[wL,List.length_take]
  by_cases g:7≤l.length
  ·rw[Nat.min_eq_left g]
   show Option.bind (bif decide (((7:Nat):Int)<((List.length l:Nat):Int))then some false else some false) _=_
   cases decide (((7:Nat):Int)<((List.length l:Nat):Int))<;>rfl
  ·rw[Nat.min_eq_right (by omega),zZ]
   rfl
theorem zFl{p q:zu}(hp:zez p)(hq:zez q)(h:Jw p q):AA p q=some ((chg p q).map enc,0):=by
 unfold AA;rw[jO hp.big,vj hp.right,jO hq.big,vj hq.right];simp only[Option.bind_some,Bool.not_true,cond_false];rw[zz8 hq.big.own];simp only[Option.bind_some]
 rw[show(⟨q.Defs,q.Tables,q.Zones,q.Rules,q.Caps,q.Views,q.Sun,q.Hours⟩:zu)=q from rfl,zrc hp.big hq.big,Option.bind_some,zan (by rw[List.length_map];have:=zg7 (p:=p) hq.big;omega) hp (fun e he=>by
  obtain⟨d,hd,rfl⟩:=List.mem_map.1 he
  exact Hj (zv3 hq d hd)),zq7 (zv2 hq.right h) (zq9 hp.right hq.right h),Option.bind_some]
 show(Option.bind (bif (!(decide ((0:Int)=0)))then some true else(kU q q).bind fun x8=>some (!x8)) _)=_
 rw[oZ hq.big.fit,vj rfl];rfl
theorem zAh(k:Nat)(h):(@uu ⟨k+500,h⟩)=some true:=by kernel_rfl
theorem zur[i:Fuel]:uu=some true:=by
 obtain⟨n,h⟩:=i
 obtain⟨k,rfl⟩:∃k,n=k+500:=⟨n-500,by omega⟩
 exact zAh k h
theorem zAi{p q:zu}{d:List Ed}{c0:Bool}(hp:zez p)(hd:∀e∈d,e.ok)(hs:∀e∈d,SzE e)(hl:d.length≤1000000)(hn:(d.map Ed.thing).Nodup)(hst:∀e∈d,state q e.thing≠state p e.thing):
  zS c0 (d.map enc) p.Defs p.Tables p.Zones p.Rules p.Caps p.Views p.Sun p.Hours q.Defs q.Tables q.Zones q.Rules q.Caps q.Views q.Sun q.Hours KK 0=some (.inr ()):=by
 have key:=Qt (d.map enc) (fun _=>true) (some (Sum.inr ())) (some (Sum.inl false)) (zS c0 (d.map enc) p.Defs p.Tables p.Zones p.Rules p.Caps p.Views p.Sun p.Hours q.Defs q.Tables q.Zones q.Rules q.Caps q.Views q.Sun q.Hours) (by rw[List.length_map];omega) (fun K i x hx=>?_) (fun K=>by rw[zS,zZ];rfl)
 ·rw[key]
  have:(d.map enc).all (fun _=>true)=true:=by simp
  rw[this];rfl
 ·have hi:=yG hx
  have hi':=hi;rw[List.length_map]at hi;rw[zS];simp only[xg hx,cond_true];have c1:=zvt (l:=d.map enc) (a:=0) (b:=i) (Nat.zero_le _) (by omega);rw[show((0:Nat):Int)=0 from rfl]at c1;rw[c1,Option.bind_some,zV (by simp;omega),Option.bind_some,zJ (by omega),zt1 (by omega),Option.bind_some,zV (by simp;omega),Option.bind_some]
  have hrest:([]:List zn)++List.drop 0 (List.take i (d.map enc))++List.drop (i+1) (d.map enc)=(d.take i++d.drop (i+1)).map enc:=by
   rw[List.drop_zero,List.nil_append,List.map_append,List.map_take,List.map_drop]
  have hmem:∀e∈d.take i++d.drop (i+1),e∈d:=fun e he=>(List.mem_append.1 he).elim List.mem_of_mem_take List.mem_of_mem_drop
  have hsz:∀e∈(d.take i++d.drop (i+1)).map enc,SzD e:=fun e he=>by
   obtain⟨x,hx,rfl⟩:=List.mem_map.1 he;exact Hj (hs x (hmem x hx))
  rw[hrest]
  show((wm p ((d.take i++d.drop (i+1)).map enc)).bind _)=_
  rw[zan (by simp;omega) hp hsz,Option.bind_some];by_cases g:(J6 p ((d.take i++d.drop (i+1)).map enc)).1=0
  ·have hk:=Qw hp hsz g
   obtain⟨ds,e1,e2,e3⟩:=zg3 g
   have hds:d.take i++d.drop (i+1)=ds:=by
    have:∀{a b:List Ed},a.map enc=b.map enc→a=b:=fun{a}=>by
     induction a with
     |nil=>intro b h;cases b with
      |nil=>rfl
      |cons _ _=>cases h
     |cons x a ih=>intro b h;cases b with
      |nil=>cases h
      |cons y b =>
       rw[List.map_cons,List.map_cons,List.cons.injEq]at h;rw[zq3 h.1,ih h.2]
    exact this e1
   rw[← hds]at e3;have hne:=zug hn hst hi e3
   show Option.bind (bif decide ((J6 p ((d.take i++d.drop (i+1)).map enc)).1=0)then(kU (J6 p ((d.take i++d.drop (i+1)).map enc)).2 q).bind fun x7=>some x7 else some false) _=_
   rw[decide_eq_true g,cond_true,oZ hk.big.fit,vI hne];rfl
  ·show Option.bind (bif decide ((J6 p ((d.take i++d.drop (i+1)).map enc)).1=0)then _ else some false) _=_
   rw[decide_eq_false g];rfl
theorem zre:kU zp zp=some true:=by
 have h:FitP zp:=(zqy [] [] [] (by simp) (by simp) (by simp)).fit;rw[oZ h,vj rfl]
theorem zrf(p:zu)(l:List zn):vd p l=some true:=by
 unfold vd;rw[zur,Option.bind_some,zuq,Option.bind_some];obtain⟨b,hb,hf⟩:=zAg (l:=l);by_cases hP:SmP p
 ·rw[vj hP,Bool.not_true,cond_false,hb,Option.bind_some,Option.bind_some]
  cases b with
  |false=>rfl
  |true =>
   obtain⟨h6,hD⟩:=hf rfl;rw[Bool.not_true,cond_false];by_cases hR:wO p
   ·have hp:=hP.keep hR
    have hsz:∀e∈l,SzD e:=fun e he=>(hD e he).sz
    rw[zan (by omega) hp hsz,Option.bind_some];by_cases g:(J6 p l).1=0
    ·have hq:=Qw hp hsz g
     obtain⟨ds,e1,e2,e3⟩:=zg3 g;generalize (J6 p l).2=q at hq e3 ⊢;have hev:=YY hp.right e2 (zg5 p) e3;have hok:=zv2 hq.right hev;have hst:=zra hq.right hev;have hnd:=zrb (p:=p) hq.right;have hlen:=zqw e3 hnd hst;have hcs:=zv3 (p:=p) hq;rw[g]
     show(AA p q).bind _=_
     rw[zFl hp hq hev,Option.bind_some];dsimp only
     rw[zan (by rw[List.length_map];have:=zg7 (p:=p) hq.big;omega) hp (fun e he=>by
      obtain⟨d,hd,rfl⟩:=List.mem_map.1 he
      exact Hj (hcs d hd)),zq7 hok (zq9 hp.right hq.right hev),Option.bind_some]
     have hgt:decide (((List.length ((chg p q).map enc):Nat):Int)>((List.length l:Nat):Int))=false:=by
      rw[e1,List.length_map,List.length_map];exact decide_eq_false (by omega)
     rw[hgt]
     show Option.bind ((kU q q).bind fun x10=>(bif (!x10)then some true else(qg q).bind fun x11=>some (!x11))) _=_
     rw[oZ hq.big.fit,vj rfl,jO hq.big,vj hq.right]
     show Option.bind (zS true ((chg p q).map enc) p.Defs p.Tables p.Zones p.Rules p.Caps p.Views p.Sun p.Hours q.Defs q.Tables q.Zones q.Rules q.Caps q.Views q.Sun q.Hours KK 0) _=_
     rw[zAi hp hok hcs (zg7 hq.big) hnd hst];rfl
    ·rw[zq6 g]
     show(bif (!(decide ((J6 p l).1=0)))then(kU zp zp).bind fun x6=>some x6 else _)=_
     rw[decide_eq_false g,zre];rfl
   ·rw[zuj hP.big hR,Option.bind_some]
    show((kU zp zp).bind fun x6=>some x6)=_
    rw[zre];rfl
 ·rw[vI hP];rfl
end Go.Proofs.YthnokpghgeppdaaGreatDoor
