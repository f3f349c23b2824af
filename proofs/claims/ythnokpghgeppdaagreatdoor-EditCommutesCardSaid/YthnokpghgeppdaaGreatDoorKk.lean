/- texts that the proof reaches, part 11 -/
import Derived.Test.YthnokpghgeppdaaGreatDoorKj
set_option linter.all false
set_option maxRecDepth 100000
namespace Go.Proofs.YthnokpghgeppdaaGreatDoor
open Go Go.RowKit Go.Eng Go.EV Go.EQ
variable[Fuel]
theorem zN{p:Prop}{i:Decidable p}(h:p):@grd p i=some ():=if_pos h
theorem JR{n:Int}(h0:-9223372036854775808≤n)(h1:n≤9223372036854775807):EV.w64 n=n:=zlv h0 h1
theorem zuw{α:Type}[Inhabited α]{l:List α}{i:Nat}(h:i<l.length):idx l (i:Int)=some (l.getD i default):=by
 unfold idx;rw[if_pos ⟨by omega,by omega⟩];rfl
theorem z6{α:Type}[Inhabited α]{l:List α}{i:Nat}{x:α}(h:l[i]?=some x):idx l (i:Int)=some x:=by
 obtain⟨h1,h2⟩:=List.getElem?_eq_some_iff.1 h;rw[zuw h1,List.getD_eq_getElem?_getD,h];rfl
theorem zW{n:Nat}(h:n<9223372036854775807):w64 ((n:Int)+1)=((n+1:Nat):Int):=by rw[JR (by omega) (by omega)];rfl
theorem uU{n:Nat}(h:n<18446744073709551616):n<KK:=Nat.lt_of_lt_of_le h Fuel.big
theorem xG{α:Type}{l:List α}{i:Nat}{x:α}{r:List α}(h:l.drop i=x::r):l[i]?=some x∧l.drop (i+1)=r∧i<l.length:=by
 have h0:l[i]?=some x:=by
  have:=List.getElem?_drop (xs:=l) (i:=i) (j:=0);rw[h]at this;simpa using this.symm
 refine⟨h0,?_,(List.getElem?_eq_some_iff.1 h0).1⟩;rw[← List.drop_drop,h];rfl
theorem drop_nil{α:Type}{l:List α}{i:Nat}(h:l.drop i=[])(hi:i≤l.length):i=l.length:=by
 have:=congrArg List.length h;simp at this;omega
-- bytes
def Ks(c:UInt8):Bool:=decide (97≤c.toNat)&&decide (c.toNat≤122)
def zpu(c:UInt8):Bool:=decide (48≤c.toNat)&&decide (c.toNat≤57)
def qL(c:UInt8):Bool:=Ks c||zpu c
theorem wV(a b:Bool):(bif a then some b else some false)=some (a&&b):=by cases a<;>rfl
theorem VT(a b:Bool):(bif a then some true else some b)=some (a||b):=by cases a<;>rfl
theorem xV{p q:Prop}{i:Decidable p}{j:Decidable q}(h:p↔q):@decide p i=@decide q j:=by
 by_cases hq:q
 ·rw[decide_eq_true hq,decide_eq_true (h.2 hq)]
 ·rw[decide_eq_false hq,decide_eq_false (fun hp=>hq (h.1 hp))]
theorem zux(n m:Nat){a:Int}(h:a=(m:Int)):decide ((n:Int)≥a)=decide (m≤n):=xV (by omega)
theorem zdq(n m:Nat){a:Int}(h:a=(m:Int)):decide ((n:Int)≤a)=decide (n≤m):=xV (by omega)
theorem ZU(c:UInt8):w8 ((c.toNat:Nat):Int)=some (Ks c):=by
 unfold w8;rw[wV,Ks,zux _ 97 (a:=97) rfl,zdq _ 122 (a:=122) rfl]
theorem zye(c:UInt8):kj ((c.toNat:Nat):Int)=some (zpu c):=by
 unfold kj;rw[wV,zpu,zux _ 48 (a:=48) rfl,zdq _ 57 (a:=57) rfl]
theorem zyf(c:UInt8):qw ((c.toNat:Nat):Int)=some (qL c):=by
 unfold qw;rw[ZU,Option.bind_some,zye,Option.bind_some,VT,qL]
-- runs of bytes
theorem zta(l:List UInt8)(f:UInt8→Bool)(G:UInt8→Option Bool)(F:Nat→Int→Option Int)(hG:∀b,G b=some (f b))
  (hF:∀K q,F (K+1) q=((bif (decide (q<((List.length l:Nat):Int)))then(idx l q).bind G else some false)).bind fun x1=>(bif x1 then F K (w64 (q+1))else some q)) (hl:l.length<4611686018427387904):
  ∀(r:List UInt8)(i K:Nat),l.drop i=r→i≤l.length→r.length<K→F K (i:Int)=some ((i+(r.takeWhile f).length:Nat):Int):=by
 intro r
 induction r with
 |nil =>
  intro i K hr hi hK
  obtain⟨K,rfl⟩:∃k,K=k+1:=⟨K-1,by omega⟩
  have:=drop_nil hr hi;rw[hF,decide_eq_false (by omega)];simp
 |cons c r ih =>
  intro i K hr hi hK
  obtain⟨K,rfl⟩:∃k,K=k+1:=⟨K-1,by omega⟩
  obtain⟨h1,h2,h3⟩:=xG hr;simp only[List.length_cons]at hK;rw[hF,decide_eq_true (by omega),cond_true,z6 h1,Option.bind_some,hG,Option.bind_some]
  cases hc:f c with
  |false=>simp[List.takeWhile,hc]
  |true =>
   rw[cond_true,zW (by omega),ih (i+1) K h2 (by omega) (by omega)];simp only[List.takeWhile,hc,List.length_cons]
   congr 2;omega
def zk9(f:UInt8→Bool)(l:List UInt8):Nat:=(l.takeWhile f).length
theorem zpv{α:Type}(o:Option α):(o.bind fun x=>some x)=o:=by cases o<;>rfl
theorem zyg{s:List UInt8}(h:s.length<4611686018427387904):Ac s=some ((zk9 qL s:Nat):Int):=by
 unfold Ac;rw[zpv,show((0:Int))=((0:Nat):Int) from rfl,zta s qL (fun x2=>(qw ((x2.toNat:Nat):Int)).bind fun x3=>some x3) (jz s) (fun b=>by rw[zyf];rfl) (fun K q=>rfl) h s 0 KK rfl (by omega) (uU (by omega))];simp[zk9]
theorem ztb{f:UInt8→Bool}{l:List UInt8}:zk9 f l=l.length↔l.all f=true:=by
 induction l with
 |nil=>simp[zk9]
 |cons c l ih =>
  simp only[zk9,List.takeWhile,List.all_cons]at ih ⊢
  cases f c with
  |false=>simp
  |true=>simp only[List.length_cons,Bool.true_and,← ih];omega
-- words
def WA(s:List UInt8):Bool:=match s with
 |[]=>false
 |c::r=>Ks c&&(decide (s.length≤20)&&r.all qL)
theorem zyh{s:List UInt8}(h:s.length<4611686018427387904):ua s=some (WA s):=by
 unfold ua
 cases s with
 |nil=>rfl
 |cons c r =>
  rw[decide_eq_false (by simp),cond_false,show((0:Int))=((0:Nat):Int) from rfl,z6 (x:=c) rfl,Option.bind_some,ZU,Option.bind_some,VT,Option.bind_some,zyg h,Option.bind_some]
  have e:decide ((zk9 qL (c::r):Int)=(((c::r).length:Nat):Int))=(qL c&&r.all qL):=by
   rw[← List.all_cons,Bool.eq_iff_iff,decide_eq_true_iff,← ztb];omega
  rw[e,WA]
  cases hc:Ks c with
  |false=>simp
  |true =>
   have:qL c=true:=by rw[qL,hc];rfl
   rw[this];by_cases h20:(c::r).length≤20
   ·rw[decide_eq_true h20,decide_eq_false (by omega)];simp
   ·rw[decide_eq_false h20,decide_eq_true (by omega)];simp
theorem zDi{s:List UInt8}(h:0≤s.length):ua s=some (WA s):=by
 by_cases hs:s.length<4611686018427387904
 ·exact zyh hs
 ·unfold ua
  cases s with
  |nil=>rfl
  |cons c r =>
   rw[decide_eq_false (by simp),cond_false,show((0:Int))=((0:Nat):Int) from rfl,z6 (x:=c) rfl,Option.bind_some,ZU,Option.bind_some,VT,Option.bind_some];rw[decide_eq_true (by omega:(((c::r).length:Nat):Int)>20),Bool.or_true,cond_true,WA,decide_eq_false (by omega:¬(c::r).length≤20)];cases Ks c<;>rfl
noncomputable def pd(p:Prop):Bool:=@decide p (Classical.propDecidable p)
theorem xH{p:Prop}:pd p=true↔p:=by unfold pd;exact @decide_eq_true_iff p (Classical.propDecidable p)
theorem kG{p:Prop}[Decidable p]:decide p=pd p:=xV Iff.rfl
theorem jc{b:Bool}{p:Prop}(h:b=true↔p):b=pd p:=by
 cases b with
 |true=>exact(xH.2 (h.1 rfl)).symm
 |false =>
  cases hp:pd p with
  |false=>rfl
  |true=>exact absurd (h.2 (xH.1 hp)) (by decide)
theorem xj{p q:Prop}(h:p↔q):pd p=pd q:=jc (xH.trans h)
theorem zdr{α β:Type}[Inhabited α][Inhabited β](a:List α)(b:List β)(G:α→β→Option Bool)(g:α→β→Bool)(L:Nat→Int→Option (Bool⊕Unit))
  (hL:∀K q,L (K+1) q=(bif (decide (q<((List.length a:Nat):Int)))then(idx a q).bind fun x=>(idx b q).bind fun y=>(G x y).bind fun r=>(bif (!r)then some (Sum.inl false)else L K (w64 (q+1)))else some (Sum.inr ())))
  (hs:a.length<4611686018427387904) (hl:b.length=a.length):
  ∀(r:List α)(t:List β)(i K:Nat),a.drop i=r→b.drop i=t→i≤a.length→r.length<K→(∀x∈r,∀y∈t,G x y=some (g x y))→L K (i:Int)=some (bif (r.zip t).all (fun p=>g p.1 p.2)then Sum.inr ()else Sum.inl false)
 |[],t,i,K,hr,ht,hi,hK,_=>by
  obtain⟨K,rfl⟩:∃k,K=k+1:=⟨K-1,by simp at hK;omega⟩
  have:=drop_nil hr hi;rw[hL,decide_eq_false (by omega)];simp
 |x::r,[],i,K,hr,ht,hi,hK,_=>by
  have h1:=drop_nil ht (by omega);obtain⟨_,_,h3⟩:=xG hr;omega
 |x::r,y::t,i,K,hr,ht,hi,hK,hG=>by
  obtain⟨K,rfl⟩:∃k,K=k+1:=⟨K-1,by simp at hK;omega⟩
  obtain⟨h1,h2,h3⟩:=xG hr;obtain⟨k1,k2,k3⟩:=xG ht;simp only[List.length_cons]at hK;rw[hL,decide_eq_true (by omega),cond_true,z6 h1,Option.bind_some,z6 k1,Option.bind_some,hG x (List.mem_cons_self ..) y (List.mem_cons_self ..),Option.bind_some];simp only[List.zip_cons_cons,List.all_cons]
  cases hg:g x y with
  |false=>rfl
  |true =>
   simp only[Bool.not_true,cond_false,Bool.true_and];rw[zW (by omega)]
   exact zdr a b G g L hL hs hl r t (i+1) K h2 k2 (by omega) (by omega) fun x hx y hy=>hG x (List.mem_cons_of_mem _ hx) y (List.mem_cons_of_mem _ hy)
theorem zpw{α:Type}{g:α→α→Bool}:∀{a b:List α},a.length=b.length→(∀x∈a,∀y∈b,(g x y=true↔x=y))→((a.zip b).all (fun p=>g p.1 p.2)=true↔a=b)
 |[],[],_,_=>by simp
 |[],_::_,h,_=>by simp at h
 |_::_,[],h,_=>by simp at h
 |x::a,y::b,h,hg=>by
  simp only[List.length_cons,Nat.add_right_cancel_iff]at h;simp only[List.zip_cons_cons,List.all_cons,Bool.and_eq_true,List.cons.injEq];rw[hg x (List.mem_cons_self ..) y (List.mem_cons_self ..),zpw h fun x hx y hy=>hg x (List.mem_cons_of_mem _ hx) y (List.mem_cons_of_mem _ hy)]
theorem xw{α:Type}[Inhabited α](a b:List α)(G:α→α→Option Bool)(L:Nat→Int→Option (Bool⊕Unit))
  (hL:∀K q,L (K+1) q=(bif (decide (q<((List.length a:Nat):Int)))then(idx a q).bind fun x=>(idx b q).bind fun y=>(G x y).bind fun r=>(bif (!r)then some (Sum.inl false)else L K (w64 (q+1)))else some (Sum.inr ())))
  (hs:a.length<4611686018427387904) (hG:∀x∈a,∀y∈b,G x y=some (pd (x=y))):
  (bif (!(decide (((List.length a:Nat):Int)=((List.length b:Nat):Int))))then some false else(L KK 0).bind (z8 some fun _=>some true))=some (pd (a=b)):=by
 by_cases hl:a.length=b.length
 ·rw[decide_eq_true (by omega)]
  simp only[Bool.not_true,cond_false];have:=zdr a b G (fun x y=>pd (x=y)) L hL hs hl.symm a b 0 KK rfl rfl (Nat.zero_le _) (uU (by omega)) hG;rw[show((0:Int))=((0:Nat):Int) from rfl,this]
  have hz:=zpw (g:=fun x y=>pd (x=y)) hl fun x _ y _=>xH
  have e:=jc hz;rw[← e];cases (a.zip b).all (fun p=>pd (p.1=p.2))<;>rfl
 ·rw[decide_eq_false (by omega)]
  simp only[Bool.not_false,cond_true];exact congrArg some (jc ⟨fun h=>(by cases h),fun h=>absurd (congrArg List.length h) hl⟩)
-- levels
mutual
def K2:Expr→Nat
 |⟨_,_,_,_,az⟩=>zpx az+1
def zpx:List Expr→Nat
 |[]=>0
 |e::r=>K2 e+zpx r
end
theorem zgd:∀e:Expr,0<K2 e
 |⟨_,_,_,_,az⟩=>by rw[K2];omega
theorem Qr:∀l:List Expr,l.length≤zpx l
 |[]=>Nat.le_refl _
 |e::r=>by rw[zpx,List.length_cons];have:=Qr r;have:=zgd e;omega
theorem Qs:∀{l:List Expr}{e:Expr},e∈l→K2 e≤zpx l
 |x::r,e,h=>by
  rw[zpx]
  rcases List.mem_cons.1 h with rfl|h
  ·omega
  ·have:=Qs h;omega
theorem zpy:∀(n:Nat)(a b:Expr)(K:Nat),K2 a≤n→2*n≤K→n≤1000000000→xC K a b=some (pd (a=b)):=by
 intro n
 induction n with
 |zero=>intro a b K h;have:=zgd a;omega
 |succ n ih =>
  intro a b K h hK hn
  obtain⟨K,rfl⟩:∃k,K=k+2:=⟨K-2,by omega⟩
  obtain⟨o1,n1,s1,k1,z1⟩:=a;obtain⟨o2,n2,s2,k2,z2⟩:=b;rw[K2]at h;have hz:=Qr z1
  have hl:xg (K+1) z1 z2=some (pd (z1=z2)):=by
   rw[xg]
   refine xw z1 z2 (fun x y=>xC K (Expr.mk x.Op x.N x.S x.Key x.Args) (Expr.mk y.Op y.N y.S y.Key y.Args)) _ (fun K q=>rfl) (by omega) fun x hx y hy=>?_
   have h1:=Qs hx;have:=ih x y K (by omega) (by omega) (by omega);cases x;cases y;exact this
  rw[xC];simp only[hl,Option.bind_some];simp only[kG]
  have e:pd ((⟨o1,n1,s1,k1,z1⟩:Expr)=⟨o2,n2,s2,k2,z2⟩)=(pd (o1=o2)&&(pd (n1=n2)&&(pd (s1=s2)&&(pd (k1=k2)&&pd (z1=z2))))):=by
   refine(jc ?_).symm;simp only[Bool.and_eq_true,xH,Expr.mk.injEq]
  rw[e];cases pd (o1=o2)<;>cases pd (n1=n2)<;>cases pd (s1=s2)<;>cases pd (k1=k2)<;>rfl
def qM(e:Expr):Prop:=K2 e≤1000000000
theorem YH{a b:Expr}(h:qM a):xC KK a b=some (pd (a=b)):=zpy 1000000000 a b KK h (Nat.le_of_lt (uU (by omega))) (by omega)
theorem zx(e:Expr):Expr.mk e.Op e.N e.S e.Key e.Args=e:=by cases e;rfl
theorem xk{p q:Prop}:pd (p∧q)=(pd p&&pd q):=(jc (by simp only[Bool.and_eq_true,xH])).symm
theorem zpz{a b:List Def}(hs:a.length<4611686018427387904)(hE:∀d∈a,qM d.Body):yh a b=some (pd (a=b)):=by
 unfold yh
 refine xw a b (fun x y=>Qk (Def.mk x.Name (Expr.mk x.Body.Op x.Body.N x.Body.S x.Body.Key x.Body.Args)) (Def.mk y.Name (Expr.mk y.Body.Op y.Body.N y.Body.S y.Body.Key y.Body.Args))) _ (fun K q=>rfl) hs fun x hx y hy=>?_
 have h:=hE x hx;simp only[zx];obtain⟨n1,e1⟩:=x;obtain⟨n2,e2⟩:=y;unfold Qk;simp only[zx,YH h,Option.bind_some,kG,Def.mk.injEq,xk];cases pd (n1=n2)<;>rfl
theorem YI{a b:List (List UInt8)}(hs:a.length<4611686018427387904):xU a b=some (pd (a=b)):=by
 unfold xU
 refine xw a b (fun x y=>some (decide (x=y))) _ (fun K q=>rfl) hs fun x _ y _=>?_
 rw[kG]
theorem zds{a b:List Entry}(hs:a.length<4611686018427387904):xX a b=some (pd (a=b)):=by
 unfold xX
 refine xw a b (fun x y=>some (decide (x.Name=y.Name)&&(decide (x.N=y.N)))) _ (fun K q=>rfl) hs fun x _ y _=>?_
 obtain⟨n1,m1⟩:=x;obtain⟨n2,m2⟩:=y;simp only[kG,Entry.mk.injEq,xk]
theorem Hs{a b:List zu}(hs:a.length<4611686018427387904):zZ a b=some (pd (a=b)):=by
 unfold zZ
 refine xw a b (fun x y=>some (decide (x.X=y.X)&&(decide (x.Y=y.Y)))) _ (fun K q=>rfl) hs fun x _ y _=>?_
 obtain⟨n1,m1⟩:=x;obtain⟨n2,m2⟩:=y;simp only[kG,zu.mk.injEq,xk]
theorem KU{a b:List zj}(hs:a.length<4611686018427387904):y0 a b=some (pd (a=b)):=by
 unfold y0
 refine xw a b (fun x y=>some (decide (x.X=y.X)&&(decide (x.Y=y.Y)&&(decide (x.Z_=y.Z_))))) _ (fun K q=>rfl) hs fun x _ y _=>?_
 obtain⟨n1,m1,k1⟩:=x;obtain⟨n2,m2,k2⟩:=y;simp only[kG,zj.mk.injEq,xk]
theorem zge{a b:List Table}(hs:a.length<4611686018427387904)(hE:∀d∈a,d.Rows.length<4611686018427387904):yi a b=some (pd (a=b)):=by
 unfold yi
 refine xw a b Ql _ (fun K q=>rfl) hs fun x hx y hy=>?_
 have h:=hE x hx;obtain⟨n1,r1,e1⟩:=x;obtain⟨n2,r2,e2⟩:=y;unfold Ql;simp only[zds h,Option.bind_some,kG,Table.mk.injEq,xk];cases pd (n1=n2)<;>cases pd (e1=e2)<;>cases pd (r1=r2)<;>rfl
theorem zuy{a b:Bool}:(a==b)=pd (a=b):=jc beq_iff_eq
theorem zla{a b:List zr}(hs:a.length<4611686018427387904)(hE:∀d∈a,d.Corners.length<4611686018427387904):yk a b=some (pd (a=b)):=by
 unfold yk
 refine xw a b Qm _ (fun K q=>rfl) hs fun x hx y hy=>?_
 have h:=hE x hx;obtain⟨n1,r1,e1⟩:=x;obtain⟨n2,r2,e2⟩:=y;unfold Qm;simp only[Hs h,Option.bind_some,kG,zuy,zr.mk.injEq,xk];cases pd (n1=n2)<;>cases pd (r1=r2)<;>rfl
theorem zp0{a b:List Cap}(hs:a.length<4611686018427387904)(hE:∀d∈a,d.Corners.length<4611686018427387904):yl a b=some (pd (a=b)):=by
 unfold yl
 refine xw a b Qn _ (fun K q=>rfl) hs fun x hx y hy=>?_
 have h:=hE x hx;obtain⟨n1,r1,l1,e1⟩:=x;obtain⟨n2,r2,l2,e2⟩:=y;unfold Qn;simp only[Hs h,Option.bind_some,kG,Cap.mk.injEq,xk];cases pd (n1=n2)<;>cases pd (r1=r2)<;>cases pd (l1=l2)<;>rfl
theorem zlb{a b:List View}(hs:a.length<4611686018427387904)(hE:∀d∈a,d.Targets.length<4611686018427387904):ym a b=some (pd (a=b)):=by
 unfold ym
 refine xw a b Qo _ (fun K q=>rfl) hs fun x hx y hy=>?_
 have h:=hE x hx;obtain⟨n1,⟨x1,y1,z1⟩,l1,e1⟩:=x;obtain⟨n2,⟨x2,y2,z2⟩,l2,e2⟩:=y;unfold Qo;simp only[KU h,Option.bind_some,kG,View.mk.injEq,zj.mk.injEq,xk];cases pd (n1=n2)<;>cases pd (x1=x2)<;>cases pd (y1=y2)<;>cases pd (z1=z2)<;>cases pd (l1=l2)<;>rfl
theorem zdt{a b:zb}(h1:a.Zones.length<4611686018427387904)(h2:a.Except.length<4611686018427387904)(h3:qM a.Test):ve a b=some (pd (a=b)):=by
 obtain⟨a1,a2,a3,a4,a5,a6,a7,a8,a9,⟨p1,p2,p3,p4⟩,a10,a11,a12⟩:=a;obtain⟨b1,b2,b3,b4,b5,b6,b7,b8,b9,⟨q1,q2,q3,q4⟩,b10,b11,b12⟩:=b;unfold ve;simp only[YI h1,YI h2,zx,YH h3,Option.bind_some,kG,zuy,zb.mk.injEq,zg.mk.injEq,xk]
 cases pd (a2=b2)<;>cases pd (a3=b3)<;>cases pd (a9=b9)<;>simp only[Bool.not_true,Bool.not_false,cond_true,cond_false,Option.bind_some,Bool.false_and,Bool.and_false,Bool.true_and] <;>
 cases pd (a1=b1)<;>cases pd (a4=b4)<;>cases pd (a5=b5)<;>cases pd (a6=b6)<;>simp only[Option.bind_some,cond_true,cond_false,Bool.false_and,Bool.and_false,Bool.true_and] <;>
 cases pd (a7=b7)<;>cases pd (a8=b8)<;>simp only[Option.bind_some,cond_true,cond_false,Bool.false_and,Bool.and_false,Bool.true_and] <;>
 cases (pd (p1=q1)&&(pd (p2=q2)&&(pd (p3=q3)&&pd (p4=q4))))<;>cases pd (a10=b10)<;>cases pd (a11=b11)<;>rfl
theorem zlc{a b:List zb}(hs:a.length<4611686018427387904)(hE:∀d∈a,d.Zones.length<4611686018427387904∧d.Except.length<4611686018427387904∧qM d.Test):yj a b=some (pd (a=b)):=by
 unfold yj
 refine xw a b (fun x1 x2=>ve (zb.mk x1.Name x1.Zones x1.Except x1.From x1.Until x1.Grace x1.Vary x1.Kind (Expr.mk x1.Test.Op x1.Test.N x1.Test.S x1.Test.Key x1.Test.Args) x1.zg x1.Uses x1.Other x1.N) (zb.mk x2.Name x2.Zones x2.Except x2.From x2.Until x2.Grace x2.Vary x2.Kind (Expr.mk x2.Test.Op x2.Test.N x2.Test.S x2.Test.Key x2.Test.Args) x2.zg x2.Uses x2.Other x2.N)) _ (fun K q=>rfl) hs fun x hx y hy=>?_
 obtain⟨h1,h2,h3⟩:=hE x hx;simp only[zx];exact zdt h1 h2 h3
def FitP(p:zK):Prop :=
 (p.Defs.length<4611686018427387904∧∀d∈p.Defs,qM d.Body)∧(p.Tables.length<4611686018427387904∧∀d∈p.Tables,d.Rows.length<4611686018427387904)∧(p.Zones.length<4611686018427387904∧∀d∈p.Zones,d.Corners.length<4611686018427387904) ∧
 (p.Rules.length<4611686018427387904∧∀d∈p.Rules,d.Zones.length<4611686018427387904∧d.Except.length<4611686018427387904∧qM d.Test)∧(p.Caps.length<4611686018427387904∧∀d∈p.Caps,d.Corners.length<4611686018427387904)∧(p.Views.length<4611686018427387904∧∀d∈p.Views,d.Targets.length<4611686018427387904)∧p.Sun.length<4611686018427387904
theorem zdu{a b:zK}(h:FitP a):Vf a b=some (pd (a=b)):=by
 obtain⟨⟨d1,d2⟩,⟨t1,t2⟩,⟨z1,z2⟩,⟨r1,r2⟩,⟨c1,c2⟩,⟨v1,v2⟩,s1⟩:=h;obtain⟨aD,aT,aZ,aR,aC,aV,aS,aH⟩:=a;obtain⟨bD,bT,bZ,bR,bC,bV,bS,bH⟩:=b;unfold Vf;simp only[zpz d1 d2,zge t1 t2,zla z1 z2,zlc r1 r2,zp0 c1 c2,zlb v1 v2,KU s1,Option.bind_some,kG,zK.mk.injEq,xk];cases pd (aD=bD)<;>cases pd (aT=bT)<;>cases pd (aZ=bZ)<;>cases pd (aR=bR)<;>cases pd (aC=bC)<;>cases pd (aV=bV)<;>cases pd (aS=bS)<;>rfl
theorem ZV{α τ:Type}(l:List α)(g:α→Bool)(ok bad:τ)(L:Nat→Int→τ)
  (hL:∀K (i:Nat) x,l[i]?=some x→L (K+1) (i:Int)=bif g x then L K ((i+1:Nat):Int)else bad) (hE:∀K,L (K+1) (l.length:Int)=ok):
  ∀(r:List α)(i K:Nat),l.drop i=r→i≤l.length→r.length<K→L K (i:Int)=bif r.all g then ok else bad
 |[],i,K,hr,hi,hK=>by
  obtain⟨K,rfl⟩:∃k,K=k+1:=⟨K-1,by simp at hK;omega⟩
  have:=drop_nil hr hi;subst this;rw[hE];rfl
 |x::r,i,K,hr,hi,hK=>by
  obtain⟨K,rfl⟩:∃k,K=k+1:=⟨K-1,by simp at hK;omega⟩
  obtain⟨h1,h2,h3⟩:=xG hr;simp only[List.length_cons]at hK;rw[hL K i x h1,List.all_cons]
  cases g x with
  |false=>rfl
  |true=>exact ZV l g ok bad L hL hE r (i+1) K h2 (by omega) (by omega)
theorem ZW{α τ:Type}(l:List α)(g:α→Bool)(ok bad:τ)(L:Nat→Int→τ)(hs:l.length≤9223372036854775807)
  (hL:∀K (i:Nat) x,l[i]?=some x→L (K+1) (i:Int)=bif g x then L K ((i+1:Nat):Int)else bad) (hE:∀K,L (K+1) (l.length:Int)=ok):
  L KK 0=bif l.all g then ok else bad:=ZV l g ok bad L hL hE l 0 KK rfl (Nat.zero_le _) (uU (by omega))
theorem zdv{α σ τ:Type}(l:List α)(f:σ→α→σ)(fin:σ→τ)(I:Nat→σ→Prop)(L:Nat→Int→σ→τ)
  (hL:∀K (i:Nat) x s,l[i]?=some x→I i s→L (K+1) (i:Int) s=L K ((i+1:Nat):Int) (f s x)∧I (i+1) (f s x)) (hE:∀K s,I l.length s→L (K+1) (l.length:Int) s=fin s):
  ∀(r:List α)(i K:Nat)(s:σ),l.drop i=r→i≤l.length→r.length<K→I i s→L K (i:Int) s=fin (r.foldl f s)∧I l.length (r.foldl f s)
 |[],i,K,s,hr,hi,hK,hI=>by
  obtain⟨K,rfl⟩:∃k,K=k+1:=⟨K-1,by simp at hK;omega⟩
  have:=drop_nil hr hi;subst this;exact⟨hE K s hI,hI⟩
 |x::r,i,K,s,hr,hi,hK,hI=>by
  obtain⟨K,rfl⟩:∃k,K=k+1:=⟨K-1,by simp at hK;omega⟩
  obtain⟨h1,h2,h3⟩:=xG hr;simp only[List.length_cons]at hK;obtain⟨e1,e2⟩:=hL K i x s h1 hI;rw[e1,List.foldl_cons];exact zdv l f fin I L hL hE r (i+1) K (f s x) h2 (by omega) (by omega) e2
theorem zdw{α σ τ:Type}(l:List α)(f:σ→α→σ)(fin:σ→τ)(I:Nat→σ→Prop)(L:Nat→Int→σ→τ)(s:σ)(hs:l.length<4611686018427387904)(h0:I 0 s)
  (hL:∀K (i:Nat) x s,l[i]?=some x→I i s→L (K+1) (i:Int) s=L K ((i+1:Nat):Int) (f s x)∧I (i+1) (f s x)) (hE:∀K s,I l.length s→L (K+1) (l.length:Int) s=fin s):
  L KK 0 s=fin (l.foldl f s)∧I l.length (l.foldl f s):=zdv l f fin I L hL hE l 0 KK s rfl (Nat.zero_le _) (uU (by omega)) h0
theorem vS{α:Type}{l:List α}{i:Nat}{x:α}(h:l[i]?=some x):decide ((i:Int)<(List.length l:Nat))=true:=decide_eq_true (by have:=(List.getElem?_eq_some_iff.1 h).1;omega)
theorem yB{α:Type}{l:List α}:decide (((List.length l:Nat):Int)<(List.length l:Nat))=false:=decide_eq_false (by omega)
theorem wY{α:Type}{l:List α}{i:Nat}{x:α}(h:l[i]?=some x):i<l.length:=(List.getElem?_eq_some_iff.1 h).1
theorem zyi{o:Option (Bool⊕Unit)}{g r:Bool}{f:Unit→Option Bool}(h:o=some (bif g then Sum.inr ()else Sum.inl false))(hr:g=true→f ()=some r):o.bind (z8 some f)=some (g&&r):=by
 subst h
 cases g with
 |false=>rfl
 |true=>rw[cond_true,Option.bind_some,z8,hr rfl,Bool.true_and]
theorem ztc{o:Option Bool}{f:Option Bool}{g r:Bool}(h:o=some g)(hr:g=true→f=some (!r)):(o.bind fun x=>bif (!x)then some true else f)=some (!(g&&r)):=by
 subst h
 cases g with
 |false=>rfl
 |true=>rw[Option.bind_some,Bool.not_true,cond_false,hr rfl,Bool.true_and]
theorem zyj{a:Nat}{m:Int}(n:Nat){f:Option Bool}{r:Bool}(hm:m=(n:Int))(hr:a≤n→f=some (!r)):(bif decide ((a:Int)>m)then some true else f)=some (!(decide (a≤n)&&r)):=by
 by_cases h:a≤n
 ·rw[decide_eq_false (by omega),decide_eq_true h,cond_false,hr h,Bool.true_and]
 ·rw[decide_eq_true (by omega),decide_eq_false h];rfl
theorem Kt{a:Nat}{m:Int}(n:Nat)(hm:m=(n:Int)):some (decide ((a:Int)>m))=some (!(decide (a≤n))):=by
 by_cases h:a≤n
 ·rw[decide_eq_false (by omega),decide_eq_true h];rfl
 ·rw[decide_eq_true (by omega),decide_eq_false h];rfl
theorem ZX{α:Type}(l:List α)(g:α→Bool)(L:Nat→Int→Option (Bool⊕Unit))(B:Int→Option Bool)(hs:l.length≤9223372036854775807)
  (hL:∀K q,L (K+1) q=(bif (decide (q<((List.length l:Nat):Int)))then(B q).bind fun r=>(bif r then some (Sum.inl false)else L K (w64 (q+1)))else some (Sum.inr ())))
  (hB:∀(i:Nat) x,l[i]?=some x→B (i:Int)=some (!(g x))):L KK 0=some (bif l.all g then Sum.inr ()else Sum.inl false):=by
 have:=ZW l g (some (Sum.inr ())) (some (Sum.inl false)) L hs (fun K i x h=>?_) (fun K=>by rw[hL,yB];rfl)
 ·rw[this];cases l.all g<;>rfl
 ·have hi:=wY h
  rw[hL,vS h,cond_true,hB i x h,Option.bind_some,zW (by omega)];cases g x<;>rfl
mutual
def uJ:Expr→Bool
 |⟨_,_,s,k,az⟩=>VU az&&(decide (0≤s.length)&&decide (0≤k.length))
def VU:List Expr→Bool
 |[]=>true
 |e::r=>uJ e&&VU r
end
theorem YJ:∀l:List Expr,VU l=l.all uJ
 |[]=>by rw[VU];rfl
 |e::r=>by rw[VU,YJ r,List.all_cons]
def zdx(e:Expr):Bool:=decide (K2 e≤5000)&&uJ e
def zDj(l:List (List UInt8)):Bool:=l.all (fun x=>decide (0≤x.length))&&decide (l.length≤3000)
def zed(r:zb):Bool:=decide (0≤r.Name.length)&&(zDj r.Zones&&(zDj r.Except&&zdx r.Test))
theorem zuz{τ:Type}(n lo:Nat)(g:Nat→Bool)(ok bad:τ)(L:Nat→Int→τ)(hL:∀K (i:Nat),lo≤i→i<n→L (K+1) (i:Int)=bif g i then L K ((i+1:Nat):Int)else bad)(hE:∀K (i:Nat),n≤i→L (K+1) (i:Int)=ok):
  ∀(m a K:Nat),lo≤a→n-a≤m→m<K→L K (a:Int)=bif pd (∀k,a≤k→k<n→g k=true)then ok else bad
 |0,a,K,hlo,h,hK=>by
  obtain⟨K,rfl⟩:∃k,K=k+1:=⟨K-1,by omega⟩
  rw[hE K a (by omega),xH.2 (fun k h1 h2=>by omega)];rfl
 |m+1,a,K,hlo,h,hK=>by
  obtain⟨K,rfl⟩:∃k,K=k+1:=⟨K-1,by omega⟩
  by_cases ha:n≤a
  ·rw[hE K a ha,xH.2 (fun k h1 h2=>by omega)];rfl
  ·rw[hL K a hlo (by omega)]
   cases hg:g a with
   |false =>
    have:pd (∀k,a≤k→k<n→g k=true)=false:=by
     cases hp:pd (∀k,a≤k→k<n→g k=true)with
     |false=>rfl
     |true=>rw[xH.1 hp a (Nat.le_refl _) (by omega)]at hg;cases hg
    rw[this];rfl
   |true =>
    rw[cond_true,zuz n lo g ok bad L hL hE m (a+1) K (by omega) (by omega) (by omega)]
    have:pd (∀k,a+1≤k→k<n→g k=true)=pd (∀k,a≤k→k<n→g k=true):=xj ⟨fun h k h1 h2=>by
     by_cases hk:k=a
     ·rw[hk];exact hg
     ·exact h k (by omega) h2,fun h k h1 h2=>h k (by omega) h2⟩
    rw[this]
def ptA(p:List zu)(i:Nat):zu:=p.getD (i % p.length) default
def ztd(a b c:zu):Bool :=
 (decide (0≤a.X)&&(decide (a.X≤1048576)&&(decide (0≤a.Y)&&decide (a.Y≤1048576)))) &&
 (!(decide (a.X=b.X)==decide (a.Y=b.Y))&&!(decide (a.X=b.X)==decide (b.X=c.X)))
def zte(p:List zu)(i:Nat):Bool:=ztd (ptA p i) (ptA p (i+1)) (ptA p (i+2))
theorem zgf{α β:Type}{o:Option α}{v:α}{f:α→Option β}{r:Option β}(h:o=some v)(h2:f v=r):o.bind f=r:=by rw[h,Option.bind_some,h2]
theorem zp1(a b c:zu):((Kf a).bind fun x5=>(bif (!x5)then some true else(bif ((decide (a.X=b.X))==(decide (a.Y=b.Y)))then some true else(zY ⟨a,b⟩).bind fun x6=>(zY ⟨b,c⟩).bind fun x7=>some (x6==x7))))=some (!(ztd a b c)):=by
 show((bif (decide (0≤a.X))then(bif (decide (a.X≤1048576))then(bif (decide (0≤a.Y))then some (decide (a.Y≤1048576))else some false)else some false)else some false).bind fun x5=>(bif (!x5)then some true else(bif ((decide (a.X=b.X))==(decide (a.Y=b.Y)))then some true else(some ((decide (a.X=b.X))==(decide (b.X=c.X)))))))=_
 unfold ztd;cases decide (0≤a.X)
 ·rfl
 cases decide (a.X≤1048576)
 ·rfl
 cases decide (0≤a.Y)
 ·rfl
 cases decide (a.Y≤1048576)
 ·rfl
 cases (decide (a.X=b.X)==decide (a.Y=b.Y))<;>cases (decide (a.X=b.X)==decide (b.X=c.X))<;>rfl
def ztf(a b:zu):Bool:=decide (a.X<b.X)||(decide (a.X=b.X)&&decide (a.Y<b.Y))
def zEy(p:List zu)(i:Nat):Bool:=!(decide (0<i))||ztf (ptA p 0) (ptA p i)
def zDk(a b c d:zu):Bool:=decide (max (min a.X b.X) (min c.X d.X)≤min (max a.X b.X) (max c.X d.X))&&decide (max (min a.Y b.Y) (min c.Y d.Y)≤min (max a.Y b.Y) (max c.Y d.Y))
def zzn(p:List zu)(i k:Nat):Bool:=decide ((k+1) % p.length=i)||!(zDk (ptA p i) (ptA p (i+1)) (ptA p k) (ptA p (k+1)))
def WB(p:List zu):Prop:=(4≤p.length∧p.length≤60)∧(∀i,0≤i→i<p.length→(zte p i&&zEy p i)=true)∧(∀i,0≤i→i<p.length→pd (∀k,i+2≤k→k<p.length→zzn p i k=true)=true)∧¬(ptA p 0).X=(ptA p 1).X
theorem zu0{p:List zu}{i:Nat}(h:0<p.length):idx p (((i % p.length:Nat)):Int)=some (ptA p i):=zuw (Nat.mod_lt _ h)
theorem zp2{p:List zu}{i:Nat}(h:i<p.length):idx p ((i:Nat):Int)=some (ptA p i):=by
 have:=zu0 (p:=p) (i:=i) (by omega)
 rwa [Nat.mod_eq_of_lt h]at this
theorem zit{i n:Nat}:Int.tmod (i:Int) (n:Int)=((i % n:Nat):Int):=rfl
theorem zDl{p:List zu}{i:Nat}:ptA p (i % p.length)=ptA p i:=by unfold ptA;rw[Nat.mod_mod]
theorem zyk{p:List zu}{i:Nat}:ptA p (i % p.length+1)=ptA p (i+1):=by unfold ptA;rw[Nat.mod_add_mod]
def zdy(p:List zu)(i:Nat):zl:=⟨ptA p i,ptA p (i+1)⟩
theorem zp3{p:List zu}(h0:0<p.length)(h1:p.length≤60):∃l,Ak p=some l∧l.length=p.length∧∀j<p.length,l[j]?=some (zdy p j):=by
 have hr:(List.range p.length).length=p.length:=List.length_range
 have key:=zdw (List.range p.length) (fun s i=>List.set s i (zdy p i)) (fun s=>some s) (fun i s=>s.length=p.length∧∀j<i,s[j]?=some (zdy p j)) (fun K q s=>yP p ((List.length p:Nat):Int) K (q,s))
  (List.replicate (Int.toNat ((List.length p:Nat):Int)) (zl.mk (zu.mk 0 0) (zu.mk 0 0))) (by omega) ⟨by simp,fun j hj=>by omega⟩ (fun K i x s hx hs=>?_) (fun K s hs=>?_)
 ·refine⟨_,?_,key.2.1,fun j hj=>key.2.2 j (by omega)⟩
  unfold Ak;rw[zN (by omega),Option.bind_some,key.1];rfl
 ·have hi:=wY hx
  rw[hr]at hi
  have hxi:x=i:=by simpa[List.getElem?_range,hi]using hx.symm
  subst hxi;obtain⟨s1,s2⟩:=hs;refine⟨?_,by rw[List.length_set];exact s1,fun j hj=>?_⟩
  ·show yP p ((List.length p:Nat):Int) (K+1) ((x:Int),s)=_
   rw[yP];simp only[decide_eq_true (show(x:Int)<((List.length p:Nat):Int) by omega),cond_true,zp2 hi,Option.bind_some];rw[zN (by omega),Option.bind_some,zW (by omega),zit,zu0 h0,Option.bind_some,zN (by omega),Option.bind_some];simp only[Int.toNat_natCast];rw[List.getElem?_eq_getElem (by omega),Option.bind_some];rfl
  ·by_cases hjx:j=x
   ·subst hjx
    rw[List.getElem?_set_self (by omega)]
   ·rw[List.getElem?_set_ne (Ne.symm hjx)]
    exact s2 j (by omega)
 ·rw[hr,yP]
  simp only[yB,cond_false]
theorem zld(a b:zu):(uf a b).bind (fun x=>some (decide (x≥0)))=some (!(ztf a b)):=by
 have hc:∀x y:Int,wJ x y=some (if x<y then -1 else if x>y then 1 else 0):=fun x y=>by
  unfold wJ ue;simp only[Option.bind_some,decide_true,Bool.not_true,cond_false];by_cases h:x<y
  ·rw[decide_eq_true h,if_pos h];rfl
  ·rw[decide_eq_false h,if_neg h]
   by_cases h2:x>y
   ·rw[decide_eq_true h2,if_pos h2];rfl
   ·rw[decide_eq_false h2,if_neg h2];rfl
 have ho:∀x y:Int,Qj [x,y]=some (if x=0 then y else x):=fun x y=>by
  unfold Qj
  have e:KK=(KK-3)+3:=by have:=uU (n:=10) (by omega);omega
  rw[e,vc];simp only[show decide ((0:Int)<((List.length [x,y]:Nat):Int))=true from rfl,cond_true,show idx [x,y] 0=some x from rfl,Option.bind_some];by_cases h:x=0
  ·rw[decide_eq_true h,if_pos h]
   simp only[Bool.not_true,cond_false];rw[show w64 (0+1)=1 from rfl,vc];simp only[show decide ((1:Int)<((List.length [x,y]:Nat):Int))=true from rfl,cond_true,show idx [x,y] 1=some y from rfl,Option.bind_some];by_cases h2:y=0
   ·rw[decide_eq_true h2,h2]
    simp only[Bool.not_true,cond_false];rw[show w64 (1+1)=2 from rfl,vc];rfl
   ·rw[decide_eq_false h2];rfl
  ·rw[decide_eq_false h,if_neg h];rfl
 unfold uf;simp only[hc,ho,Option.bind_some];unfold ztf;refine congrArg some ?_;by_cases h1:a.X<b.X
 ·simp[h1]
 ·by_cases h2:a.X>b.X
  ·have:¬a.X=b.X:=by omega
   simp[h1,h2,this]
  ·have:a.X=b.X:=by omega
   by_cases h3:a.Y<b.Y
   ·simp[this,h3]
   ·by_cases h4:a.Y>b.Y
    ·simp[this,h3,h4]
    ·simp[this,h3,h4]
theorem wW{p:Prop}(h:¬p):pd p=false:=(jc (b:=false) ⟨fun h=>(by cases h),fun h2=>absurd h2 h⟩).symm
theorem zgg(n:Nat)(g:Nat→Bool)(L:Nat→Int→Option (Bool⊕Unit))(a:Nat)(hn:n<4611686018427387904)(hL:∀K (i:Nat),a≤i→i<n→L (K+1) (i:Int)=bif g i then L K ((i+1:Nat):Int)else some (Sum.inl false))(hE:∀K (i:Nat),n≤i→L (K+1) (i:Int)=some (Sum.inr ())):
  L KK (a:Int)=some (bif pd (∀k,a≤k→k<n→g k=true)then Sum.inr ()else Sum.inl false):=by
 rw[zuz n a g _ _ L hL hE n a KK (Nat.le_refl _) (by omega) (uU (by omega))];cases pd (∀k,a≤k→k<n→g k=true)<;>rfl
theorem kz{o:Option (Bool⊕Unit)}{g r:Prop}{f:Unit→Option Bool}(h:o=some (bif pd g then Sum.inr ()else Sum.inl false))(hr:g→f ()=some (pd r)):o.bind (z8 some f)=some (pd (g∧r)):=by
 rw[xk]
 exact zyi h fun hg=>hr (xH.1 hg)
theorem zp4{p:List zu}:ug p=some (pd (WB p)):=by
 unfold ug Ve;by_cases hh:4≤p.length∧p.length≤60
 ·obtain⟨h4,h60⟩:=hh
  obtain⟨l,e1,e2,e3⟩:=zp3 (p:=p) (by omega) h60
  have hl:∀j<p.length,idx l (j:Int)=some (zdy p j):=fun j hj=>z6 (e3 j hj)
  rw[decide_eq_false (show ¬((List.length p:Nat):Int)<4 by omega),decide_eq_false (show ¬((List.length p:Nat):Int)>60 by omega),cond_false,Option.bind_some,cond_false,e1,Option.bind_some,zpv];have hp:pd (WB p)=pd ((∀i,0≤i→i<p.length→(zte p i&&zEy p i)=true)∧(∀i,0≤i→i<p.length→pd (∀k,i+2≤k→k<p.length→zzn p i k=true)=true)∧¬(ptA p 0).X=(ptA p 1).X):=xj ⟨fun h=>h.2,fun h=>⟨⟨h4,h60⟩,h⟩⟩;rw[hp,e2]
  refine kz ?_ fun _=>kz ?_ fun _=>?_
  ·refine zgg p.length (fun i=>zte p i&&zEy p i) (wu p l (List.length p:Nat)) 0 (by omega) (fun K i _ hi=>?_) (fun K i hi=>?_)
   ·rw[wu]
    simp only[decide_eq_true (show(i:Int)<((List.length p:Nat):Int) by omega),cond_true,hl i hi,Option.bind_some,e2];rw[zN (by omega),Option.bind_some,zW (by omega),zit,hl _ (Nat.mod_lt _ (by omega))];rw[show zdy p ((i+1) % p.length)=zdy p (i+1) by unfold zdy;rw[zDl,zyk],Option.bind_some];have h0:idx p 0=some (ptA p 0):=zp2 (p:=p) (i:=0) (by omega);refine zgf (zp1 (ptA p i) (ptA p (i+1)) (ptA p (i+2))) ?_;unfold zte zEy;cases ztd (ptA p i) (ptA p (i+1)) (ptA p (i+2))
    ·rfl
    simp only[Bool.not_true,cond_false,Bool.true_and];by_cases hi0:0<i
    ·rw[decide_eq_true (show(i:Int)>0 by omega),decide_eq_true hi0,cond_true,h0,zp2 hi]
     simp only[Option.bind_some,zld,Bool.not_true,Bool.false_or];cases ztf (ptA p 0) (ptA p i)<;>rfl
    ·rw[decide_eq_false (show ¬(i:Int)>0 by omega),decide_eq_false hi0];rfl
   ·rw[wu,decide_eq_false (by omega)];rfl
  ·refine zgg p.length (fun i=>pd (∀k,i+2≤k→k<p.length→zzn p i k=true)) (wx l (List.length p:Nat)) 0 (by omega) (fun K i _ hi=>?_) (fun K i hi=>?_)
   ·rw[wx,decide_eq_true (show(i:Int)<((List.length p:Nat):Int) by omega),cond_true,JR (by omega) (by omega),show((i:Int)+2)=((i+2:Nat):Int) by omega]
    rw[zgg p.length (fun k=>zzn p i k) (wv l (i:Int) (List.length p:Nat)) (i+2) (by omega) (fun K k hlo hk=>?_) (fun K k hk=>?_),zW (by omega)]
    ·cases pd (∀k,i+2≤k→k<p.length→zzn p i k=true)<;>rfl
    ·rw[wv,e2,decide_eq_true (show(k:Int)<((List.length p:Nat):Int) by omega),cond_true,JR (n:=(i:Int)+_) (by omega) (by omega),JR (by omega) (by omega),hl i hi,hl k hk]
     have hm:decide ((i:Int)+((List.length p:Nat):Int)-(k:Int)>1)=!(decide ((k+1) % p.length=i)):=by
      by_cases hk1:k+1=p.length
      ·rw[hk1,Nat.mod_self]
       by_cases hi0:0=i
       ·rw[decide_eq_true hi0,decide_eq_false (by omega)];rfl
       ·rw[decide_eq_false hi0,decide_eq_true (by omega)];rfl
      ·rw[Nat.mod_eq_of_lt (by omega)]
       rw[decide_eq_false (show ¬k+1=i by omega),decide_eq_true (by omega)];rfl
     rw[hm];unfold zzn;cases decide ((k+1) % p.length=i)
     ·simp only[Bool.not_false,cond_true,Option.bind_some,Bool.false_or]
      show((bif (decide (max (min (ptA p i).X (ptA p (i+1)).X) (min (ptA p k).X (ptA p (k+1)).X)≤min (max (ptA p i).X (ptA p (i+1)).X) (max (ptA p k).X (ptA p (k+1)).X)))then some (decide (max (min (ptA p i).Y (ptA p (i+1)).Y) (min (ptA p k).Y (ptA p (k+1)).Y)≤min (max (ptA p i).Y (ptA p (i+1)).Y) (max (ptA p k).Y (ptA p (k+1)).Y)))else some false).bind fun x4=>some x4).bind _=_
      rw[wV,Option.bind_some,Option.bind_some,zW (by omega)];unfold zDk;cases (decide (max (min (ptA p i).X (ptA p (i+1)).X) (min (ptA p k).X (ptA p (k+1)).X)≤min (max (ptA p i).X (ptA p (i+1)).X) (max (ptA p k).X (ptA p (k+1)).X))&&decide (max (min (ptA p i).Y (ptA p (i+1)).Y) (min (ptA p k).Y (ptA p (k+1)).Y)≤min (max (ptA p i).Y (ptA p (i+1)).Y) (max (ptA p k).Y (ptA p (k+1)).Y)))<;>rfl
     ·rw[zW (by omega)];rfl
    ·rw[wv,e2,decide_eq_false (by omega)];rfl
   ·rw[wx,decide_eq_false (by omega)];rfl
  ·have:=hl 0 (by omega)
   rw[show((0:Nat):Int)=0 from rfl]at this;rw[this,Option.bind_some,zY,Option.bind_some];exact congrArg some (jc (by simp[zdy]))
 ·rw[wW (fun h=>hh h.1)]
  by_cases h4:p.length<4
  ·rw[decide_eq_true (show((List.length p:Nat):Int)<4 by omega)];rfl
  ·rw[decide_eq_false (show ¬((List.length p:Nat):Int)<4 by omega),decide_eq_true (show((List.length p:Nat):Int)>60 by omega)];rfl
def t_and:List UInt8:=[97,110,100]
def zyl:List UInt8:=[97,112,97,114,116]
def zDm:List UInt8:=[98,97,115,101]
def t_cap:List UInt8:=[99,97,112]
def zDn:List UInt8:=[101,108,115,101]
def ztg:List UInt8:=[101,120,99,101,112,116]
def zDo:List UInt8:=[102,114,111,109]
def zym:List UInt8:=[103,114,97,99,101]
def zyn:List UInt8:=[104,111,117,114,115]
def t_if:List UInt8:=[105,102]
def t_in:List UInt8:=[105,110]
def zyo:List UInt8:=[108,101,97,115,116]
def t_not:List UInt8:=[110,111,116]
def t_or:List UInt8:=[111,114]
def zyp:List UInt8:=[112,108,97,110,101]
def zyq:List UInt8:=[115,108,111,112,101]
def t_sun:List UInt8:=[115,117,110]
def zyr:List UInt8:=[116,97,98,108,101]
def zDp:List UInt8:=[116,104,101,110]
def zys:List UInt8:=[117,110,116,105,108]
def zDq:List UInt8:=[117,115,101,115]
def zDr:List UInt8:=[118,97,114,121]
def zDs:List UInt8:=[118,105,101,119]
def yC:Option Nat→Int
 |some i=>(i:Int)
 |none=>-1
def RES:List (List UInt8):=[t_and,zyl,zDm,t_cap,ZG,zDn,ztg,zDo,zym,zyn,t_if,t_in,zyo,t_not,t_or,zb5,zyp,W8,zyq,t_sun,zyr,zDp,zys,zDq,zDr,zDs,zoq]
def yD(s:List UInt8):Bool:=WA s&&!(decide (s∈RES))
def zgh:List (List UInt8)→List UInt8
 |[]=>[32]
 |w::r=>32::(w++zgh r)
theorem zth:∀l,∃t,zgh l=32::t
 |[]=>⟨[],rfl⟩
 |w::r=>⟨_,rfl⟩
theorem zu1{t:List UInt8}:∀{s w:List UInt8},(∀b∈s,b≠32)→(∀b∈w,b≠32)→(s++[32]).isPrefixOf (w++32::t)=decide (s=w)
 |[],[],_,_=>by simp[List.isPrefixOf]
 |[],b::w,_,h=>by
  have:=h b (List.mem_cons_self ..);simp[List.isPrefixOf,Ne.symm this]
 |a::s,[],h,_=>by
  have:=h a (List.mem_cons_self ..);simp[List.isPrefixOf,this]
 |a::s,b::w,h,h'=>by
  have ih:=zu1 (t:=t) (s:=s) (w:=w) (fun x hx=>h x (List.mem_cons_of_mem _ hx)) (fun x hx=>h' x (List.mem_cons_of_mem _ hx));simp only[List.cons_append,List.isPrefixOf,ih];by_cases e:a=b
  ·subst e;simp
  ·simp[e]
theorem ziu{x y:List UInt8}:∀{w:List UInt8},(∀b∈w,b≠32)→oc (w++x) (32::y)=oc x (32::y)
 |[],_=>rfl
 |b::w,h=>by
  have h1:=h b (List.mem_cons_self ..);rw[List.cons_append,oc,ziu fun c hc=>h c (List.mem_cons_of_mem _ hc)];simp[List.isPrefixOf,Ne.symm h1]
theorem zdz{s:List UInt8}(hs:∀b∈s,b≠32):∀{l:List (List UInt8)},(∀w∈l,∀b∈w,b≠32)→oc (zgh l) (32::(s++[32]))=decide (s∈l)
 |[],_=>by cases s<;>simp[zgh,oc,List.isPrefixOf]
 |w::r,h=>by
  obtain⟨t,ht⟩:=zth r;have hw:=h w (List.mem_cons_self ..);rw[zgh,oc,ziu hw,zdz hs fun x hx=>h x (List.mem_cons_of_mem _ hx)]
  have:(32::(s++[32])).isPrefixOf (32::(w++zgh r))=decide (s=w):=by
   rw[ht];simp only[List.isPrefixOf,beq_self_eq_true,Bool.true_and];exact zu1 hs hw
  rw[this];by_cases e:s=w
  ·simp[e]
  ·simp[e]
theorem zti{c:UInt8}(h:qL c=true):c≠32:=by
 rintro rfl;revert h;decide
theorem zle{s:List UInt8}(h:WA s=true):s.all qL=true:=by
 cases s with
 |nil=>cases h
 |cons c r =>
  simp only[WA,Bool.and_eq_true]at h;simp only[List.all_cons,qL,h.1,Bool.true_or,Bool.true_and];exact h.2.2
theorem ztj{s:List UInt8}(h:WA s=true):s.length≤20∧s≠[]:=by
 cases s with
 |nil=>cases h
 |cons c r =>
  simp only[WA,Bool.and_eq_true,decide_eq_true_eq]at h;exact⟨h.2.1,by simp⟩
theorem zP{s:List UInt8}(h:0≤s.length):Jj s=some (yD s):=by
 unfold Jj yD;rw[zDi h,Option.bind_some]
 cases hw:WA s with
 |false=>rfl
 |true =>
  have h20:=(ztj hw).1
  have hs:∀b∈s,b≠32:=fun b hb=>zti (List.all_eq_true.1 (zle hw) b hb)
  have e:=zdz hs (l:=RES) (by decide)
  have e2:zgh RES=ze:=by decide
  rw[e2]at e;rw[cond_true,zN (by simp[t__];omega),Option.bind_some,zN (by simp[t__];omega),Option.bind_some]
  have:Ad ze ((t__++s)++t__)=some (decide (s∈RES)):=by
   unfold Ad Aa;rw[zN (by decide),Option.bind_some,← e];rfl
  rw[this];rfl
def wB(u:Bool):List (List UInt8)→List (List UInt8)→Bool
 |_,[]=>true
 |seen,s::r=>yD s&&(!(u&&decide (s∈seen))&&wB u (seen++[s]) r)
theorem KV:∀(l seen:List (List UInt8)),wB false seen l=l.all yD
 |[],_=>rfl
 |s::r,seen=>by rw[wB,KV r,List.all_cons,Bool.false_and,Bool.not_false,Bool.true_and]
theorem YK:∀(l seen:List (List UInt8)),wB true seen l=true→l.all yD=true
 |[],_,_=>rfl
 |s::r,seen,h=>by
  simp only[wB,Bool.and_eq_true]at h;rw[List.all_cons,h.1,YK r _ h.2.2];rfl
def KM(m:List (List UInt8×Bool))(L:List (List UInt8)):Prop:=∀x,(wb x m).getD false=decide (x∈L)
theorem zd0{α β:Type}[DecidableEq α](a x:α)(b:β):∀l:List (α×β),wb x (uV a b l)=if x=a then some b else wb x l
 |[]=>by simp[uV,wb]
 |(k,c)::r=>by
  have ih:=zd0 a x b r;simp only[uV];by_cases h:a=k
  ·rw[if_pos h]
   subst h;by_cases h2:x=a
   ·simp[wb,h2]
   ·simp[wb,h2]
  ·rw[if_neg h]
   simp only[wb,ih];by_cases h2:x=k
   ·subst h2
    simp[Ne.symm h]
   ·simp[h2]
theorem KM.add{m:List (List UInt8×Bool)}{L:List (List UInt8)}(h:KM m L)(s:List UInt8):KM (uV s true m) (L++[s]):=fun x=>by
 rw[zd0];by_cases hx:x=s
 ·rw[if_pos hx];simp[hx]
 ·rw[if_neg hx,h x]
  exact xV (by simp[hx])
theorem zp5(u:Bool)(l:List (List UInt8))(hs:l.length<4611686018427387904)(hn:∀s∈l,0≤s.length):
  ∀(r:List (List UInt8))(i K:Nat)(m:List (List UInt8×Bool))(seen:List (List UInt8)),l.drop i=r→i≤l.length→r.length<K→KM m seen →
   jO u l (l.length:Nat) K ((i:Int),m)=some (bif wB u seen r then .inr ()else .inl false)
 |[],i,K,m,seen,hr,hi,hK,hm=>by
  obtain⟨K,rfl⟩:∃k,K=k+1:=⟨K-1,by simp at hK;omega⟩
  have:=drop_nil hr hi;subst this;rw[jO,yB];rfl
 |x::r,i,K,m,seen,hr,hi,hK,hm=>by
  obtain⟨K,rfl⟩:∃k,K=k+1:=⟨K-1,by simp at hK;omega⟩
  obtain⟨h1,h2,h3⟩:=xG hr;simp only[List.length_cons]at hK;rw[jO,vS h1,cond_true,wB];simp only[z6 h1,Option.bind_some,zP (hn x (List.mem_of_getElem? h1)),hm x]
  cases yD x with
  |false=>rfl
  |true =>
   simp only[Bool.not_true,cond_false,Bool.true_and]
   cases hu:(u&&decide (x∈seen))with
   |true =>
    simp only[Bool.and_eq_true]at hu;rw[hu.1,hu.2];rfl
   |false =>
    have:(bif u then some (decide (x∈seen))else some false)=some false:=by
     cases u
     ·rfl
     ·simpa using hu
    rw[this];simp only[Option.bind_some,cond_false,Bool.not_false,Bool.true_and];rw[zW (by omega)];exact zp5 u l hs hn r (i+1) K _ _ h2 (by omega) (by omega) (hm.add x)
theorem ZY{u:Bool}{l:List (List UInt8)}(hs:l.length<4611686018427387904)(hn:∀s∈l,0≤s.length):w9 l u=some (wB u [] l):=by
 unfold w9;rw[show(0:Int)=((0:Nat):Int) from rfl,zp5 u l hs hn l 0 KK [] [] rfl (Nat.zero_le _) (uU (by omega)) (fun x=>by simp[wb])];cases wB u [] l<;>rfl
theorem YL{α β:Type}(g:α→β):∀(l:List α)(s:List β),l.foldl (fun s x=>s++[g x]) s=s++l.map g
 |[],s=>by simp
 |x::l,s=>by rw[List.foldl_cons,YL g l];simp
theorem zlf{α τ:Type}(l:List α)(g:α→List UInt8)(L:Nat→(Int×List (List UInt8))→τ)(fin:List (List UInt8)→τ)(hs:l.length≤1000)
  (hL:∀K (i:Nat) x s,l[i]?=some x→List.length s≤1000→L (K+1) ((i:Int),s)=L K (((i+1:Nat):Int),s++[g x])) (hE:∀K s,L (K+1) ((l.length:Int),s)=fin s):L KK (0,[])=fin (l.map g):=by
 have:=(zdw l (fun s x=>s++[g x]) fin (fun i s=>s.length=i∧i≤l.length) (fun K q s=>L K (q,s)) [] (by omega) ⟨rfl,Nat.zero_le _⟩ (fun K i x s h hi=>⟨hL K i x s h (by omega),by have:=wY h;simp;omega⟩) (fun K s _=>hE K s)).1;rw[YL]at this;simpa using this
theorem vm{α:Type}[Inhabited α](l:List α)(g:α→List UInt8)(m:Nat)(L:Nat→(Int×List (List UInt8))→Option (List (List UInt8)))(B:α→Option (List UInt8))(hs:l.length≤1000)(hn:∀x∈l,0≤(g x).length)
  (hL:∀K q,L (K+1) q=(bif (decide (q.1<((List.length l:Nat):Int)))then(idx l q.1).bind fun x1=>(B x1).bind fun x2=>(grd (List.length (q.2++([x2]:List (List UInt8)))*16≤140737488355328)).bind fun _=>L K ((w64 (q.1+1)),(q.2++([x2]:List (List UInt8))))else some q.2))
  (hB:∀x,B x=some (g x)):(L KK (0,[])).bind (fun x1=>(bif (decide (((List.length l:Nat):Int)≤(m:Int)))then(w9 x1 true).bind fun x2=>some x2 else some false))=some (decide (l.length≤m)&&wB true [] (l.map g)):=by
 rw[zlf l g L some hs (fun K i x s h h2=>?_) (fun K s=>by rw[hL];simp only[yB,cond_false]),Option.bind_some,ZY (by simp;omega) (fun s h=>?_),zdq _ m rfl]
 ·cases decide (l.length≤m)<;>rfl
 ·obtain⟨x,h1,rfl⟩:=List.mem_map.1 h
  exact hn x h1
 ·have:=wY h
  rw[hL];simp only[vS h,cond_true,z6 h,Option.bind_some,hB];rw[zN (by rw[List.length_append,List.length_singleton];omega),Option.bind_some,zW (by omega)]
-- expressions
def ZZ(op:Int):Int:=if op≤3 then 0 else if op=9∨op=15 then 1 else if op=16 then 3 else 2
def yY(e:Expr):Bool:=decide (0≤e.Op∧e.Op<17∧((e.Args.length:Nat):Int)=ZZ e.Op)&&(decide (if e.Op=0 then 0≤e.N∧e.N≤1099511627776 else e.N=0) &&
 ((if e.Op=1∨e.Op=2∨e.Op=3 then yD e.S else decide (e.S=[]))&&(if e.Op=2 then yD e.Key else decide (e.Key=[]))))
def okE:Nat→Expr→Bool
 |0,_=>false
 |d+1,e=>yY e&&e.Args.all (okE d)
theorem ztk{n:Int}(h0:0≤n)(h1:n<17):n=0∨n=1∨n=2∨n=3∨n=9∨n=15∨n=16∨(¬n=0∧¬n=1∧¬n=2∧¬n=3∧¬n=9∧¬n=15∧¬n=16∧¬n≤3):=by omega
theorem oR{n:Int}:decide ((min (max n 0) 1099511627776)=n)=decide (0≤n∧n≤1099511627776):=xV (by omega)
theorem kT{s:List UInt8}:decide ([]=s)=decide (s=[]):=xV ⟨Eq.symm,Eq.symm⟩
theorem wX{n:Int}:decide (0=n)=decide (n=0):=xV ⟨Eq.symm,Eq.symm⟩
theorem zDt{n:Int}{s k:List UInt8}{az:List Expr} :yY ⟨0,n,s,k,az⟩=(decide (((az.length:Nat):Int)=0)&&(decide (0≤n∧n≤1099511627776)&&(decide (s=[])&&decide (k=[])))):=by
 simp[yY,ZZ]
theorem r_0{RK:Nat}{d n:Int}{s k:List UInt8}{az:List Expr}{r:Bool}(hd:¬d=0)(hS:0≤s.length)(hK:0≤k.length)(h:yY ⟨0,n,s,k,az⟩=true→ya (zB RK) d az ((List.length az:Nat):Int) KK 0=some (bif r then Sum.inr ()else Sum.inl false)):zB (RK+1) ⟨0,n,s,k,az⟩ d=some (yY ⟨0,n,s,k,az⟩&&r):=by
 rw[zDt ]at h ⊢;rw[zB];simp only[decide_eq_false hd,oR,kT,wX,zP hS,zP hK,Bool.not_true,Bool.not_false,cond_false,cond_true,Option.bind_some,z8,Int.reduceEq,Int.reduceLT,Int.reduceGE,Int.reduceLE,decide_true,decide_false,ge_iff_le]
 cases ha:decide (((az.length:Nat):Int)=0)<;>cases hb:decide (0≤n∧n≤1099511627776)<;>cases hc:decide (s=[])<;>cases he:decide (k=[])<;>(first|rfl|(rw[ha,hb,hc,he]at h;rw[h rfl];cases r<;>rfl))
theorem zDu{n:Int}{s k:List UInt8}{az:List Expr} :yY ⟨1,n,s,k,az⟩=(decide (((az.length:Nat):Int)=0)&&(decide (n=0)&&(yD s&&decide (k=[])))):=by
 simp[yY,ZZ]
theorem r_1{RK:Nat}{d n:Int}{s k:List UInt8}{az:List Expr}{r:Bool}(hd:¬d=0)(hS:0≤s.length)(hK:0≤k.length)(h:yY ⟨1,n,s,k,az⟩=true→ya (zB RK) d az ((List.length az:Nat):Int) KK 0=some (bif r then Sum.inr ()else Sum.inl false)):zB (RK+1) ⟨1,n,s,k,az⟩ d=some (yY ⟨1,n,s,k,az⟩&&r):=by
 rw[zDu ]at h ⊢;rw[zB];simp only[decide_eq_false hd,oR,kT,wX,zP hS,zP hK,Bool.not_true,Bool.not_false,cond_false,cond_true,Option.bind_some,z8,Int.reduceEq,Int.reduceLT,Int.reduceGE,Int.reduceLE,decide_true,decide_false,ge_iff_le]
 cases ha:decide (((az.length:Nat):Int)=0)<;>cases hb:decide (n=0)<;>cases hc:yD s<;>cases he:decide (k=[])<;>(first|rfl|(rw[ha,hb,hc,he]at h;rw[h rfl];cases r<;>rfl))
theorem zDv{n:Int}{s k:List UInt8}{az:List Expr} :yY ⟨2,n,s,k,az⟩=(decide (((az.length:Nat):Int)=0)&&(decide (n=0)&&(yD s&&yD k))):=by
 simp[yY,ZZ]
theorem r_2{RK:Nat}{d n:Int}{s k:List UInt8}{az:List Expr}{r:Bool}(hd:¬d=0)(hS:0≤s.length)(hK:0≤k.length)(h:yY ⟨2,n,s,k,az⟩=true→ya (zB RK) d az ((List.length az:Nat):Int) KK 0=some (bif r then Sum.inr ()else Sum.inl false)):zB (RK+1) ⟨2,n,s,k,az⟩ d=some (yY ⟨2,n,s,k,az⟩&&r):=by
 rw[zDv ]at h ⊢;rw[zB];simp only[decide_eq_false hd,oR,kT,wX,zP hS,zP hK,Bool.not_true,Bool.not_false,cond_false,cond_true,Option.bind_some,z8,Int.reduceEq,Int.reduceLT,Int.reduceGE,Int.reduceLE,decide_true,decide_false,ge_iff_le]
 cases he:yD k with
 |false=>simp only[Bool.and_false,Bool.false_and];rfl
 |true =>
  simp only[Bool.not_true,cond_false,Option.bind_some,z8,wX,decide_true]
  cases ha:decide (((az.length:Nat):Int)=0)<;>cases hb:decide (n=0)<;>cases hc:yD s<;>(first|rfl|(rw[ha,hb,hc,he]at h;rw[h rfl];cases r<;>rfl))
theorem zDw{n:Int}{s k:List UInt8}{az:List Expr} :yY ⟨3,n,s,k,az⟩=(decide (((az.length:Nat):Int)=0)&&(decide (n=0)&&(yD s&&decide (k=[])))):=by
 simp[yY,ZZ]
theorem r_3{RK:Nat}{d n:Int}{s k:List UInt8}{az:List Expr}{r:Bool}(hd:¬d=0)(hS:0≤s.length)(hK:0≤k.length)(h:yY ⟨3,n,s,k,az⟩=true→ya (zB RK) d az ((List.length az:Nat):Int) KK 0=some (bif r then Sum.inr ()else Sum.inl false)):zB (RK+1) ⟨3,n,s,k,az⟩ d=some (yY ⟨3,n,s,k,az⟩&&r):=by
 rw[zDw ]at h ⊢;rw[zB];simp only[decide_eq_false hd,oR,kT,wX,zP hS,zP hK,Bool.not_true,Bool.not_false,cond_false,cond_true,Option.bind_some,z8,Int.reduceEq,Int.reduceLT,Int.reduceGE,Int.reduceLE,decide_true,decide_false,ge_iff_le]
 cases ha:decide (((az.length:Nat):Int)=0)<;>cases hb:decide (n=0)<;>cases hc:yD s<;>cases he:decide (k=[])<;>(first|rfl|(rw[ha,hb,hc,he]at h;rw[h rfl];cases r<;>rfl))
theorem zDx{n:Int}{s k:List UInt8}{az:List Expr} :yY ⟨9,n,s,k,az⟩=(decide (((az.length:Nat):Int)=1)&&(decide (n=0)&&(decide (s=[])&&decide (k=[])))):=by
 simp[yY,ZZ]
theorem r_9{RK:Nat}{d n:Int}{s k:List UInt8}{az:List Expr}{r:Bool}(hd:¬d=0)(hS:0≤s.length)(hK:0≤k.length)(h:yY ⟨9,n,s,k,az⟩=true→ya (zB RK) d az ((List.length az:Nat):Int) KK 0=some (bif r then Sum.inr ()else Sum.inl false)):zB (RK+1) ⟨9,n,s,k,az⟩ d=some (yY ⟨9,n,s,k,az⟩&&r):=by
 rw[zDx ]at h ⊢;rw[zB];simp only[decide_eq_false hd,oR,kT,wX,zP hS,zP hK,Bool.not_true,Bool.not_false,cond_false,cond_true,Option.bind_some,z8,Int.reduceEq,Int.reduceLT,Int.reduceGE,Int.reduceLE,decide_true,decide_false,ge_iff_le]
 cases ha:decide (((az.length:Nat):Int)=1)<;>cases hb:decide (n=0)<;>cases hc:decide (s=[])<;>cases he:decide (k=[])<;>(first|rfl|(rw[ha,hb,hc,he]at h;rw[h rfl];cases r<;>rfl))
theorem zyt{n:Int}{s k:List UInt8}{az:List Expr} :yY ⟨15,n,s,k,az⟩=(decide (((az.length:Nat):Int)=1)&&(decide (n=0)&&(decide (s=[])&&decide (k=[])))):=by
 simp[yY,ZZ]
theorem r_15{RK:Nat}{d n:Int}{s k:List UInt8}{az:List Expr}{r:Bool}(hd:¬d=0)(hS:0≤s.length)(hK:0≤k.length)(h:yY ⟨15,n,s,k,az⟩=true→ya (zB RK) d az ((List.length az:Nat):Int) KK 0=some (bif r then Sum.inr ()else Sum.inl false)):zB (RK+1) ⟨15,n,s,k,az⟩ d=some (yY ⟨15,n,s,k,az⟩&&r):=by
 rw[zyt ]at h ⊢;rw[zB];simp only[decide_eq_false hd,oR,kT,wX,zP hS,zP hK,Bool.not_true,Bool.not_false,cond_false,cond_true,Option.bind_some,z8,Int.reduceEq,Int.reduceLT,Int.reduceGE,Int.reduceLE,decide_true,decide_false,ge_iff_le]
 cases ha:decide (((az.length:Nat):Int)=1)<;>cases hb:decide (n=0)<;>cases hc:decide (s=[])<;>cases he:decide (k=[])<;>(first|rfl|(rw[ha,hb,hc,he]at h;rw[h rfl];cases r<;>rfl))
theorem zyu{n:Int}{s k:List UInt8}{az:List Expr} :yY ⟨16,n,s,k,az⟩=(decide (((az.length:Nat):Int)=3)&&(decide (n=0)&&(decide (s=[])&&decide (k=[])))):=by
 simp[yY,ZZ]
theorem r_16{RK:Nat}{d n:Int}{s k:List UInt8}{az:List Expr}{r:Bool}(hd:¬d=0)(hS:0≤s.length)(hK:0≤k.length)(h:yY ⟨16,n,s,k,az⟩=true→ya (zB RK) d az ((List.length az:Nat):Int) KK 0=some (bif r then Sum.inr ()else Sum.inl false)):zB (RK+1) ⟨16,n,s,k,az⟩ d=some (yY ⟨16,n,s,k,az⟩&&r):=by
 rw[zyu ]at h ⊢;rw[zB];simp only[decide_eq_false hd,oR,kT,wX,zP hS,zP hK,Bool.not_true,Bool.not_false,cond_false,cond_true,Option.bind_some,z8,Int.reduceEq,Int.reduceLT,Int.reduceGE,Int.reduceLE,decide_true,decide_false,ge_iff_le]
 cases ha:decide (((az.length:Nat):Int)=3)<;>cases hb:decide (n=0)<;>cases hc:decide (s=[])<;>cases he:decide (k=[])<;>(first|rfl|(rw[ha,hb,hc,he]at h;rw[h rfl];cases r<;>rfl))
theorem zDy{op n:Int}{s k:List UInt8}{az:List Expr}(hlo:0≤op)(hhi:op<17)(h0:¬op=0)(h1:¬op=1)(h2:¬op=2)(h3:¬op=3)(h9:¬op=9)(h15:¬op=15)(h16:¬op=16)(h3l:¬op≤3):yY ⟨op,n,s,k,az⟩=(decide (((az.length:Nat):Int)=2)&&(decide (n=0)&&(decide (s=[])&&decide (k=[])))):=by
 simp[yY,ZZ,h0,h1,h2,h3,h9,h15,h16,h3l,hlo,hhi]
theorem r_b{RK:Nat}{op d n:Int}{s k:List UInt8}{az:List Expr}{r:Bool}(hlo:0≤op)(hhi:op<17)(h0:¬op=0)(h1:¬op=1)(h2:¬op=2)(h3:¬op=3)(h9:¬op=9)(h15:¬op=15)(h16:¬op=16)(h3l:¬op≤3)(hd:¬d=0)(hS:0≤s.length)(hK:0≤k.length)(h:yY ⟨op,n,s,k,az⟩=true→ya (zB RK) d az ((List.length az:Nat):Int) KK 0=some (bif r then Sum.inr ()else Sum.inl false)):zB (RK+1) ⟨op,n,s,k,az⟩ d=some (yY ⟨op,n,s,k,az⟩&&r):=by
 rw[zDy hlo hhi h0 h1 h2 h3 h9 h15 h16 h3l]at h ⊢;rw[zB];simp only[decide_eq_false h0,decide_eq_false h1,decide_eq_false h2,decide_eq_false h3,decide_eq_false h9,decide_eq_false h15,decide_eq_false h16,decide_eq_false h3l,decide_eq_false (Int.not_lt.2 hlo),decide_eq_false (Int.not_le.2 hhi),decide_eq_false hd,oR,kT,wX,zP hS,zP hK,Bool.not_true,Bool.not_false,cond_false,cond_true,Option.bind_some,z8,Int.reduceEq,Int.reduceLT,Int.reduceGE,Int.reduceLE,decide_true,decide_false,ge_iff_le]
 cases ha:decide (((az.length:Nat):Int)=2)<;>cases hb:decide (n=0)<;>cases hc:decide (s=[])<;>cases he:decide (k=[])<;>(first|rfl|(rw[ha,hb,hc,he]at h;rw[h rfl];cases r<;>rfl))
theorem zDz{RK:Nat}{d:Int}{e:Expr}{r:Bool}(hd:¬d=0)(hS:0≤e.S.length)(hK:0≤e.Key.length)(h:yY e=true→ya (zB RK) d e.Args ((List.length e.Args:Nat):Int) KK 0=some (bif r then Sum.inr ()else Sum.inl false)):zB (RK+1) e d=some (yY e&&r):=by
 obtain⟨op,n,s,k,az⟩:=e;by_cases hlo:0≤op
 ·by_cases hhi:op<17
  ·obtain rfl|rfl|rfl|rfl|rfl|rfl|rfl|⟨h0,h1,h2,h3,h9,h15,h16,h3l⟩:=ztk hlo hhi
   ·exact r_0 hd hS hK h
   ·exact r_1 hd hS hK h
   ·exact r_2 hd hS hK h
   ·exact r_3 hd hS hK h
   ·exact r_9 hd hS hK h
   ·exact r_15 hd hS hK h
   ·exact r_16 hd hS hK h
   ·exact r_b hlo hhi h0 h1 h2 h3 h9 h15 h16 h3l hd hS hK h
  ·have:yY ⟨op,n,s,k,az⟩=false:=by simp[yY,hhi]
   rw[this,zB];simp only[decide_eq_false hd,decide_eq_false (show ¬op<0 by omega),decide_eq_true (show op≥17 by omega)];rfl
 ·have:yY ⟨op,n,s,k,az⟩=false:=by simp[yY,hlo]
  rw[this,zB];simp only[decide_eq_false hd,decide_eq_true (show op<0 by omega)];rfl
theorem zyv{e:Expr}(h:uJ e=true):0≤e.S.length∧0≤e.Key.length:=by
 obtain⟨op,n,s,k,az⟩:=e;rw[uJ]at h;simp only[Bool.and_eq_true,decide_eq_true_eq]at h;exact h.2
theorem zlg{e x:Expr}(h:uJ e=true)(hx:x∈e.Args):uJ x=true:=by
 obtain⟨op,n,s,k,az⟩:=e;rw[uJ,YJ]at h;simp only[Bool.and_eq_true]at h;exact List.all_eq_true.1 h.1 x hx
theorem ztl{e:Expr}{n:Nat}(h:K2 e≤n):e.Args.length<n:=by
 obtain⟨op,m,s,k,az⟩:=e;rw[K2]at h;have:=Qr az
 show az.length<n
 omega
theorem ztm{e x:Expr}{n:Nat}(h:K2 e≤n)(hx:x∈e.Args):K2 x≤n:=by
 obtain⟨op,m,s,k,az⟩:=e;rw[K2]at h;have:=Qs (show x∈az from hx);omega
theorem ztn:∀(d:Nat)(e:Expr)(K:Nat),d<K→d≤1000→K2 e≤5000→uJ e=true→zB K e (d:Int)=some (okE d e):=by
 intro d
 induction d with
 |zero =>
  intro e K hK _ _ _
  obtain⟨K,rfl⟩:∃k,K=k+1:=⟨K-1,by omega⟩
  rw[zB];rfl
 |succ d ih =>
  intro e K hK hd hn hs
  obtain⟨K,rfl⟩:∃k,K=k+1:=⟨K-1,by omega⟩
  have h1:=zyv hs;have hz:=ztl hn;rw[okE]
  refine zDz (by omega) (by omega) (by omega) fun _=>?_
  refine ZX e.Args (okE d) _ (fun q=>(idx e.Args q).bind fun x1=>(zB K (Expr.mk x1.Op x1.N x1.S x1.Key x1.Args) (w64 (((d+1:Nat):Int)-1))).bind fun x2=>some (!x2)) (by omega) (fun K q=>?_) fun i x hx=>?_
  ·rw[ya]
   simp only[Option.bind_assoc,Option.bind_some]
  ·have hx':=List.mem_of_getElem? hx
   rw[z6 hx,Option.bind_some,zx,JR (by omega) (by omega),show(((d+1:Nat):Int)-1)=(d:Int) by omega,ih x K (by omega) (by omega) (ztm hn hx') (zlg hs hx')];rfl
theorem Z1{e:Expr}(h:zdx e=true):K2 e≤5000∧uJ e=true:=by
 unfold zdx at h;simp only[Bool.and_eq_true,decide_eq_true_eq]at h;exact h
theorem KW{e:Expr}(h:zdx e=true):vb e=some (okE 12 e):=by
 unfold vb;obtain⟨h1,h2⟩:=Z1 h;rw[zx,show(12:Int)=((12:Nat):Int) from rfl,ztn 12 e KK (uU (by omega)) (by omega) (by omega) h2];rfl
theorem VV{a b:Int}{l:List Int}(h:l.length<1000):zw a b l=some (l.all fun n=>decide (a≤n)&&decide (n≤b)):=by
 unfold zw;rw[ZX l (fun n=>decide (a≤n)&&decide (n≤b)) (kl a b l (List.length l:Nat)) (fun q=>(idx l q).bind fun x1=>(bif (decide (x1<a))then some true else some (decide (x1>b)))) (by omega) (fun K q=>?_) fun i x hx=>?_]
 ·cases l.all fun n=>decide (a≤n)&&decide (n≤b)<;>rfl
 ·rw[kl]
  simp only[Option.bind_assoc]
 ·rw[z6 hx,Option.bind_some]
  by_cases h1:a≤x
  ·rw[decide_eq_false (show ¬x<a by omega),decide_eq_true h1,cond_false,Bool.true_and]
   by_cases h2:x≤b
   ·rw[decide_eq_true h2,decide_eq_false (show ¬x>b by omega)];rfl
   ·rw[decide_eq_false h2,decide_eq_true (show x>b by omega)];rfl
  ·rw[decide_eq_true (show x<a by omega),decide_eq_false h1];rfl
theorem kA{a b x:Int}:zw a b [x]=some (pd (a≤x∧x≤b)):=by
 rw[VV (by simp)];exact congrArg some (jc (by simp))
theorem Ku{a b x y:Int}:zw a b [x,y]=some (pd ((a≤x∧x≤b)∧(a≤y∧y≤b))):=by
 rw[VV (by simp)];exact congrArg some (jc (by simp))
theorem zyw{a b x y z:Int}:zw a b [x,y,z]=some (pd ((a≤x∧x≤b)∧(a≤y∧y≤b)∧(a≤z∧z≤b))):=by
 rw[VV (by simp)];exact congrArg some (jc (by simp))
def jG:Expr:=⟨0,0,[],[],[]⟩
def VW(r:zb):Prop :=
 (0≤r.Kind∧r.Kind≤3)∧(r.Kind=0→okE 12 r.Test=true)∧(¬r.Kind=0→r.Test=jG) ∧
 (r.Kind=1→(0≤r.zg.Side∧r.zg.Side≤3)∧(0≤r.zg.Base∧r.zg.Base≤4096)∧(0≤r.zg.Num∧r.zg.Num≤4096)∧(1≤r.zg.Den∧r.zg.Den≤4096))∧(¬r.Kind=1→r.zg=⟨0,0,0,0⟩) ∧
 (r.Kind=2→1≤r.Uses∧r.Uses≤63)∧(r.Kind=3→(0≤r.Uses∧r.Uses≤5)∧(0≤r.Other∧r.Other≤5)∧(0≤r.N∧r.N≤1048576)) ∧
 (¬r.Kind=2→¬r.Kind=3→r.Uses=0)∧(¬r.Kind=3→r.Other=0∧r.N=0)
def zD0(r:zb):Prop:=(0≤r.From∧r.From≤1073741824)∧(0≤r.Grace∧r.Grace≤1073741824)∧(0≤r.Until∧r.Until≤1073741824)∧(r.Until=0∨r.From<r.Until)
def VX(r:zb):Prop:=((r.Zones.all yD=true∧r.Except.all yD=true)∧zD0 r)∧VW r
theorem zd1{l:List (List UInt8)}(h:zDj l=true):l.length≤3000∧∀s∈l,0≤s.length:=by
 unfold zDj at h;simp only[Bool.and_eq_true,decide_eq_true_eq,List.all_eq_true]at h;exact⟨h.2,h.1⟩
theorem Qt{r:zb}(h:zed r=true):0≤r.Name.length∧(r.Zones.length≤3000∧∀s∈r.Zones,0≤s.length)∧(r.Except.length≤3000∧∀s∈r.Except,0≤s.length)∧zdx r.Test=true:=by
 unfold zed at h;simp only[Bool.and_eq_true,decide_eq_true_eq]at h;exact⟨h.1,zd1 h.2.1,zd1 h.2.2.1,h.2.2.2⟩
theorem qN{e:Expr}(h:zdx e=true):qM e:=by
 have:=(Z1 h).1;unfold qM;omega
theorem zp6{A B C:Bool}{un fr:Int}:((bif (!A)then some true else(bif (!B)then some true else(bif (!C)then some true else(bif (!(decide (un=0)))then some (decide (un≤fr))else some false)))):Option Bool)=some (!(A&&(B&&(C&&pd (un=0∨fr<un))))):=by
 have:pd (un=0∨fr<un)=(decide (un=0)||decide (fr<un)):=(jc (by simp)).symm;rw[this]
 have lt:decide (un≤fr)=!(decide (fr<un)):=by
  by_cases h:un≤fr
  ·rw[decide_eq_true h,decide_eq_false (by omega)];rfl
  ·rw[decide_eq_false h,decide_eq_true (by omega)];rfl
 rw[lt];cases A<;>cases B<;>cases C<;>cases decide (un=0)<;>rfl
theorem wj{p:Prop}(h:p):pd p=true:=xH.2 h
theorem zp7{r:zb}(h:zed r=true):km r=some (pd (VX r)):=by
 obtain⟨_,⟨z1,z2⟩,⟨x1,x2⟩,te⟩:=Qt h;obtain⟨nm,zs,ex,fr,un,gr,va,ki,t,⟨ps,pb,pn,pdn⟩,us,ot,n⟩:=r;simp only at z1 z2 x1 x2 te;have n1:=ZY (u:=false) (l:=zs) (by omega) (fun s hs=>by have:=z2 s hs;omega);have n2:=ZY (u:=false) (l:=ex) (by omega) (fun s hs=>by have:=x2 s hs;omega);rw[KV]at n1 n2
 have sm:∀x,ve ⟨nm,zs,ex,fr,un,gr,va,ki,t,⟨ps,pb,pn,pdn⟩,us,ot,n⟩ x=some (pd ((⟨nm,zs,ex,fr,un,gr,va,ki,t,⟨ps,pb,pn,pdn⟩,us,ot,n⟩:zb)=x)):=fun x=>zdt (a:=⟨nm,zs,ex,fr,un,gr,va,ki,t,⟨ps,pb,pn,pdn⟩,us,ot,n⟩) (by show zs.length<_;omega) (by show ex.length<_;omega) (qN te)
 have hp:pd (VX ⟨nm,zs,ex,fr,un,gr,va,ki,t,⟨ps,pb,pn,pdn⟩,us,ot,n⟩)=((zs.all yD&&(ex.all yD&&(pd ((0≤fr∧fr≤1073741824)∧(0≤gr∧gr≤1073741824)∧(0≤un∧un≤1073741824))&&pd (un=0∨fr<un))))&&pd (VW ⟨nm,zs,ex,fr,un,gr,va,ki,t,⟨ps,pb,pn,pdn⟩,us,ot,n⟩)):=by
  refine(jc ?_).symm;simp only[Bool.and_eq_true,xH,VX,zD0];constructor
  ·rintro⟨⟨a,b,⟨c,d,e⟩,f⟩,g⟩;exact⟨⟨⟨a,b⟩,c,d,e,f⟩,g⟩
  ·rintro⟨⟨⟨a,b⟩,c,d,e,f⟩,g⟩;exact⟨⟨a,b,⟨c,d,e⟩,f⟩,g⟩
 rw[hp];unfold km;simp only[n1,n2,zyw,Option.bind_some];rw[zp6,Option.bind_some];cases hh:(zs.all yD&&(ex.all yD&&(pd ((0≤fr∧fr≤1073741824)∧(0≤gr∧gr≤1073741824)∧(0≤un∧un≤1073741824))&&pd (un=0∨fr<un))))
 ·rfl
 simp only[Bool.not_true,cond_false,Bool.true_and];by_cases k0:ki=0
 ·subst k0
  simp only[decide_true,cond_true,zx,KW te,Option.bind_some]
  have hb:pd (VW ⟨nm,zs,ex,fr,un,gr,va,0,t,⟨ps,pb,pn,pdn⟩,us,ot,n⟩)=(okE 12 t&&pd ((⟨nm,zs,ex,fr,un,gr,va,0,t,⟨ps,pb,pn,pdn⟩,us,ot,n⟩:zb)=⟨nm,zs,ex,fr,un,gr,va,0,t,⟨0,0,0,0⟩,0,0,0⟩)):=by
   refine(jc ?_).symm;simp only[Bool.and_eq_true,xH,VW,zb.mk.injEq,zg.mk.injEq];simp
  rw[hb,sm];cases okE 12 t<;>rfl
 ·by_cases k1:ki=1
  ·subst k1
   simp only[decide_eq_false k0,decide_true,cond_true,cond_false,zx,kA,Ku,Option.bind_some]
   have hb:pd (VW ⟨nm,zs,ex,fr,un,gr,va,1,t,⟨ps,pb,pn,pdn⟩,us,ot,n⟩)=(pd (0≤ps∧ps≤3)&&(pd ((0≤pb∧pb≤4096)∧(0≤pn∧pn≤4096))&&(pd (1≤pdn∧pdn≤4096)&&pd ((⟨nm,zs,ex,fr,un,gr,va,1,t,⟨ps,pb,pn,pdn⟩,us,ot,n⟩:zb)=⟨nm,zs,ex,fr,un,gr,va,1,⟨0,0,[],[],[]⟩,⟨ps,pb,pn,pdn⟩,0,0,0⟩)))):=by
    refine(jc ?_).symm;simp only[Bool.and_eq_true,xH,VW,zb.mk.injEq,zg.mk.injEq,jG];simp
    grind
   rw[hb];cases pd (0≤ps∧ps≤3)
   ·rfl
   cases pd ((0≤pb∧pb≤4096)∧(0≤pn∧pn≤4096))
   ·rfl
   cases pd (1≤pdn∧pdn≤4096)
   ·rfl
   simp only[cond_true,Option.bind_some,sm,Bool.true_and]
  ·by_cases k2:ki=2
   ·subst k2
    simp only[decide_eq_false k0,decide_eq_false k1,decide_true,cond_true,cond_false,zx,kA,Ku,Option.bind_some]
    have hb:pd (VW ⟨nm,zs,ex,fr,un,gr,va,2,t,⟨ps,pb,pn,pdn⟩,us,ot,n⟩)=(pd (1≤us∧us≤63)&&pd ((⟨nm,zs,ex,fr,un,gr,va,2,t,⟨ps,pb,pn,pdn⟩,us,ot,n⟩:zb)=⟨nm,zs,ex,fr,un,gr,va,2,⟨0,0,[],[],[]⟩,⟨0,0,0,0⟩,us,0,0⟩)):=by
     refine(jc ?_).symm;simp only[Bool.and_eq_true,xH,VW,zb.mk.injEq,zg.mk.injEq,jG];simp
     grind
    rw[hb];cases pd (1≤us∧us≤63)
    ·rfl
    simp only[cond_true,Option.bind_some,sm,Bool.true_and]
   ·by_cases k3:ki=3
    ·subst k3
     simp only[decide_eq_false k0,decide_eq_false k1,decide_eq_false k2,decide_true,cond_true,cond_false,zx,kA,Ku,Option.bind_some]
     have hb:pd (VW ⟨nm,zs,ex,fr,un,gr,va,3,t,⟨ps,pb,pn,pdn⟩,us,ot,n⟩)=(pd ((0≤us∧us≤5)∧(0≤ot∧ot≤5))&&(pd (0≤n∧n≤1048576)&&pd ((⟨nm,zs,ex,fr,un,gr,va,3,t,⟨ps,pb,pn,pdn⟩,us,ot,n⟩:zb)=⟨nm,zs,ex,fr,un,gr,va,3,⟨0,0,[],[],[]⟩,⟨0,0,0,0⟩,us,ot,n⟩))):=by
      refine(jc ?_).symm;simp only[Bool.and_eq_true,xH,VW,zb.mk.injEq,zg.mk.injEq,jG];simp
      grind
     rw[hb];cases pd ((0≤us∧us≤5)∧(0≤ot∧ot≤5))
     ·rfl
     cases pd (0≤n∧n≤1048576)
     ·rfl
     simp only[cond_true,Option.bind_some,sm,Bool.true_and]
    ·simp only[decide_eq_false k0,decide_eq_false k1,decide_eq_false k2,decide_eq_false k3,cond_false,Option.bind_some]
     have hb:pd (VW ⟨nm,zs,ex,fr,un,gr,va,ki,t,⟨ps,pb,pn,pdn⟩,us,ot,n⟩)=false:=by
      refine(jc (b:=false) ⟨fun h=>(by cases h),fun h=>?_⟩).symm;obtain⟨⟨h1,h2⟩,_⟩:=h;simp only at h1 h2;omega
     rw[hb]
theorem vn{α:Type}(l:List α)(P:α→Prop)(L:Nat→Int→Option (Bool⊕Unit))(B:Int→Option Bool)(hs:l.length<4611686018427387904)
  (hL:∀K q,L (K+1) q=(bif (decide (q<((List.length l:Nat):Int)))then(B q).bind fun r=>(bif r then some (Sum.inl false)else L K (w64 (q+1)))else some (Sum.inr ())))
  (hB:∀(i:Nat) x,l[i]?=some x→B (i:Int)=some (!(pd (P x)))):L KK 0=some (bif pd (∀x∈l,P x)then Sum.inr ()else Sum.inl false):=by
 rw[ZX l (fun x=>pd (P x)) L B (by omega) hL hB];have:l.all (fun x=>pd (P x))=pd (∀x∈l,P x):=jc (by simp only[List.all_eq_true,xH]);rw[this]
def zd2(p:zj):Prop:=(0≤p.X∧p.X≤1048576)∧(0≤p.Y∧p.Y≤1048576)∧(0≤p.Z_∧p.Z_≤4096)
def zEz(p:zj):Prop:=(-4096≤p.X∧p.X≤4096)∧(-4096≤p.Y∧p.Y≤4096)∧(1≤p.Z_∧p.Z_≤4096)
def oS(t:Table):Prop:=(t.Rows.length≤60∧wB true [] (t.Rows.map Entry.Name)=true)∧(-1099511627776≤t.Else∧t.Else≤1099511627776)∧∀x∈t.Rows,-1099511627776≤x.N∧x.N≤1099511627776
def zzo(c:Cap):Prop:=(0≤c.Load∧c.Load≤2)∧(0≤c.Limit∧c.Limit≤1099511627776)∧WB c.Corners
def zd3(v:View):Prop:=(0≤v.Least∧v.Least≤20)∧(1≤((v.Targets.length:Nat):Int)∧((v.Targets.length:Nat):Int)≤20)∧zd2 v.Eye∧∀x∈v.Targets,zd2 x
def y9{α:Type}(l:List α)(g:α→List UInt8)(m:Nat):Prop:=l.length≤m∧wB true [] (l.map g)=true
def Z3(p:zK):Prop:=(∀d∈p.Defs,okE 12 d.Body=true)∧(∀t∈p.Tables,oS t)∧(∀z∈p.Zones,WB z.Corners)∧(∀r∈p.Rules,VX r)∧(∀c∈p.Caps,zzo c)∧(∀v∈p.Views,zd3 v)∧(∀d∈p.Sun,zEz d)
def kU(p:zK):Prop :=
 (y9 p.Defs Def.Name 60∧y9 p.Tables Table.Name 60∧y9 p.Zones zr.Name 60∧y9 p.Rules zb.Name 200∧y9 p.Caps Cap.Name 30∧y9 p.Views View.Name 60)∧Z3 p∧(0≤p.Hours∧p.Hours≤24)∧p.Sun.length≤24
theorem Ht{α:Type}{l:List α}{g:α→List UInt8}{m:Nat}:(decide (l.length≤m)&&wB true [] (l.map g))=pd (y9 l g m):=jc (by simp[y9])
theorem zyx{l:List Def}(hs:l.length≤1000)(hn:∀x∈l,0≤x.Name.length):Qi l 60=some (pd (y9 l Def.Name 60)):=by
 rw[← Ht];unfold Qi
 exact vm l Def.Name 60 (ud l 60 (List.length l:Nat)) (fun x=>some x.Name) hs hn (fun K q=>rfl) fun x=>rfl
theorem zyy{l:List Table}(hs:l.length≤1000)(hn:∀x∈l,0≤x.Name.length):Ae l 60=some (pd (y9 l Table.Name 60)):=by
 rw[← Ht];unfold Ae
 exact vm l Table.Name 60 (jA l 60 (List.length l:Nat)) (fun x=>some x.Name) hs hn (fun K q=>rfl) fun x=>rfl
theorem zyz{l:List zr}(hs:l.length≤1000)(hn:∀x∈l,0≤x.Name.length):Af l 60=some (pd (y9 l zr.Name 60)):=by
 rw[← Ht];unfold Af
 exact vm l zr.Name 60 (jB l 60 (List.length l:Nat)) (fun x=>some x.Name) hs hn (fun K q=>rfl) fun x=>rfl
theorem zy0{l:List zb}(hs:l.length≤1000)(hn:∀x∈l,0≤x.Name.length):Ag l 200=some (pd (y9 l zb.Name 200)):=by
 rw[← Ht];unfold Ag
 exact vm l zb.Name 200 (jC l 200 (List.length l:Nat)) (fun x=>some x.Name) hs hn (fun K q=>rfl) fun x=>rfl
theorem zy1{l:List Cap}(hs:l.length≤1000)(hn:∀x∈l,0≤x.Name.length):Ah l 30=some (pd (y9 l Cap.Name 30)):=by
 rw[← Ht];unfold Ah
 exact vm l Cap.Name 30 (jD l 30 (List.length l:Nat)) (fun x=>some x.Name) hs hn (fun K q=>rfl) fun x=>rfl
theorem zy2{l:List View}(hs:l.length≤1000)(hn:∀x∈l,0≤x.Name.length):Ai l 60=some (pd (y9 l View.Name 60)):=by
 rw[← Ht];unfold Ai
 exact vm l View.Name 60 (jE l 60 (List.length l:Nat)) (fun x=>some x.Name) hs hn (fun K q=>rfl) fun x=>rfl
theorem zy3{l:List Entry}(hs:l.length≤1000)(hn:∀x∈l,0≤x.Name.length):Aj l 60=some (pd (y9 l Entry.Name 60)):=by
 rw[← Ht];unfold Aj
 exact vm l Entry.Name 60 (jF l 60 (List.length l:Nat)) (fun x=>some x.Name) hs hn (fun K q=>rfl) fun x=>rfl
structure zlh(p:zK):Prop where
 d:p.Defs.length≤300
 t:p.Tables.length≤300
 z:p.Zones.length≤300
 r:p.Rules.length≤300
 c:p.Caps.length≤300
 v:p.Views.length≤300
 s:p.Sun.length≤64
 ds:∀x∈p.Defs,0≤x.Name.length∧zdx x.Body=true
 ts:∀x∈p.Tables,0≤x.Name.length∧x.Rows.length≤64∧∀y∈x.Rows,0≤y.Name.length
 zs:∀x∈p.Zones,0≤x.Name.length∧x.Corners.length≤64
 rs:∀x∈p.Rules,zed x=true
 cs:∀x∈p.Caps,0≤x.Name.length∧x.Corners.length≤64
 vs:∀x∈p.Views,0≤x.Name.length∧x.Targets.length≤64
theorem oT{o:Option Bool}{f:Option Bool}{g r:Prop}(h:o=some (pd g))(hr:g→f=some (!(pd r))):(o.bind fun x=>bif (!x)then some true else f)=some (!(pd (g∧r))):=by
 rw[xk]
 exact ztc h fun hg=>hr (xH.1 hg)
theorem vv{o:Option Bool}{g:Prop}(h:o=some (pd g)):(o.bind fun x=>some (!x))=some (!(pd g)):=by rw[h];rfl
theorem pdb{b:Bool}:some b=some (pd (b=true)):=congrArg some (jc Iff.rfl)
section code
variable{c0:List Def}{c1:Int}{c2:List Table}{c3:List zr}{c4:List zb}{c5:List Cap}{c6:List View}{c7:List zj}{c8:Int}
theorem Rt_L1(hl:c0.length≤300)(h:∀x∈c0,0≤x.Name.length∧zdx x.Body=true):jP c0 (List.length c0:Nat) c2 c3 c4 c5 c6 c7 c8 KK 0=some (bif pd (∀d∈c0,okE 12 d.Body=true)then .inr ()else .inl false):=by
 refine vn c0 (fun d=>okE 12 d.Body=true) (jP c0 (List.length c0:Nat) c2 c3 c4 c5 c6 c7 c8) (fun q=>(idx c0 q).bind fun x1=>(vb (Expr.mk x1.Body.Op x1.Body.N x1.Body.S x1.Body.Key x1.Body.Args)).bind fun x2=>some (!x2)) (by omega) (fun K q=>?_) fun i x hx=>?_
 ·rw[jP]
  simp only[Option.bind_assoc,Option.bind_some]
 ·rw[z6 hx,Option.bind_some,zx]
  exact vv ((KW (h x (List.mem_of_getElem? hx)).2).trans pdb)
theorem Rt_L2{c0:List Table}{c2:List Def}(hl:c0.length≤300)(h:∀x∈c0,0≤x.Name.length∧x.Rows.length≤64∧∀y∈x.Rows,0≤y.Name.length):vf c0 (List.length c0:Nat) c2 c3 c4 c5 c6 c7 c8 KK 0=some (bif pd (∀d∈c0,oS d)then .inr ()else .inl false):=by
 have key:=ZW c0 (fun x=>pd (oS x)) (some (Sum.inr ())) (some (Sum.inl false)) (vf c0 (List.length c0:Nat) c2 c3 c4 c5 c6 c7 c8) (by omega) (fun K i x hx=>?_) (fun K=>by rw[vf,yB];rfl)
 ·have:c0.all (fun x=>pd (oS x))=pd (∀x∈c0,oS x):=jc (by simp only[List.all_eq_true,xH])
  rw[key,this];cases pd (∀x∈c0,oS x)<;>rfl
 ·have hi:=wY hx
  obtain⟨_,h2,h3⟩:=h x (List.mem_of_getElem? hx);rw[vf,vS hx,cond_true,z6 hx,Option.bind_some,zW (by omega)];rw[oT (zy3 (l:=x.Rows) (by omega) (fun y hy=>by have:=h3 y hy;omega)) (fun _=>vv kA),Option.bind_some]
  have hp:pd (oS x)=(pd (y9 x.Rows Entry.Name 60∧-1099511627776≤x.Else∧x.Else≤1099511627776)&&pd (∀y∈x.Rows,-1099511627776≤y.N∧y.N≤1099511627776)):=by
   rw[← xk];exact xj ⟨fun⟨a,b,c⟩=>⟨⟨a,b⟩,c⟩,fun⟨⟨a,b⟩,c⟩=>⟨a,b,c⟩⟩
  simp only[hp];cases pd (y9 x.Rows Entry.Name 60∧-1099511627776≤x.Else∧x.Else≤1099511627776)
  ·rfl
  rw[Bool.not_true,cond_false,Bool.true_and];rw[vn x.Rows (fun y=>-1099511627776≤y.N∧y.N≤1099511627776) (qx c0 (List.length c0:Nat) (i:Int) x.Rows (List.length x.Rows:Nat) c2 c3 c4 c5 c6 c7 c8) (fun q=>(idx x.Rows q).bind fun x1=>(zw (-1099511627776) 1099511627776 ([x1.N]:List Int)).bind fun x2=>some (!x2)) (by omega) (fun K q=>?_) fun j y hy=>?_]
  ·cases pd (∀y∈x.Rows,-1099511627776≤y.N∧y.N≤1099511627776)<;>rfl
  ·rw[qx]
   simp only[Option.bind_assoc,Option.bind_some]
  ·rw[z6 hy,Option.bind_some]
   exact vv kA
theorem Rt_L4{c0:List zr}{c2:List Def}{c3:List Table}(hl:c0.length≤300):jQ c0 (List.length c0:Nat) c2 c3 c4 c5 c6 c7 c8 KK 0=some (bif pd (∀d∈c0,WB d.Corners)then .inr ()else .inl false):=by
 refine vn c0 (fun d=>WB d.Corners) (jQ c0 (List.length c0:Nat) c2 c3 c4 c5 c6 c7 c8) (fun q=>(idx c0 q).bind fun x1=>(ug x1.Corners).bind fun x2=>some (!x2)) (by omega) (fun K q=>?_) fun i x hx=>?_
 ·rw[jQ]
  simp only[Option.bind_assoc,Option.bind_some]
 ·rw[z6 hx,Option.bind_some]
  exact vv zp4
theorem Rt_L5{c0:List zb}{c2:List Def}{c3:List Table}{c4:List zr}(hl:c0.length≤300)(h:∀x∈c0,zed x=true):jR c0 (List.length c0:Nat) c2 c3 c4 c5 c6 c7 c8 KK 0=some (bif pd (∀d∈c0,VX d)then .inr ()else .inl false):=by
 refine vn c0 VX (jR c0 (List.length c0:Nat) c2 c3 c4 c5 c6 c7 c8) (fun q=>(idx c0 q).bind fun x1=>(km (zb.mk x1.Name x1.Zones x1.Except x1.From x1.Until x1.Grace x1.Vary x1.Kind (Expr.mk x1.Test.Op x1.Test.N x1.Test.S x1.Test.Key x1.Test.Args) x1.zg x1.Uses x1.Other x1.N)).bind fun x2=>some (!x2)) (by omega) (fun K q=>?_) fun i x hx=>?_
 ·rw[jR]
  simp only[Option.bind_assoc,Option.bind_some]
 ·rw[z6 hx,Option.bind_some,zx]
  exact vv (zp7 (h x (List.mem_of_getElem? hx)))
theorem Rt_L6{c0:List Cap}{c2:List Def}{c3:List Table}{c4:List zr}{c5:List zb}(hl:c0.length≤300):jS c0 (List.length c0:Nat) c2 c3 c4 c5 c6 c7 c8 KK 0=some (bif pd (∀d∈c0,zzo d)then .inr ()else .inl false):=by
 refine vn c0 zzo (jS c0 (List.length c0:Nat) c2 c3 c4 c5 c6 c7 c8) (fun q=>(idx c0 q).bind fun x1=>((zw 0 2 ([x1.Load]:List Int)).bind fun x3=>(bif (!x3)then some true else(zw 0 1099511627776 ([x1.Limit]:List Int)).bind fun x4=>(bif (!x4)then some true else(ug x1.Corners).bind fun x5=>some (!x5))))) (by omega) (fun K q=>?_) fun i x hx=>?_
 ·rw[jS]
  simp only[Option.bind_assoc]
 ·rw[z6 hx,Option.bind_some]
  exact oT kA fun _=>oT kA fun _=>vv zp4
theorem Rt_L7{c0:List View}{c2:List Def}{c3:List Table}{c4:List zr}{c5:List zb}{c6:List Cap}(hl:c0.length≤300)(h:∀x∈c0,0≤x.Name.length∧x.Targets.length≤64):vg c0 (List.length c0:Nat) c2 c3 c4 c5 c6 c7 c8 KK 0=some (bif pd (∀d∈c0,zd3 d)then .inr ()else .inl false):=by
 have key:=ZW c0 (fun x=>pd (zd3 x)) (some (Sum.inr ())) (some (Sum.inl false)) (vg c0 (List.length c0:Nat) c2 c3 c4 c5 c6 c7 c8) (by omega) (fun K i x hx=>?_) (fun K=>by rw[vg,yB];rfl)
 ·have:c0.all (fun x=>pd (zd3 x))=pd (∀x∈c0,zd3 x):=jc (by simp only[List.all_eq_true,xH])
  rw[key,this];cases pd (∀x∈c0,zd3 x)<;>rfl
 ·have hi:=wY hx
  obtain⟨_,h2⟩:=h x (List.mem_of_getElem? hx);rw[vg,vS hx,cond_true,z6 hx,Option.bind_some,zW (by omega)];rw[oT kA (fun _=>vv kA),Option.bind_some]
  have hp:pd (zd3 x)=(pd ((0≤x.Least∧x.Least≤20)∧(1≤((x.Targets.length:Nat):Int)∧((x.Targets.length:Nat):Int)≤20))&&pd (∀y∈([x.Eye]++x.Targets),zd2 y)):=by
   rw[← xk]
   exact xj ⟨fun⟨a,b,c,d⟩=>⟨⟨a,b⟩,fun y hy=>by
    rcases List.mem_append.1 hy with h1|h1
    ·rw[List.mem_singleton.1 h1];exact c
    ·exact d y h1⟩,fun⟨⟨a,b⟩,c⟩=>⟨a,b,c _ (by simp),fun y hy=>c y (by simp[hy])⟩⟩
  simp only[hp];cases pd ((0≤x.Least∧x.Least≤20)∧(1≤((x.Targets.length:Nat):Int)∧((x.Targets.length:Nat):Int)≤20))
  ·rfl
  have hlen:([x.Eye]++x.Targets).length≤65:=by simp;omega
  rw[Bool.not_true,cond_false,Bool.true_and,zN (by omega),Option.bind_some];rw[vn ([x.Eye]++x.Targets) zd2 (qy c0 (List.length c0:Nat) (i:Int) (List.length ([x.Eye]++x.Targets):Nat) c2 c3 c4 c5 c6 c7 c8 ([x.Eye]++x.Targets)) (fun q=>(grd (0≤q∧q<(((List.length ([x.Eye]++x.Targets)):Nat):Int))).bind fun _=>((([x.Eye]++x.Targets))[(Int.toNat q)]?).bind fun x2=>((zw 0 1048576 ([x2.X,x2.Y]:List Int)).bind fun x4=>(bif (!x4)then some true else(zw 0 4096 ([x2.Z_]:List Int)).bind fun x5=>some (!x5)))) (by omega) (fun K q=>?_) fun j y hy=>?_]
  ·cases pd (∀y∈([x.Eye]++x.Targets),zd2 y)<;>rfl
  ·rw[qy]
   simp only[Option.bind_assoc]
  ·have hj:=wY hy
   rw[zN (by omega),Option.bind_some,Int.toNat_natCast,hy,Option.bind_some,oT Ku (fun _=>vv kA)];exact congrArg (fun b=>some (!b)) (xj ⟨fun⟨⟨a,b⟩,c⟩=>⟨a,b,c⟩,fun⟨a,b,c⟩=>⟨⟨a,b⟩,c⟩⟩)
theorem Rt_L9{c0:List zj}{c2:List Def}{c3:List Table}{c4:List zr}{c5:List zb}{c6:List Cap}{c7:List View}(hl:c0.length≤64):jT c0 (List.length c0:Nat) c2 c3 c4 c5 c6 c7 c8 KK 0=some (bif pd (∀d∈c0,zEz d)then .inr ()else .inl false):=by
 refine vn c0 zEz (jT c0 (List.length c0:Nat) c2 c3 c4 c5 c6 c7 c8) (fun q=>(idx c0 q).bind fun x1=>((zw (-4096) 4096 ([x1.X,x1.Y]:List Int)).bind fun x3=>(bif (!x3)then some true else(zw 1 4096 ([x1.Z_]:List Int)).bind fun x4=>some (!x4)))) (by omega) (fun K q=>?_) fun i x hx=>?_
 ·rw[jT]
  simp only[Option.bind_assoc]
 ·rw[z6 hx,Option.bind_some,oT Ku (fun _=>vv kA)]
  exact congrArg (fun b=>some (!b)) (xj ⟨fun⟨⟨a,b⟩,c⟩=>⟨a,b,c⟩,fun⟨a,b,c⟩=>⟨⟨a,b⟩,c⟩⟩)
end code
theorem Ao{p:zK}(h:zlh p):uh p=some (pd (kU p)):=by
 unfold uh;have hd:=h.d;have ht:=h.t;have hz:=h.z;have hr:=h.r;have hc:=h.c;have hv:=h.v;have hs:=h.s;rw[oT (zyx (l:=p.Defs) (by omega) (fun x hx=>by have:=(h.ds x hx).1;omega)) fun _=>oT (zyy (l:=p.Tables) (by omega) (fun x hx=>by have:=(h.ts x hx).1;omega)) fun _=>oT (zyz (l:=p.Zones) (by omega) (fun x hx=>by have:=(h.zs x hx).1;omega)) fun _=>oT (zy0 (l:=p.Rules) (by omega) (fun x hx=>by have:=(Qt (h.rs x hx)).1;omega)) fun _=>oT (zy1 (l:=p.Caps) (by omega) (fun x hx=>by have:=(h.cs x hx).1;omega)) fun _=>vv (zy2 (l:=p.Views) (by omega) (fun x hx=>by have:=(h.vs x hx).1;omega)),Option.bind_some]
 have hp:pd (kU p)=(pd (y9 p.Defs Def.Name 60∧y9 p.Tables Table.Name 60∧y9 p.Zones zr.Name 60∧y9 p.Rules zb.Name 200∧y9 p.Caps Cap.Name 30∧y9 p.Views View.Name 60)&&pd ((∀d∈p.Defs,okE 12 d.Body=true)∧(∀t∈p.Tables,oS t)∧(∀z∈p.Zones,WB z.Corners)∧(∀r∈p.Rules,VX r)∧(∀c∈p.Caps,zzo c)∧(∀v∈p.Views,zd3 v)∧(∀d∈p.Sun,zEz d)∧(0≤p.Hours∧p.Hours≤24)∧(0≤((p.Sun.length:Nat):Int)∧((p.Sun.length:Nat):Int)≤24))):=by
  rw[← xk];exact xj ⟨fun⟨a,⟨b1,b2,b3,b4,b5,b6,b7⟩,c,d⟩=>⟨a,b1,b2,b3,b4,b5,b6,b7,c,by omega⟩,fun⟨a,b1,b2,b3,b4,b5,b6,b7,c,d⟩=>⟨a,⟨b1,b2,b3,b4,b5,b6,b7⟩,c,by omega⟩⟩
 rw[hp];cases pd (y9 p.Defs Def.Name 60∧y9 p.Tables Table.Name 60∧y9 p.Zones zr.Name 60∧y9 p.Rules zb.Name 200∧y9 p.Caps Cap.Name 30∧y9 p.Views View.Name 60)
 ·rfl
 rw[Bool.not_true,cond_false,Bool.true_and]
 exact kz (Rt_L1 hd h.ds) fun _=>kz (Rt_L2 ht h.ts) fun _=>kz (Rt_L4 hz) fun _=>kz (Rt_L5 hr h.rs) fun _=>kz (Rt_L6 hc) fun _=>kz (Rt_L7 hv h.vs) fun _=>kz (Rt_L9 hs) fun _=>by rw[Ku];rfl
end Go.Proofs.YthnokpghgeppdaaGreatDoor
namespace Go.KL
variable{α κ:Type}[DecidableEq κ](key:α→κ)
def put(k:κ)(c:α→α)(z:α):List α→List α
 |[]=>[c z]
 |x::r=>if key x=k then c x::r else x::put k c z r
def get(k:κ):List α→Option α
 |[]=>none
 |x::r=>if key x=k then some x else get k r
variable{key}
theorem get_none{k:κ}:∀{l:List α},get key k l=none↔k ∉ l.map key
 |[]=>by simp[get]
 |x::r=>by
  rw[get];by_cases h:key x=k
  ·simp[h]
  ·rw[if_neg h,get_none];simp[Ne.symm h]
theorem uu{k:κ}{x:α}:∀{l:List α},get key k l=some x→key x=k∧x∈l
 |[],h=>by cases h
 |y::r,h=>by
  rw[get]at h;by_cases e:key y=k
  ·rw[if_pos e]at h;cases h;exact⟨e,List.mem_cons_self ..⟩
  ·rw[if_neg e]at h;exact⟨(uu h).1,List.mem_cons_of_mem _ (uu h).2⟩
theorem get_mem{x:α}:∀{l:List α},(l.map key).Nodup→x∈l→get key (key x) l=some x
 |[],_,h=>by cases h
 |y::r,hn,h=>by
  rw[List.map_cons,List.nodup_cons]at hn;rw[get]
  rcases List.mem_cons.1 h with rfl|h
  ·rw[if_pos rfl]
  ·rw[if_neg (fun e=>hn.1 (by rw[e];exact List.mem_map_of_mem h)),get_mem hn.2 h]
theorem ext:∀{a b:List α},(a.map key).Nodup→a.map key=b.map key→(∀k,get key k a=get key k b)→a=b
 |[],b,_,h,_=>by cases b with|nil=>rfl|cons=>cases h
 |x::a,[],_,h,_=>by cases h
 |x::a,y::b,hn,h,hg=>by
  rw[List.map_cons,List.map_cons]at h;obtain⟨h1,h2⟩:=List.cons.inj h;rw[List.map_cons,List.nodup_cons]at hn;have e:=hg (key x);rw[get,get,if_pos rfl,if_pos h1.symm]at e;cases e
  rw[ext hn.2 h2 fun k=>by
   have:=hg k;rw[get,get]at this;by_cases hk:key x=k
   ·subst hk
    rw[get_none.2 hn.1,get_none.2 (by rw[← h2];exact hn.1)]
   ·rw[if_neg hk,if_neg hk]at this;exact this]
theorem jH{k:κ}{c:α→α}{z:α}(hc:∀x,key x=k→key (c x)=k)(hz:key (c z)=k):
  ∀l:List α,(put key k c z l).map key=if k∈l.map key then l.map key else l.map key++[k]
 |[]=>by simp[put,hz]
 |x::r=>by
  rw[put];by_cases h:key x=k
  ·rw[if_pos h,if_pos (by simp[h]),List.map_cons,List.map_cons,hc x h,h]
  ·rw[if_neg h,List.map_cons,List.map_cons,jH hc hz r]
   by_cases hk:k∈r.map key
   ·rw[if_pos hk,if_pos (List.mem_cons_of_mem _ hk)]
   ·rw[if_neg hk,if_neg (by rw[List.mem_cons];rintro(e|e);exact h e.symm;exact hk e),List.cons_append]
theorem VY{k:κ}{c:α→α}{z:α}(hc:∀x,key x=k→key (c x)=k)(hz:key (c z)=k){l:List α}(h:(l.map key).Nodup):((put key k c z l).map key).Nodup:=by
 rw[jH hc hz];by_cases hk:k∈l.map key
 ·rw[if_pos hk];exact h
 ·rw[if_neg hk,List.nodup_append]
  exact⟨h,by simp,fun a ha b hb=>by rw[List.mem_singleton]at hb;subst hb;intro e;subst e;exact hk ha⟩
theorem VZ{k:κ}{c:α→α}{z:α}(hc:∀x,key x=k→key (c x)=k)(hz:key (c z)=k):
  ∀l:List α,get key k (put key k c z l)=some (c ((get key k l).getD z))
 |[]=>by simp[put,get,hz]
 |x::r=>by
  rw[put];by_cases h:key x=k
  ·rw[if_pos h,get,if_pos (hc x h),get,if_pos h];rfl
  ·rw[if_neg h,get,if_neg h,VZ hc hz r,get,if_neg h]
theorem vT{k k':κ}{c:α→α}{z:α}(hc:∀x,key x=k→key (c x)=k)(hz:key (c z)=k)(hk:k'≠k):
  ∀l:List α,get key k' (put key k c z l)=get key k' l
 |[]=>by simp only[put,get];rw[if_neg (by rw[hz];exact Ne.symm hk)]
 |x::r=>by
  rw[put];by_cases h:key x=k
  ·rw[if_pos h,get,get,if_neg (by rw[hc x h];exact Ne.symm hk),if_neg (by rw[h];exact Ne.symm hk)]
  ·rw[if_neg h,get,get,vT hc hz hk r]
theorem put_comm{k k':κ}{c c':α→α}{z z':α}(hc:∀x,key x=k→key (c x)=k)(hz:key (c z)=k)(hc':∀x,key x=k'→key (c' x)=k')(hz':key (c' z')=k')
  (hk:k≠k') {l:List α} (hn:(l.map key).Nodup) (h:k∈l.map key∨k'∈l.map key):
  put key k c z (put key k' c' z' l)=put key k' c' z' (put key k c z l):=by
 refine ext (VY hc hz (VY hc' hz' hn)) ?_ fun q=>?_
 ·have e:∀{k k':κ},k≠k'→(k∈l.map key++[k']↔k∈l.map key):=fun hne=>by simp[hne]
  rw[jH hc hz,jH hc' hz',jH hc' hz',jH hc hz];by_cases h1:k∈l.map key
  ·by_cases h2:k'∈l.map key
   ·simp only[if_pos h1,if_pos h2]
   ·simp only[if_pos h1,if_neg h2]
    rw[if_pos (List.mem_append_left _ h1)]
  ·have h2:=h.resolve_left h1
   simp only[if_neg h1,if_pos h2];rw[if_pos (List.mem_append_left _ h2)]
 ·by_cases q1:q=k
  ·subst q1
   rw[VZ hc hz,vT hc' hz' hk,vT hc' hz' hk,VZ hc hz]
  ·rw[vT hc hz q1]
   by_cases q2:q=k'
   ·subst q2
    rw[VZ hc' hz',VZ hc' hz',vT hc hz (Ne.symm hk)]
   ·rw[vT hc' hz' q2,vT hc' hz' q2,vT hc hz q1]
theorem V0{k:κ}{c:α→α}{z:α}:∀l:List α,(put key k c z l).length=if k∈l.map key then l.length else l.length+1
 |[]=>by simp[put]
 |x::r=>by
  rw[put];by_cases h:key x=k
  ·rw[if_pos h,if_pos (by simp[h])];rfl
  ·rw[if_neg h,List.length_cons,V0 r]
   by_cases hk:k∈r.map key
   ·rw[if_pos hk,if_pos (by rw[List.map_cons];exact List.mem_cons_of_mem _ hk),List.length_cons]
   ·rw[if_neg hk,if_neg (by rw[List.map_cons,List.mem_cons];rintro(e|e);exact h e.symm;exact hk e),List.length_cons]
end Go.KL
set_option maxRecDepth 100000
namespace Go.Proofs.YthnokpghgeppdaaGreatDoor
open Go Go.RowKit Go.Eng Go.EV Go.EQ
variable[Fuel]
theorem V1:∀(l seen:List (List UInt8)),wB true seen l=true→l.Nodup∧∀s∈l,s ∉ seen
 |[],_,_=>⟨List.nodup_nil,fun _ h=>by cases h⟩
 |s::l,seen,h=>by
  rw[wB]at h;simp only[Bool.and_eq_true,Bool.true_and,Bool.not_eq_true',decide_eq_false_iff_not]at h;obtain⟨_,h2,h3⟩:=h;obtain⟨i1,i2⟩:=V1 l (seen++[s]) h3;refine⟨List.nodup_cons.2 ⟨fun hm=>i2 s hm (by simp),i1⟩,fun x hx=>?_⟩
  rcases List.mem_cons.1 hx with rfl|hx
  ·exact h2
  ·exact fun hm=>i2 x hx (List.mem_append_left _ hm)
theorem zD1:∀(l seen:List (List UInt8)),l.all yD=true→l.Nodup→(∀s∈l,s ∉ seen)→wB true seen l=true
 |[],_,_,_,_=>rfl
 |s::r,seen,h,hn,hs=>by
  rw[List.all_cons,Bool.and_eq_true]at h;rw[List.nodup_cons]at hn;rw[wB,h.1,Bool.true_and,Bool.true_and,decide_eq_false (hs s (List.mem_cons_self ..)),Bool.not_false,Bool.true_and]
  refine zD1 r _ h.2 hn.2 fun x hx=>?_
  rw[List.mem_append,List.mem_singleton];rintro(e|rfl)
  ·exact hs x (List.mem_cons_of_mem _ hx) e
  ·exact hn.1 hx
theorem JS{α:Type}{l:List α}{g:α→List UInt8}{m:Nat}:y9 l g m↔l.length≤m∧(∀x∈l,yD (g x)=true)∧(l.map g).Nodup:=by
 unfold y9;refine⟨fun⟨a,b⟩=>⟨a,?_,(V1 _ _ b).1⟩,fun⟨a,b,c⟩=>⟨a,zD1 _ _ ?_ c fun _ _ h=>by cases h⟩⟩
 ·have:=YK _ _ b
  simpa using this
 ·simpa using b
inductive Ed where
 |rule (r:zb)
 |fin (n:List UInt8) (d:Int)
 |dfn (d:Def)
 |row (n:List UInt8) (x:Entry)
 |zone (z:zr)
 |lim (n:List UInt8) (v:Int)
def Ed.ok:Ed→Prop
 |.rule r=>yD r.Name=true∧VX r
 |.fin n d=>yD n=true∧1≤d∧d≤1073741824
 |.dfn d=>yD d.Name=true∧okE 12 d.Body=true
 |.row n x=>yD n=true∧yD x.Name=true∧-1099511627776≤x.N∧x.N≤1099511627776
 |.zone z=>yD z.Name=true∧WB z.Corners
 |.lim n v=>yD n=true∧0≤v∧v≤1099511627776
def Ed.thing:Ed→Nat×List UInt8×List UInt8
 |.rule r=>(0,r.Name,[])
 |.fin n _=>(0,n,[])
 |.dfn d=>(1,d.Name,[])
 |.row n x=>(2,n,x.Name)
 |.zone z=>(3,z.Name,[])
 |.lim n _=>(4,n,[])
def zT(n:List UInt8):Table:=⟨n,[],0⟩
def jx(x:Entry)(t:Table):Table:={ t with Rows:=KL.put Entry.Name x.Name (fun _=>x) x t.Rows }
def app(p:zK):Ed→Option zK
 |.rule r=>if r.Name∈p.Rules.map zb.Name∨200≤p.Rules.length then none else some { p with Rules:=p.Rules++[r] }
 |.fin n d=>match KL.get zb.Name n p.Rules with
  |none=>none
  |some r=>if d≤r.From then none else some { p with Rules:=KL.put zb.Name n (fun r=>{ r with Until:=d }) r p.Rules }
 |.dfn d=>if d.Name ∉ p.Defs.map Def.Name∧60≤p.Defs.length then none else some { p with Defs:=KL.put Def.Name d.Name (fun _=>d) d p.Defs }
 |.row n x=>if(n ∉ p.Tables.map Table.Name∧60≤p.Tables.length)∨(x.Name ∉ ((KL.get Table.Name n p.Tables).getD (zT n)).Rows.map Entry.Name∧60≤((KL.get Table.Name n p.Tables).getD (zT n)).Rows.length)then none
  else some { p with Tables:=KL.put Table.Name n (jx x) (zT n) p.Tables }
 |.zone z=>if(z.Name ∉ p.Zones.map zr.Name∧60≤p.Zones.length)∨(∃y,KL.get zr.Name z.Name p.Zones=some y∧y.Overlay≠z.Overlay)then none
  else some { p with Zones:=KL.put zr.Name z.Name (fun _=>z) z p.Zones }
 |.lim n v=>match KL.get Cap.Name n p.Caps with
  |none=>none
  |some c=>some { p with Caps:=KL.put Cap.Name n (fun c=>{ c with Limit:=v }) c p.Caps }
theorem qj{α:Type}{g:α→List UInt8}{k:List UInt8}{c:α→α}{z:α}{P:α→Prop}(hz:P (c z)):∀{l:List α},(∀x∈l,P x)→(∀x∈l,g x=k→P (c x))→∀x∈KL.put g k c z l,P x
 |[],_,_,x,hx=>by rw[KL.put,List.mem_singleton]at hx;exact hx▸hz
 |y::r,h,hc,x,hx=>by
  rw[KL.put]at hx;by_cases e:g y=k
  ·rw[if_pos e]at hx
   rcases List.mem_cons.1 hx with rfl|hx
   ·exact hc y (List.mem_cons_self ..) e
   ·exact h x (List.mem_cons_of_mem _ hx)
  ·rw[if_neg e]at hx
   rcases List.mem_cons.1 hx with rfl|hx
   ·exact h _ (List.mem_cons_self ..)
   ·exact qj hz (fun x hx=>h x (List.mem_cons_of_mem _ hx)) (fun x hx=>hc x (List.mem_cons_of_mem _ hx)) x hx
theorem Aq{α:Type}{g:α→List UInt8}{m:Nat}{k:List UInt8}{c:α→α}{z:α}(hc:∀x,g x=k→g (c x)=k)(hz:g (c z)=k)(hk:yD k=true){l:List α}(h:y9 l g m)(hm:¬(k ∉ l.map g∧m≤l.length)):y9 (KL.put g k c z l) g m:=by
 rw[JS]at h ⊢;obtain⟨h1,h2,h3⟩:=h;refine⟨?_,qj (P:=fun x=>yD (g x)=true) (by rw[hz];exact hk) h2 (fun x _ e=>by rw[hc x e];exact hk),KL.VY hc hz h3⟩;rw[KL.V0];by_cases hi:k∈l.map g
 ·rw[if_pos hi];exact h1
 ·rw[if_neg hi]
  have:¬m≤l.length:=fun e=>hm ⟨hi,e⟩
  omega
theorem AL{α:Type}{g:α→List UInt8}{k:List UInt8}{x:α}{l:List α}(h:KL.get g k l=some x):k∈l.map g:=by
 by_cases hk:k∈l.map g
 ·exact hk
 ·rw[KL.get_none.2 hk]at h;cases h
theorem zd4{x:Entry}{t:Table}(hn:yD x.Name=true)(h1:-1099511627776≤x.N∧x.N≤1099511627776)(h:oS t)(hm:¬(x.Name ∉ t.Rows.map Entry.Name∧60≤t.Rows.length)):oS (jx x t):=by
 have hh:y9 t.Rows Entry.Name 60:=h.1;exact⟨Aq (c:=fun _=>x) (z:=x) (fun _ _=>rfl) rfl hn hh hm,h.2.1,qj (P:=fun x:Entry=>-1099511627776≤x.N∧x.N≤1099511627776) h1 h.2.2 fun _ _ _=>h1⟩
theorem zp8{p q:zK}{e:Ed}(hp:kU p)(he:e.ok)(h:app p e=some q):kU q:=by
 obtain⟨⟨d,t,z,r,c,v⟩,⟨bd,bt,bz,br,bc,bv⟩,hr⟩:=hp
 cases e with
 |rule x =>
  simp only[app]at h;by_cases g:x.Name∈p.Rules.map zb.Name∨200≤p.Rules.length
  ·rw[if_pos g]at h;cases h
  ·rw[if_neg g]at h;cases h
   rw[not_or]at g;refine⟨⟨d,t,z,?_,c,v⟩,⟨bd,bt,bz,?_,bc,bv⟩,hr⟩
   ·rw[JS]at r ⊢
    refine⟨by simp;omega,?_,?_⟩
    ·intro y hy
     rcases List.mem_append.1 hy with hy|hy
     ·exact r.2.1 y hy
     ·rw[List.mem_singleton]at hy;subst hy;exact he.1
    ·rw[List.map_append,List.nodup_append]
     exact⟨r.2.2,by simp,fun a ha b hb=>by simp at hb;subst hb;intro e;subst e;exact g.1 ha⟩
   ·intro y hy
    rcases List.mem_append.1 hy with hy|hy
    ·exact br y hy
    ·rw[List.mem_singleton]at hy;subst hy;exact he.2
 |fin n dd =>
  simp only[app]at h
  cases hg:KL.get zb.Name n p.Rules with
  |none=>rw[hg]at h;cases h
  |some x =>
   rw[hg]at h;dsimp only at h;by_cases g:dd≤x.From
   ·rw[if_pos g]at h;cases h
   ·rw[if_neg g]at h;cases h
    have hx:=KL.uu hg;have hn:(p.Rules.map zb.Name).Nodup:=(JS.1 r).2.2
    have hu:∀y∈p.Rules,y.Name=n→VX { y with Until:=dd }:=fun y hy e=>by
     have:y=x:=by
      have:=KL.get_mem hn hy;rw[e,hg]at this;exact(Option.some.inj this).symm
     subst this;have:=br y hy;refine⟨⟨this.1.1,⟨this.1.2.1,this.1.2.2.1,⟨?_,he.2.2⟩,.inr ?_⟩⟩,this.2⟩
     ·show(0:Int)≤dd
      have:=he.2.1;omega
     ·show y.From<dd
      omega
    exact⟨⟨d,t,z,Aq (g:=zb.Name) (k:=n) (c:=fun r:zb=>{ r with Until:=dd }) (fun _ e=>e) hx.1 he.1 r (fun e=>e.1 (AL hg)),c,v⟩,⟨bd,bt,bz,qj (P:=VX) (hu x hx.2 hx.1) br hu,bc,bv⟩,hr⟩
 |dfn x =>
  simp only[app]at h;by_cases g:x.Name ∉ p.Defs.map Def.Name∧60≤p.Defs.length
  ·rw[if_pos g]at h;cases h
  ·rw[if_neg g]at h;cases h
   exact⟨⟨Aq (fun _ _=>rfl) rfl he.1 d g,t,z,r,c,v⟩,⟨qj (P:=fun d:Def=>okE 12 d.Body=true) he.2 bd fun _ _ _=>he.2,bt,bz,br,bc,bv⟩,hr⟩
 |row n x =>
  simp only[app]at h;by_cases g:(n ∉ p.Tables.map Table.Name∧60≤p.Tables.length)∨(x.Name ∉ ((KL.get Table.Name n p.Tables).getD (zT n)).Rows.map Entry.Name∧60≤((KL.get Table.Name n p.Tables).getD (zT n)).Rows.length)
  ·rw[if_pos g]at h;cases h
  ·rw[if_neg g]at h;cases h
   rw[not_or]at g;have hn:(p.Tables.map Table.Name).Nodup:=(JS.1 t).2.2;refine⟨⟨d,Aq (g:=Table.Name) (k:=n) (c:=jx x) (z:=zT n) (fun _ e=>e) rfl he.1 t g.1,z,r,c,v⟩,⟨bd,qj (P:=oS) (zd4 he.2.1 he.2.2 ⟨⟨by simp[zT],rfl⟩,by simp[zT],fun _ h=>by cases h⟩ (by simp[zT])) bt fun y hy e=>?_,bz,br,bc,bv⟩,hr⟩;have hy':=KL.get_mem hn hy;rw[e]at hy';have:=g.2;rw[hy']at this;exact zd4 he.2.1 he.2.2 (bt y hy) this
 |zone x =>
  simp only[app]at h;by_cases g:(x.Name ∉ p.Zones.map zr.Name∧60≤p.Zones.length)∨(∃y,KL.get zr.Name x.Name p.Zones=some y∧y.Overlay≠x.Overlay)
  ·rw[if_pos g]at h;cases h
  ·rw[if_neg g]at h;cases h
   rw[not_or]at g;exact⟨⟨d,t,Aq (fun _ _=>rfl) rfl he.1 z g.1,r,c,v⟩,⟨bd,bt,qj (P:=fun z:zr=>WB z.Corners) he.2 bz fun _ _ _=>he.2,br,bc,bv⟩,hr⟩
 |lim n w =>
  simp only[app]at h
  cases hg:KL.get Cap.Name n p.Caps with
  |none=>rw[hg]at h;cases h
  |some x =>
   rw[hg]at h;cases h;have hx:=KL.uu hg
   have hu:∀y∈p.Caps,y.Name=n→zzo { y with Limit:=w }:=fun y hy _=>⟨(bc y hy).1,he.2,(bc y hy).2.2⟩
   exact⟨⟨d,t,z,r,Aq (g:=Cap.Name) (k:=n) (c:=fun c:Cap=>{ c with Limit:=w }) (fun _ e=>e) hx.1 he.1 c (fun e=>e.1 (AL hg)),v⟩,⟨bd,bt,bz,br,qj (P:=zzo) (hu x hx.2 hx.1) bc hu,bv⟩,hr⟩
def zzp:zK→List Ed→Option zK
 |p,[]=>some p
 |p,e::l=>(app p e).bind fun q=>zzp q l
def kC{α:Type}(g:α→Bool):List α→Option Nat
 |[]=>none
 |x::r=>bif g x then some 0 else(kC g r).map (·+1)
theorem YM{α:Type}(l:List α)(g:α→Bool)(L:Nat→Int→Option (Int⊕Unit))
  (hL:∀K (i:Nat) x,l[i]?=some x→L (K+1) (i:Int)=bif g x then some (.inl (i:Int))else L K ((i+1:Nat):Int)) (hE:∀K,L (K+1) (l.length:Int)=some (.inr ())):
  ∀(r:List α)(i K:Nat),l.drop i=r→i≤l.length→r.length<K→L K (i:Int)=some (match kC g r with|some j=>.inl ((i+j:Nat):Int)|none=>.inr ())
 |[],i,K,hr,hi,hK=>by
  obtain⟨K,rfl⟩:∃k,K=k+1:=⟨K-1,by omega⟩
  have:=drop_nil hr hi
  have e:i=l.length:=by omega
  rw[e,hE];rfl
 |x::r,i,K,hr,hi,hK=>by
  obtain⟨K,rfl⟩:∃k,K=k+1:=⟨K-1,by omega⟩
  obtain⟨h1,h2,h3⟩:=xG hr;simp only[List.length_cons]at hK;rw[hL K i x h1,kC]
  cases g x with
  |true=>rfl
  |false =>
   rw[cond_false,cond_false,YM l g L hL hE r (i+1) K h2 (by omega) (by omega)]
   cases kC g r with
   |none=>rfl
   |some j=>simp only[Option.map_some];congr 3;omega
theorem xW{α:Type}(l:List α)(g:α→Bool)(L:Nat→Int→Option (Int⊕Unit))(hs:l.length≤9223372036854775807)
  (hL:∀K (i:Nat) x,l[i]?=some x→L (K+1) (i:Int)=bif g x then some (.inl (i:Int))else L K ((i+1:Nat):Int)) (hE:∀K,L (K+1) (l.length:Int)=some (.inr ())):
  (L KK 0).bind (z8 some fun _=>some (-1))=some (yC (kC g l)):=by
 rw[show(0:Int)=((0:Nat):Int) from rfl,YM l g L hL hE l 0 KK rfl (Nat.zero_le _) (uU (by omega))]
 cases kC g l with
 |none=>rfl
 |some j=>simp[z8,yC]
theorem uv{α β:Type}{l:List α}{i:Nat}{x:α}(h:l[i]?=some x)(f:α→Option β):((grd (0≤(i:Int)∧(i:Int)<((List.length l:Nat):Int))).bind fun _=>(l[Int.toNat (i:Int)]?).bind f)=f x:=by
 have:=wY h;rw[zN (by omega),Option.bind_some,Int.toNat_natCast,h,Option.bind_some]
theorem zD2{o:Option Nat}:decide (yC o<0)=o.isNone:=by
 cases o with
 |none=>rfl
 |some i=>exact decide_eq_false (by simp only[yC];omega)
theorem zy4{o:Option Nat}:decide (yC o≥0)=o.isSome:=by
 cases o with
 |none=>rfl
 |some i=>exact decide_eq_true (by simp[yC])
theorem Z4{α:Type}{g:α→Bool}:∀{l:List α}{i:Nat},kC g l=some i→∃x,l[i]?=some x∧g x=true
 |x::r,i,h=>by
  rw[kC]at h
  cases hx:g x with
  |true=>rw[hx]at h;cases h;exact⟨x,rfl,hx⟩
  |false =>
   rw[hx,cond_false]at h;obtain⟨j,h1,rfl⟩:=Option.map_eq_some_iff.1 h;obtain⟨y,h2,h3⟩:=Z4 h1;exact⟨y,by simpa using h2,h3⟩
theorem Qu{α:Type}{key:α→List UInt8}{k:List UInt8}:∀{l:List α},(kC (fun x=>decide (key x=k)) l).isSome=decide (k∈l.map key)
 |[]=>by simp[kC]
 |x::r=>by
  rw[kC];by_cases h:key x=k
  ·rw[decide_eq_true h,cond_true];simp[h]
  ·rw[decide_eq_false h,cond_false,Option.isSome_map,Qu]
   exact xV (by simp[Ne.symm h])
theorem Z5{α:Type}{key:α→List UInt8}{k:List UInt8}:∀{l:List α},(kC (fun x=>decide (key x=k)) l).bind (fun i=>l[i]?)=KL.get key k l
 |[]=>rfl
 |x::r=>by
  rw[kC,KL.get];by_cases h:key x=k
  ·rw[decide_eq_true h,cond_true,if_pos h];rfl
  ·rw[decide_eq_false h,cond_false,if_neg h,← Z5]
   cases kC (fun x=>decide (key x=k)) r<;>rfl
def zd5{α:Type}(g:α→Bool)(c:α→α)(z:α):List α→List α
 |[]=>[c z]
 |x::r=>bif g x then c x::r else x::zd5 g c z r
theorem Z6{α:Type}{key:α→List UInt8}{k:List UInt8}{c:α→α}{z:α}:∀{l:List α},zd5 (fun x=>decide (key x=k)) c z l=KL.put key k c z l
 |[]=>rfl
 |x::r=>by
  rw[zd5,KL.put,Z6];by_cases h:key x=k
  ·rw[decide_eq_true h,if_pos h];rfl
  ·rw[decide_eq_false h,if_neg h];rfl
theorem V2{α:Type}{g:α→Bool}{c:α→α}{z:α}:∀{l:List α}{i:Nat}{x:α},kC g l=some i→l[i]?=some x→l.set i (c x)=zd5 g c z l
 |y::r,i,x,h,hx=>by
  rw[kC]at h;rw[zd5]
  cases hy:g y with
  |true=>rw[hy]at h;cases h;cases hx;rfl
  |false =>
   rw[hy,cond_false]at h;obtain⟨j,h1,rfl⟩:=Option.map_eq_some_iff.1 h;rw[cond_false,List.set_cons_succ,V2 h1 (by simpa using hx)]
theorem V3{α:Type}{g:α→Bool}{c:α→α}{z:α}:∀{l:List α},kC g l=none→(l++[z]).set l.length (c z)=zd5 g c z l
 |[],_=>rfl
 |y::r,h=>by
  rw[kC]at h;rw[zd5]
  cases hy:g y with
  |true=>rw[hy]at h;cases h
  |false =>
   rw[hy,cond_false,Option.map_eq_none_iff]at h;rw[cond_false,List.cons_append,List.length_cons,List.set_cons_succ,V3 h]
theorem Z7{α:Type}{a b:List α}(h:a.length=b.length):eqB [(a.length,b.length)]=true:=by
 simp[eqB,h,Nat.beq_refl]
section
variable{α σ:Type}{l:List α}{g:α→Bool}{z:α}{c:α→α}{most bytes:Nat}{m:Int}{Cl:Option (List α)}{Ix:List α→Option Int}{Ap:List α→Int→Option (List α)}
theorem Kv(hm:m=(most:Int))(hs:(l.length+1)*bytes≤140737488355328)(hC:Cl=some l)(hI:Ix l=some (yC (kC g l)))(hA:∀(q:List α)(i:Nat) x,q[i]?=some x→Ap q (i:Int)=some (q.set i (c x))):
  (Cl.bind fun x1=>(Ix x1).bind fun x2=>((bif (decide (x2<0))then(bif (decide (((List.length x1:Nat):Int)≥m))then(grd (eqB []=true)).bind fun _=>some (Sum.inl (([]:List α),(6:Int)))else(grd (List.length (x1++([z]:List α))*bytes≤140737488355328)).bind fun _=>some (Sum.inr (((List.length x1:Nat):Int),(x1++([z]:List α)))))else some (Sum.inr (x2,x1)))).bind (z8 some fun x3=>(grd (0≤x3.1∧x3.1<((List.length x3.2:Nat):Int))).bind fun _=>(Ap x3.2 ((Int.toNat x3.1:Nat):Int)).bind fun x6=>(grd (eqB [(List.length x3.2,List.length x6)]=true)).bind fun _=>some (x6,(0:Int)))) =
   some (bif (kC g l).isNone&&decide (most≤l.length)then([],6)else(zd5 g c z l,0)):=by
 subst hC;rw[Option.bind_some,hI,Option.bind_some,zD2]
 cases hf:kC g l with
 |none =>
  rw[Option.isNone_none,cond_true,Bool.true_and];by_cases h:most≤l.length
  ·rw[decide_eq_true (by omega:((List.length l:Nat):Int)≥m),decide_eq_true h];rfl
  ·rw[decide_eq_false (by omega:¬((List.length l:Nat):Int)≥m),decide_eq_false h,cond_false,cond_false,zN (by simpa using hs),Option.bind_some,Option.bind_some]
   simp only[z8,Int.toNat_natCast];rw[zN (by simp;omega),Option.bind_some,hA (l++[z]) l.length z (by simp),Option.bind_some,zN (Z7 (by simp)),Option.bind_some,V3 hf]
 |some i =>
  obtain⟨x,h1,_⟩:=Z4 hf;have:=wY h1;rw[Option.isNone_some,cond_false,Bool.false_and,cond_false,Option.bind_some]
  show(grd (0≤(i:Int)∧(i:Int)<((List.length l:Nat):Int))).bind (fun _=>(Ap l ((Int.toNat (i:Int):Nat):Int)).bind fun x6=>(grd (eqB [(List.length l,List.length x6)]=true)).bind fun _=>some (x6,(0:Int)))=_
  rw[zN (by omega),Option.bind_some,Int.toNat_natCast,hA l i x h1,Option.bind_some,zN (Z7 (by simp)),Option.bind_some,V2 hf h1]
end
def wk:zb:=⟨[],[],[],0,0,0,false,0,jG,⟨0,0,0,0⟩,0,0,0⟩
theorem ix2{l:List zb}{n:List UInt8}(h:l.length≤9223372036854775807):yn l n=some (yC (kC (fun x=>decide (x.Name=n)) l)) :=
 xW l _ (zC n l ((List.length l:Nat):Int)) h (fun K i x hx=>by rw[zC,vS hx,cond_true,z6 hx,Option.bind_some,zW (by have:=wY hx;omega)];rfl) (fun K=>by rw[zC,yB];rfl)
theorem ix3{l:List zb}(h:l.length≤9223372036854775807):xJ l=some (yC (kC (fun x=>false) l)) :=
 xW l _ (zD l ((List.length l:Nat):Int)) h (fun K i x hx=>by rw[zD,vS hx,cond_true,uv hx,zW (by have:=wY hx;omega)];rfl) (fun K=>by rw[zD,yB];rfl)
theorem ix4{l:List zb}{n:List UInt8}(h:l.length≤9223372036854775807):xK l n=some (yC (kC (fun x=>decide (x.Name=n)) l)) :=
 xW l _ (zE l n ((List.length l:Nat):Int)) h (fun K i x hx=>by rw[zE,vS hx,cond_true,uv hx,zW (by have:=wY hx;omega)];rfl) (fun K=>by rw[zE,yB];rfl)
theorem ix5{l:List Def}{ed:EB}(h:l.length≤9223372036854775807):xL l ed=some (yC (kC (fun x=>decide (x.Name=ed.n)) l)) :=
 xW l _ (zF ed l ((List.length l:Nat):Int)) h (fun K i x hx=>by rw[zF,vS hx,cond_true,uv hx,zW (by have:=wY hx;omega)];rfl) (fun K=>by rw[zF,yB];rfl)
theorem ix6{l:List Table}{ed:EB}(h:l.length≤9223372036854775807):xM l ed=some (yC (kC (fun x=>decide (x.Name=ed.n)) l)) :=
 xW l _ (zG ed l ((List.length l:Nat):Int)) h (fun K i x hx=>by rw[zG,vS hx,cond_true,uv hx,zW (by have:=wY hx;omega)];rfl) (fun K=>by rw[zG,yB];rfl)
theorem ix7{l:List Entry}{ed:EB}(h:l.length≤9223372036854775807):xN l ed=some (yC (kC (fun x=>decide (x.Name=ed.y)) l)) :=
 xW l _ (zH ed l ((List.length l:Nat):Int)) h (fun K i x hx=>by rw[zH,vS hx,cond_true,uv hx,zW (by have:=wY hx;omega)];rfl) (fun K=>by rw[zH,yB];rfl)
theorem ix8{l:List zr}{ed:EB}(h:l.length≤9223372036854775807):xO l ed=some (yC (kC (fun x=>decide (x.Name=ed.n)) l)) :=
 xW l _ (zI ed l ((List.length l:Nat):Int)) h (fun K i x hx=>by rw[zI,vS hx,cond_true,z6 hx,Option.bind_some,zW (by have:=wY hx;omega)];rfl) (fun K=>by rw[zI,yB];rfl)
theorem ix9{l:List zr}{ed:EB}(h:l.length≤9223372036854775807):xP l ed=some (yC (kC (fun x=>decide (x.Name=ed.n)) l)) :=
 xW l _ (zJ ed l ((List.length l:Nat):Int)) h (fun K i x hx=>by rw[zJ,vS hx,cond_true,uv hx,zW (by have:=wY hx;omega)];rfl) (fun K=>by rw[zJ,yB];rfl)
theorem ix11{l:List Cap}{ed:EB}(h:l.length≤9223372036854775807):xr l ed=some (yC (kC (fun x=>decide (x.Name=ed.n)) l)) :=
 xW l _ (zA ed l ((List.length l:Nat):Int)) h (fun K i x hx=>by rw[zA,vS hx,cond_true,uv hx,zW (by have:=wY hx;omega)];rfl) (fun K=>by rw[zA,yB];rfl)
theorem ix10{l:List Cap}{ed:EB}(h:l.length≤9223372036854775807):xq l ed=some (yC (kC (fun x=>decide (x.Name=ed.n)) l)) :=
 xW l _ (zy ed l ((List.length l:Nat):Int)) h (fun K i x hx=>by rw[zy,vS hx,cond_true,z6 hx,Option.bind_some,zW (by have:=wY hx;omega)];rfl) (fun K=>by rw[zy,yB];rfl)
theorem cl2{l:List zb}(h:l.length≤100000):ye l=some l:=by
 unfold ye;rw[List.nil_append,zN (by omega)];rfl
theorem cl3{l:List Def}(h:l.length≤100000):y3 l=some l:=by
 unfold y3;rw[List.nil_append,zN (by omega)];rfl
theorem cl4{l:List Table}(h:l.length≤100000):y4 l=some l:=by
 unfold y4;rw[List.nil_append,zN (by omega)];rfl
theorem cl5{l:List Entry}(h:l.length≤100000):xY l=some l:=by
 unfold xY;rw[List.nil_append,zN (by omega)];rfl
theorem cl6{l:List zr}(h:l.length≤100000):y5 l=some l:=by
 unfold y5;rw[List.nil_append,zN (by omega)];rfl
theorem cl7{l:List Cap}(h:l.length≤100000):y6 l=some l:=by
 unfold y6;rw[List.nil_append,zN (by omega)];rfl
theorem cl8{l:List View}(h:l.length≤100000):xZ l=some l:=by
 unfold xZ;rw[List.nil_append,zN (by omega)];rfl
theorem cl9{l:List zj}(h:l.length≤100000):y7 l=some l:=by
 unfold y7;rw[List.nil_append,zN (by omega)];rfl
theorem cl10{l:List Entry}(h:l.length≤100000):xD l=some l:=by
 unfold xD;rw[List.nil_append,zN (by omega)];rfl
theorem cl11{l:List zu}(h:l.length≤100000):yt l=some l:=by
 unfold yt;rw[List.nil_append,zN (by omega)];rfl
theorem cl12{l:List (List UInt8)}(h:l.length≤100000):yu l=some l:=by
 unfold yu;rw[List.nil_append,zN (by omega)];rfl
theorem put1{l:List zb}{ed:EB}{most:Nat}{m:Int}(hm:m=(most:Int))(h:l.length≤100000):ZH l ed m=some (bif (kC (fun x=>false) l).isNone&&decide (most≤l.length)then([],6)else(zd5 (fun x=>false) (fun x=>⟨ed.r0,ed.r1,ed.r2,ed.r3,ed.r4,ed.r5,ed.r6,ed.r7,⟨ed.r8,ed.r9,ed.r10,ed.r11,ed.r12⟩,⟨ed.r13,ed.r14,ed.r15,ed.r16⟩,ed.r17,ed.r18,ed.r19⟩) wk l,0)):=by
 unfold ZH
 exact Kv (g:=fun x:zb=>false) (c:=fun x:zb=>⟨ed.r0,ed.r1,ed.r2,ed.r3,ed.r4,ed.r5,ed.r6,ed.r7,⟨ed.r8,ed.r9,ed.r10,ed.r11,ed.r12⟩,⟨ed.r13,ed.r14,ed.r15,ed.r16⟩,ed.r17,ed.r18,ed.r19⟩) (z:=(wk:zb)) (bytes:=232) (Ap:=fun q i=>ko q i ed) hm (by omega) (cl2 h) (ix3 (by omega)) (fun q i x hx=>by
  show ko q (i:Int) ed=_
  unfold ko
  rw[Int.toNat_natCast,hx];rfl)
theorem put2{l:List zb}{n:List UInt8}{ed:EB}{most:Nat}{m:Int}(hm:m=(most:Int))(h:l.length≤100000):Jl l n ed m=some (bif (kC (fun x=>decide (x.Name=n)) l).isNone&&decide (most≤l.length)then([],6)else(zd5 (fun x=>decide (x.Name=n)) (fun x=>{ x with Until:=ed.m }) wk l,0)):=by
 unfold Jl
 exact Kv (g:=fun x:zb=>decide (x.Name=n)) (c:=fun x:zb=>{ x with Until:=ed.m }) (z:=(wk:zb)) (bytes:=232) (Ap:=fun q i=>kp q i ed) hm (by omega) (cl2 h) (ix4 (by omega)) (fun q i x hx=>by
  show kp q (i:Int) ed=_
  unfold kp
  rw[Int.toNat_natCast,hx,Option.bind_some,zx])
theorem put3{l:List Def}{ed:EB}{most:Nat}{m:Int}(hm:m=(most:Int))(h:l.length≤100000):Jm l ed m=some (bif (kC (fun x=>decide (x.Name=ed.n)) l).isNone&&decide (most≤l.length)then([],6)else(zd5 (fun x=>decide (x.Name=ed.n)) (fun x=>⟨ed.n,⟨ed.b0,ed.b1,ed.b2,ed.b3,ed.b4⟩⟩) ⟨[],jG⟩ l,0)):=by
 unfold Jm
 exact Kv (g:=fun x:Def=>decide (x.Name=ed.n)) (c:=fun x:Def=>⟨ed.n,⟨ed.b0,ed.b1,ed.b2,ed.b3,ed.b4⟩⟩) (z:=(⟨[],jG⟩:Def)) (bytes:=88) (Ap:=fun q i=>kq q i ed) hm (by omega) (cl3 h) (ix5 (by omega)) (fun q i x hx=>by
  show kq q (i:Int) ed=_
  unfold kq
  rw[Int.toNat_natCast,hx];rfl)
theorem put5{l:List Entry}{ed:EB}{most:Nat}{m:Int}(hm:m=(most:Int))(h:l.length≤100000):ow l ed m=some (bif (kC (fun x=>decide (x.Name=ed.y)) l).isNone&&decide (most≤l.length)then([],6)else(zd5 (fun x=>decide (x.Name=ed.y)) (fun x=>⟨ed.y,ed.m⟩) ⟨[],0⟩ l,0)):=by
 unfold ow
 exact Kv (g:=fun x:Entry=>decide (x.Name=ed.y)) (c:=fun x:Entry=>⟨ed.y,ed.m⟩) (z:=(⟨[],0⟩:Entry)) (bytes:=24) (Ap:=fun q i=>wK q i ed) hm (by omega) (cl5 h) (ix7 (by omega)) (fun q i x hx=>by
  show wK q (i:Int) ed=_
  unfold wK
  rw[Int.toNat_natCast,hx];rfl)
theorem put6{l:List zr}{ed:EB}{most:Nat}{m:Int}(hm:m=(most:Int))(h:l.length≤100000):Jp l ed m=some (bif (kC (fun x=>decide (x.Name=ed.n)) l).isNone&&decide (most≤l.length)then([],6)else(zd5 (fun x=>decide (x.Name=ed.n)) (fun x=>⟨ed.n,decide (ed.m=1),ed.c⟩) ⟨[],false,[]⟩ l,0)):=by
 unfold Jp
 exact Kv (g:=fun x:zr=>decide (x.Name=ed.n)) (c:=fun x:zr=>⟨ed.n,decide (ed.m=1),ed.c⟩) (z:=(⟨[],false,[]⟩:zr)) (bytes:=48) (Ap:=fun q i=>vA q i ed) hm (by omega) (cl6 h) (ix9 (by omega)) (fun q i x hx=>by
  show vA q (i:Int) ed=_
  unfold vA
  rw[Int.toNat_natCast,hx];rfl)
theorem put7{l:List Cap}{ed:EB}{most:Nat}{m:Int}(hm:m=(most:Int))(h:l.length≤100000):Jq l ed m=some (bif (kC (fun x=>decide (x.Name=ed.n)) l).isNone&&decide (most≤l.length)then([],6)else(zd5 (fun x=>decide (x.Name=ed.n)) (fun x=>{ x with Limit:=ed.m }) ⟨[],0,0,[]⟩ l,0)):=by
 unfold Jq
 exact Kv (g:=fun x:Cap=>decide (x.Name=ed.n)) (c:=fun x:Cap=>{ x with Limit:=ed.m }) (z:=(⟨[],0,0,[]⟩:Cap)) (bytes:=56) (Ap:=fun q i=>vB q i ed) hm (by omega) (cl7 h) (ix11 (by omega)) (fun q i x hx=>by
  show vB q (i:Int) ed=_
  unfold vB
  rw[Int.toNat_natCast,hx];rfl)
def enc:Ed→zq
 |.rule r=>⟨0,[],[],0,r,jG,[]⟩
 |.fin n d=>⟨1,n,[],d,wk,jG,[]⟩
 |.dfn d=>⟨2,d.Name,[],0,wk,d.Body,[]⟩
 |.row n x=>⟨3,n,x.Name,x.N,wk,jG,[]⟩
 |.zone z=>⟨4,z.Name,[],bif z.Overlay then 1 else 0,wk,jG,z.Corners⟩
 |.lim n v=>⟨5,n,[],v,wk,jG,[]⟩
def oU(p:zK):Ed→Int
 |.rule r=>if r.Name∈p.Rules.map zb.Name then 5 else if 200≤p.Rules.length then 6 else 0
 |.fin n d=>match KL.get zb.Name n p.Rules with
  |none=>4
  |some r=>if d≤r.From then 20 else 0
 |.dfn d=>if d.Name ∉ p.Defs.map Def.Name∧60≤p.Defs.length then 6 else 0
 |.row n x=>if(n ∉ p.Tables.map Table.Name∧60≤p.Tables.length)∨(x.Name ∉ ((KL.get Table.Name n p.Tables).getD (zT n)).Rows.map Entry.Name∧60≤((KL.get Table.Name n p.Tables).getD (zT n)).Rows.length)then 6 else 0
 |.zone z=>if(∃y,KL.get zr.Name z.Name p.Zones=some y∧y.Overlay≠z.Overlay)then 17 else if z.Name ∉ p.Zones.map zr.Name∧60≤p.Zones.length then 6 else 0
 |.lim n _=>match KL.get Cap.Name n p.Caps with
  |none=>4
  |some _=>0
theorem Z8{p:zK}{e:Ed}:(app p e).isSome=true↔oU p e=0:=by
 cases e with
 |rule r =>
  simp only[app,oU];by_cases h1:r.Name∈p.Rules.map zb.Name
  ·rw[if_pos (.inl h1),if_pos h1];simp
  ·by_cases h2:200≤p.Rules.length
   ·rw[if_pos (.inr h2),if_neg h1,if_pos h2];simp
   ·rw[if_neg (fun h=>h.elim h1 h2),if_neg h1,if_neg h2];simp
 |fin n d =>
  simp only[app,oU]
  cases KL.get zb.Name n p.Rules with
  |none=>simp
  |some r =>
   dsimp only;by_cases h:d≤r.From
   ·rw[if_pos h,if_pos h];simp
   ·rw[if_neg h,if_neg h];simp
 |dfn d =>
  simp only[app,oU];by_cases h:d.Name ∉ p.Defs.map Def.Name∧60≤p.Defs.length
  ·rw[if_pos h,if_pos h];simp
  ·rw[if_neg h,if_neg h];simp
 |row n x =>
  simp only[app,oU];by_cases h:(n ∉ p.Tables.map Table.Name∧60≤p.Tables.length)∨(x.Name ∉ ((KL.get Table.Name n p.Tables).getD (zT n)).Rows.map Entry.Name∧60≤((KL.get Table.Name n p.Tables).getD (zT n)).Rows.length)
  ·rw[if_pos h,if_pos h];simp
  ·rw[if_neg h,if_neg h];simp
 |zone z =>
  simp only[app,oU];by_cases h1:∃y,KL.get zr.Name z.Name p.Zones=some y∧y.Overlay≠z.Overlay
  ·rw[if_pos (.inr h1),if_pos h1];simp
  ·by_cases h2:z.Name ∉ p.Zones.map zr.Name∧60≤p.Zones.length
   ·rw[if_pos (.inl h2),if_neg h1,if_pos h2];simp
   ·rw[if_neg (fun h=>h.elim h2 h1),if_neg h1,if_neg h2];simp
 |lim n v =>
  simp only[app,oU];cases KL.get Cap.Name n p.Caps<;>simp
def fp(c:Int)(q:zK):Int×(List Def)×(List Table)×(List zr)×(List zb)×(List Cap)×(List View)×(List zj)×Int:=(c,q.Defs,q.Tables,q.Zones,q.Rules,q.Caps,q.Views,q.Sun,q.Hours)
structure zy5(p:zK):Prop where
 d:p.Defs.length≤100000
 t:p.Tables.length≤100000
 z:p.Zones.length≤100000
 r:p.Rules.length≤100000
 c:p.Caps.length≤100000
 rows:∀t∈p.Tables,t.Rows.length≤100000
theorem ziv{α:Type}{key:α→List UInt8}{k:List UInt8}{l:List α}:(kC (fun x=>decide (key x=k)) l).isNone=decide (k ∉ l.map key):=by
 have:=Qu (key:=key) (k:=k) (l:=l)
 cases h:kC (fun x=>decide (key x=k)) l with
 |none=>rw[h]at this;rw[decide_eq_true (of_decide_eq_false this.symm)];rfl
 |some i=>rw[h]at this;rw[decide_eq_false (fun g=>g (of_decide_eq_true this.symm))];rfl
theorem YN{α:Type}:∀{l:List α},kC (fun _=>false) l=none
 |[]=>rfl
 |x::r=>by rw[kC,cond_false,YN];rfl
theorem YO{α:Type}{c:α→α}{z:α}:∀{l:List α},zd5 (fun _=>false) c z l=l++[c z]
 |[]=>rfl
 |x::r=>by rw[zd5,cond_false,YO];rfl
theorem zy6{p q:Prop}[Decidable p][Decidable q]:(decide p&&decide q)=decide (p∧q):=by
 by_cases hp:p<;>by_cases hq:q<;>simp[hp,hq]
theorem V4{α:Type}{key:α→List UInt8}{k:List UInt8}{c:α→α}{z:α}{most:Nat}{l:List α}:(bif (kC (fun x=>decide (key x=k)) l).isNone&&decide (most≤l.length)then(([]:List α),(6:Int))else(zd5 (fun x=>decide (key x=k)) c z l,0))=if k ∉ l.map key∧most≤l.length then([],6)else(KL.put key k c z l,0):=by
 rw[ziv,zy6,Z6];by_cases h:k ∉ l.map key∧most≤l.length
 ·rw[decide_eq_true h,if_pos h];rfl
 ·rw[decide_eq_false h,if_neg h];rfl
theorem zp9{α:Type}[Inhabited α]{β:Type}{key:α→List UInt8}{k:List UInt8}{l:List α}{f:α→β}{b:β}:(bif decide (yC (kC (fun x=>decide (key x=k)) l)≥0)then(idx l (yC (kC (fun x=>decide (key x=k)) l))).bind fun x=>some (f x)else some b)=some (((KL.get key k l).map f).getD b):=by
 rw[zy4,← Z5]
 cases h:kC (fun x=>decide (key x=k)) l with
 |none=>rfl
 |some i =>
  obtain⟨x,h1,_⟩:=Z4 h;rw[Option.isSome_some,cond_true,Option.bind_some,h1,yC,z6 h1,Option.bind_some];rfl
theorem has2{l:List zb}{n:List UInt8}(h:l.length≤9223372036854775807):zO l n=some (decide (n∈l.map zb.Name)):=by
 unfold zO;rw[ix2 h,Option.bind_some,zy4,Qu]
theorem has3{l:List Cap}{ed:EB}(h:l.length≤9223372036854775807):z7 l ed=some (decide (ed.n∈l.map Cap.Name)):=by
 unfold z7;rw[ix10 h,Option.bind_some,zy4,Qu]
theorem get_some{α:Type}{key:α→List UInt8}{k:List UInt8}{l:List α}:(KL.get key k l).isSome=decide (k∈l.map key):=by
 cases h:KL.get key k l with
 |none=>rw[decide_eq_false (KL.get_none.1 h)];rfl
 |some x=>rw[decide_eq_true (AL h)];rfl
theorem kB{α:Type}{key:α→List UInt8}{k:List UInt8}{c:α→α}{z z':α}:∀{l:List α},k∈l.map key→KL.put key k c z l=KL.put key k c z' l
 |[],h=>by cases h
 |x::r,h=>by
  rw[KL.put,KL.put];by_cases e:key x=k
  ·rw[if_pos e,if_pos e]
  ·rw[if_neg e,if_neg e,kB (by
    rw[List.map_cons,List.mem_cons]at h
    exact h.resolve_left (Ne.symm e))]
theorem zD3{l:List zb}{n:List UInt8}{ed:EB}(h:l.length≤100000):kP l n ed=some (match KL.get zb.Name n l with|none=>([],4)|some r=>(KL.put zb.Name n (fun x=>{ x with Until:=ed.m }) r l,0)):=by
 unfold kP;rw[has2 (by omega),Option.bind_some,← get_some]
 cases hg:KL.get zb.Name n l with
 |none=>rfl
 |some r =>
  have hin:=AL hg;rw[Option.isSome_some,Bool.not_true,cond_false,put2 (most:=l.length) rfl h,V4,if_neg (fun e=>e.1 hin),Option.bind_some]
  congr 3
  exact kB hin
theorem zD4{l:List Cap}{ed:EB}(h:l.length≤100000):vu l ed=some (match KL.get Cap.Name ed.n l with|none=>([],4)|some r=>(KL.put Cap.Name ed.n (fun x=>{ x with Limit:=ed.m }) r l,0)):=by
 unfold vu;rw[has3 (by omega),Option.bind_some,← get_some]
 cases hg:KL.get Cap.Name ed.n l with
 |none=>rfl
 |some r =>
  have hin:=AL hg;rw[Option.isSome_some,Bool.not_true,cond_false,put7 (most:=l.length) rfl h,V4,if_neg (fun e=>e.1 hin),Option.bind_some]
  congr 3
  exact kB hin
theorem qO{α:Type}{key:α→List UInt8}{k:List UInt8}{c c':α→α}{z z':α}(hz:c z=c' z'):∀{l:List α},(∀x,KL.get key k l=some x→c x=c' x)→KL.put key k c z l=KL.put key k c' z' l
 |[],_=>by rw[KL.put,KL.put,hz]
 |x::r,h=>by
  rw[KL.put,KL.put];by_cases e:key x=k
  ·rw[if_pos e,if_pos e,h x (by rw[KL.get,if_pos e])]
  ·rw[if_neg e,if_neg e,qO hz fun y hy=>h y (by rw[KL.get,if_neg e];exact hy)]
def V5(y:List UInt8)(m:Int)(l:List Entry):List Entry×Int:=if y ∉ l.map Entry.Name∧60≤l.length then([],6)else(KL.put Entry.Name y (fun _=>⟨y,m⟩) ⟨[],0⟩ l,0)
theorem put5'{l:List Entry}{ed:EB}(h:l.length≤100000):ow l ed 60=some (V5 ed.y ed.m l):=by
 rw[put5 (m:=60) (most:=60) rfl h,V4];rfl
theorem ap8{q:List Table}{i:Nat}{x:Table}{ed:EB}{t:Int}(hx:q[i]?=some x)(h:x.Rows.length≤100000):kr q (i:Int) ed t=some (q.set i ⟨ed.n,(V5 ed.y ed.m x.Rows).1,x.Else⟩,(V5 ed.y ed.m x.Rows).2):=by
 have hl:=wY hx;unfold kr;rw[Int.toNat_natCast,hx,Option.bind_some,List.getElem?_set_self hl,Option.bind_some,put5' h,Option.bind_some,Option.bind_some,List.set_set]
theorem put4{l:List Table}{ed:EB}(h:l.length≤100000)(hr:∀t∈l,t.Rows.length≤100000):
  Jo l ed 0 60=some (if ed.n ∉ l.map Table.Name∧60≤l.length then([],6,0)else(KL.put Table.Name ed.n (fun x=>⟨ed.n,(V5 ed.y ed.m x.Rows).1,x.Else⟩) ⟨[],[],0⟩ l,0,(V5 ed.y ed.m ((KL.get Table.Name ed.n l).getD ⟨[],[],0⟩).Rows).2)):=by
 unfold Jo;rw[cl4 h,Option.bind_some,ix6 (by omega),Option.bind_some,zD2,← Z5,← Z6]
 cases hf:kC (fun x:Table=>decide (x.Name=ed.n)) l with
 |none =>
  have hk:ed.n ∉ l.map Table.Name:=by
   have:=ziv (key:=Table.Name) (k:=ed.n) (l:=l);rw[hf]at this;exact of_decide_eq_true this.symm
  rw[Option.isNone_none,cond_true];by_cases h6:60≤l.length
  ·rw[decide_eq_true (by omega:((List.length l:Nat):Int)≥60),if_pos ⟨hk,h6⟩];rfl
  ·rw[decide_eq_false (by omega:¬((List.length l:Nat):Int)≥60),if_neg (fun e=>h6 e.2),cond_false,zN (by simp;omega),Option.bind_some,Option.bind_some]
   simp only[z8,Int.toNat_natCast];rw[zN (by simp;omega),Option.bind_some,ap8 (q:=l++[(⟨[],[],0⟩:Table)]) (i:=l.length) (x:=(⟨[],[],0⟩:Table)) (by simp) (by simp),Option.bind_some,zN (Z7 (by simp)),Option.bind_some];rw[← V3 hf];rfl
 |some i =>
  obtain⟨x,h1,h2⟩:=Z4 hf;have:=wY h1;have hk:ed.n∈l.map Table.Name:=List.mem_map.2 ⟨x,List.mem_of_getElem? h1,of_decide_eq_true h2⟩;rw[Option.isNone_some,cond_false,Option.bind_some,if_neg (fun e=>e.1 hk),Option.bind_some,h1]
  show(grd (0≤(i:Int)∧(i:Int)<((List.length l:Nat):Int))).bind (fun _=>(kr l ((Int.toNat (i:Int):Nat):Int) ed 0).bind fun x6=>(grd (eqB [(List.length l,List.length x6.1)]=true)).bind fun _=>some (x6.1,(0:Int),x6.2))=_
  rw[zN (by omega),Option.bind_some,Int.toNat_natCast,ap8 h1 (hr x (List.mem_of_getElem? h1)),Option.bind_some,zN (Z7 (by simp)),Option.bind_some,← V2 hf h1];rfl
theorem zy7{p:zK}{d:Ed}(h:zy5 p):∃q,yd p (enc d)=some (fp (oU p d) q)∧∀r,app p d=some r→q=r:=by
 cases d with
 |rule r =>
  show ∃q,yd p (⟨0,[],[],0,r,jG,[]⟩:zq)=_∧_
  unfold yd;dsimp only;simp only[decide_true,cond_true,vh,Option.bind_some];rw[has2 (by have:=h.r;omega),Option.bind_some,put1 (m:=200) (most:=200) rfl h.r,YN,Option.isNone_none,Bool.true_and,YO];simp only[app,oU];by_cases h1:r.Name∈p.Rules.map zb.Name
  ·rw[decide_eq_true h1,if_pos h1]
   exact⟨p,rfl,fun q hq=>by rw[if_pos (.inl h1)]at hq;cases hq⟩
  ·rw[decide_eq_false h1,if_neg h1]
   by_cases h2:200≤p.Rules.length
   ·rw[decide_eq_true h2,if_pos h2]
    exact⟨{ p with Rules:=[] },rfl,fun q hq=>by rw[if_pos (.inr h2)]at hq;cases hq⟩
   ·rw[decide_eq_false h2,if_neg h2,if_neg (fun e=>e.elim h1 h2)]
    exact⟨{ p with Rules:=p.Rules++[r] },by
     obtain⟨a1,a2,a3,a4,a5,a6,a7,a8,⟨b1,b2,b3,b4,b5⟩,a10,a11,a12,a13⟩:=r
     rfl,fun q hq=>Option.some.inj hq⟩
 |fin n d =>
  show ∃q,yd p (⟨1,n,[],d,wk,jG,[]⟩:zq)=_∧_
  unfold yd;dsimp only;simp only[Int.reduceEq,decide_true,decide_false,cond_true,cond_false,vh,Option.bind_some];rw[ix2 (by have:=h.r;omega),Option.bind_some,zp9 (key:=zb.Name) (k:=n) (l:=p.Rules) (b:=false) (f:=fun x8:zb=>decide (d≤x8.From)),Option.bind_some,zD3 h.r,Option.bind_some];simp only[app,oU]
  cases hg:KL.get zb.Name n p.Rules with
  |none=>exact⟨{ p with Rules:=[] },rfl,fun q hq=>by cases hq⟩
  |some r =>
   dsimp only[Option.map_some,Option.getD_some];by_cases h1:d≤r.From
   ·rw[decide_eq_true h1,if_pos h1,if_pos h1]
    exact⟨p,rfl,fun q hq=>by cases hq⟩
   ·rw[decide_eq_false h1,if_neg h1,if_neg h1]
    exact⟨_,rfl,fun q hq=>Option.some.inj hq⟩
 |dfn d =>
  show ∃q,yd p (⟨2,d.Name,[],0,wk,d.Body,[]⟩:zq)=_∧_
  unfold yd;dsimp only;simp only[Int.reduceEq,decide_true,decide_false,cond_true,cond_false];rw[put3 (m:=60) (most:=60) rfl h.d,V4,Option.bind_some];simp only[app,oU];by_cases h1:d.Name ∉ p.Defs.map Def.Name∧60≤p.Defs.length
  ·rw[if_pos h1,if_pos h1,if_pos h1]
   exact⟨{ p with Defs:=[] },rfl,fun q hq=>by cases hq⟩
  ·rw[if_neg h1,if_neg h1,if_neg h1]
   refine⟨{ p with Defs:=KL.put Def.Name d.Name (fun _=>d) d p.Defs },?_,fun q hq=>Option.some.inj hq⟩
   have hd:(⟨d.Name,⟨d.Body.Op,d.Body.N,d.Body.S,d.Body.Key,d.Body.Args⟩⟩:Def)=d:=by rw[zx]
   simp only[hd];rw[qO (c':=fun _=>d) (z':=d) rfl fun _ _=>rfl];rfl
 |row n x =>
  show ∃q,yd p (⟨3,n,x.Name,x.N,wk,jG,[]⟩:zq)=_∧_
  unfold yd;dsimp only;simp only[Int.reduceEq,decide_true,decide_false,cond_true,cond_false];rw[put4 h.t h.rows,Option.bind_some];simp only[app,oU];by_cases h1:n ∉ p.Tables.map Table.Name∧60≤p.Tables.length
  ·rw[if_pos h1,if_pos (.inl h1),if_pos (.inl h1)]
   exact⟨{ p with Tables:=[] },rfl,fun q hq=>by cases hq⟩
  ·rw[if_neg h1]
   have hget:((KL.get Table.Name n p.Tables).getD ⟨[],[],0⟩).Rows=((KL.get Table.Name n p.Tables).getD (zT n)).Rows:=by
    cases KL.get Table.Name n p.Tables<;>rfl
   by_cases h2:x.Name ∉ ((KL.get Table.Name n p.Tables).getD (zT n)).Rows.map Entry.Name∧60≤((KL.get Table.Name n p.Tables).getD (zT n)).Rows.length
   ·rw[if_pos (.inr h2),if_pos (.inr h2)]
    simp only[hget,V5,if_pos h2];exact⟨{ p with Tables:=_ },rfl,fun q hq=>by cases hq⟩
   ·rw[if_neg (fun e=>e.elim h1 h2),if_neg (fun e=>e.elim h1 h2)]
    refine⟨{ p with Tables:=KL.put Table.Name n (jx x) (zT n) p.Tables },?_,fun q hq=>Option.some.inj hq⟩
    have e2:(V5 x.Name x.N ((KL.get Table.Name n p.Tables).getD (zT n)).Rows).2=0:=by
     unfold V5;rw[if_neg h2]
    simp only[hget];rw[e2]
    show some (max 0 0,p.Defs,KL.put Table.Name n (fun y:Table=>(⟨n,(V5 x.Name x.N y.Rows).1,y.Else⟩:Table)) ⟨[],[],0⟩ p.Tables,p.Zones,p.Rules,p.Caps,p.Views,p.Sun,p.Hours)=some (0,p.Defs,KL.put Table.Name n (jx x) (zT n) p.Tables,p.Zones,p.Rules,p.Caps,p.Views,p.Sun,p.Hours)
    rw[qO (c':=jx x) (z':=zT n) ?_ ?_]
    ·rfl
    ·unfold V5
     rw[if_neg (by simp)];rfl
    ·intro y hg
     have hy:=(KL.uu hg).1;rw[hg]at h2;have h2:¬(x.Name ∉ y.Rows.map Entry.Name∧60≤y.Rows.length):=h2;unfold V5 jx;rw[if_neg h2];obtain⟨a,b,c⟩:=y;dsimp only at hy;subst hy
     show(⟨a,KL.put Entry.Name x.Name (fun _=>x) ⟨[],0⟩ b,c⟩:Table)=⟨a,KL.put Entry.Name x.Name (fun _=>x) x b,c⟩
     rw[qO (c':=fun _=>x) (z':=x) rfl fun _ _=>rfl]
 |zone z =>
  show ∃q,yd p (⟨4,z.Name,[],bif z.Overlay then 1 else 0,wk,jG,z.Corners⟩:zq)=_∧_
  unfold yd;dsimp only
  have ho:decide ((bif z.Overlay then(1:Int)else 0)=1)=z.Overlay:=by cases z.Overlay<;>rfl
  simp only[Int.reduceEq,decide_true,decide_false,cond_true,cond_false,ho];rw[ix8 (by have:=h.z;omega),Option.bind_some,zp9 (key:=zr.Name) (k:=z.Name) (l:=p.Zones) (b:=false) (f:=fun x:zr=>!(x.Overlay==z.Overlay)),Option.bind_some,put6 (m:=60) (most:=60) rfl h.z,V4];simp only[app,oU];by_cases h1:∃y,KL.get zr.Name z.Name p.Zones=some y∧y.Overlay≠z.Overlay
  ·rw[if_pos h1,if_pos (Or.inr h1)]
   obtain⟨y,hg,hy⟩:=h1
   have:(y.Overlay==z.Overlay)=false:=by simpa using hy
   rw[hg,Option.map_some,Option.getD_some,this];exact⟨p,rfl,fun q hq=>by cases hq⟩
  ·have:((KL.get zr.Name z.Name p.Zones).map fun x:zr=>!(x.Overlay==z.Overlay)).getD false=false:=by
    cases hg:KL.get zr.Name z.Name p.Zones with
    |none=>rfl
    |some y =>
     have:y.Overlay=z.Overlay:=Classical.byContradiction fun e=>h1 ⟨y,hg,e⟩
     simp[this]
   rw[this,if_neg h1,cond_false];by_cases h2:z.Name ∉ p.Zones.map zr.Name∧60≤p.Zones.length
   ·rw[if_pos h2,if_pos h2,if_pos (Or.inl h2)]
    exact⟨{ p with Zones:=[] },rfl,fun q hq=>by cases hq⟩
   ·rw[if_neg h2,if_neg h2,if_neg (fun e=>e.elim h2 h1)]
    refine⟨{ p with Zones:=KL.put zr.Name z.Name (fun _=>z) z p.Zones },?_,fun q hq=>Option.some.inj hq⟩;simp only[ho];rw[qO (c':=fun _=>z) (z':=z) rfl fun _ _=>rfl];rfl
 |lim n v =>
  show ∃q,yd p (⟨5,n,[],v,wk,jG,[]⟩:zq)=_∧_
  unfold yd;dsimp only;simp only[Int.reduceEq,decide_true,decide_false,cond_true,cond_false];rw[zD4 h.c,Option.bind_some];simp only[app,oU]
  cases hg:KL.get Cap.Name n p.Caps with
  |none=>exact⟨{ p with Caps:=[] },rfl,fun q hq=>by cases hq⟩
  |some c=>exact⟨_,rfl,fun q hq=>Option.some.inj hq⟩
theorem ziw{α:Type}(l:List α)(L:Nat→(Int×List α)→Option (List α))(hL:∀K (i:Nat) x,l[i]?=some x→L (K+1) ((i:Int),l)=L K (((i+1:Nat):Int),l))(hE:∀K,L (K+1) ((l.length:Int),l)=some l):
  ∀(r:List α)(i K:Nat),l.drop i=r→i≤l.length→r.length<K→L K ((i:Int),l)=some l
 |[],i,K,hr,hi,hK=>by
  obtain⟨K,rfl⟩:∃k,K=k+1:=⟨K-1,by omega⟩
  have:=drop_nil hr hi
  have e:i=l.length:=by omega
  rw[e,hE]
 |x::r,i,K,hr,hi,hK=>by
  obtain⟨K,rfl⟩:∃k,K=k+1:=⟨K-1,by omega⟩
  obtain⟨h1,h2,h3⟩:=xG hr;simp only[List.length_cons]at hK;rw[hL K i x h1,ziw l L hL hE r (i+1) K h2 (by omega) (by omega)]
theorem Kw{α:Type}(l:List α)(L:Nat→(Int×List α)→Option (List α))(hs:l.length≤100000)(hL:∀K (i:Nat) x,l[i]?=some x→L (K+1) ((i:Int),l)=L K (((i+1:Nat):Int),l))(hE:∀K,L (K+1) ((l.length:Int),l)=some l):L KK (0,l)=some l :=
 ziw l L hL hE l 0 KK rfl (Nat.zero_le _) (uU (by omega))
theorem uw{α:Type}:∀{l:List α}{i:Nat}{x:α},l[i]?=some x→l.set i x=l
 |y::r,0,x,h=>by cases h;rfl
 |y::r,i+1,x,h=>by rw[List.set_cons_succ,uw (by simpa using h)]
def flE(e:Expr):Int×Int×(List UInt8)×(List UInt8)×(List Expr):=(e.Op,e.N,e.S,e.Key,e.Args)
theorem zu2{R:Expr→Option (Int×Int×(List UInt8)×(List UInt8)×(List Expr))}{l:List Expr}{c2 c3 c6:Int}{c4 c5 c7:List UInt8}{c8:List Expr}(hl:l.length≤1000000000)(hR:∀x∈l,R x=some (flE x)):
  ∀(r:List Expr)(i K:Nat),l.drop i=r→i≤l.length→r.length<K→xd R l ((List.length l:Nat):Int) c2 c3 c4 c5 c6 c7 c8 K ((i:Int),l.take i)=some l
 |[],i,K,hr,hi,hK=>by
  obtain⟨K,rfl⟩:∃k,K=k+1:=⟨K-1,by omega⟩
  have:=drop_nil hr hi
  have e:i=l.length:=by omega
  rw[xd];simp only[e,yB,cond_false,List.take_length]
 |x::r,i,K,hr,hi,hK=>by
  obtain⟨K,rfl⟩:∃k,K=k+1:=⟨K-1,by omega⟩
  obtain⟨h1,h2,h3⟩:=xG hr;simp only[List.length_cons]at hK;rw[xd];simp only[vS h1,cond_true,z6 h1,Option.bind_some,zx,hR x (List.mem_of_getElem? h1),flE]
  have e:l.take i++[x]=l.take (i+1):=by
   rw[List.take_succ,h1];rfl
  rw[e,zN (by rw[List.length_take];omega),Option.bind_some,zW (by omega),zu2 hl hR r (i+1) K h2 (by omega) (by omega)]
theorem ownE:∀(n:Nat)(e:Expr)(K:Nat),K2 e≤n→n≤K→n≤1000000000→yW K e=some (flE e):=by
 intro n
 induction n with
 |zero=>intro e K h;have:=zgd e;omega
 |succ n ih =>
  intro e K h hK hn
  obtain⟨K,rfl⟩:∃k,K=k+1:=⟨K-1,by omega⟩
  obtain⟨o,m,s,k,az⟩:=e;rw[K2]at h;have hz:=Qr az;rw[yW];have:=zu2 (R:=yW K) (l:=az) (c2:=o) (c3:=m) (c6:=0) (c4:=s) (c5:=k) (c7:=[]) (c8:=[]) (by omega) (fun x hx=>ih x K (by have:=Qs hx;omega) (by omega) (by omega)) az 0 KK rfl (Nat.zero_le _) (uU (by omega));rw[List.take_zero]at this;rw[show((0:Int),([]:List Expr))=(((0:Nat):Int),[]) from rfl,this];rfl
theorem zD5{e:Expr}(h:qM e):yW KK e=some (flE e):=ownE 1000000000 e KK h (Nat.le_of_lt (uU (by omega))) (by omega)
structure OwnP(p:zK):Prop where
 lens:zy5 p
 v:p.Views.length≤100000
 s:p.Sun.length≤100000
 ds:∀x∈p.Defs,qM x.Body
 zs:∀x∈p.Zones,x.Corners.length≤100000
 rs:∀x∈p.Rules,x.Zones.length≤100000∧x.Except.length≤100000∧qM x.Test
 cs:∀x∈p.Caps,x.Corners.length≤100000
 vs:∀x∈p.Views,x.Targets.length≤100000
theorem zD6{c1:(List zj)}{c2:Int}{c3:(List zj)}{c4:Int}{c5:(List Table)}{c6:(List zr)}{c7:(List zb)}{c8:(List Cap)}{c9:(List View)}{c10:(List Def)}{c11:(List Table)}{c12:(List zr)}{c13:(List zb)}{c14:(List Cap)}{c15:(List View)}{l:List Def}(hl:l.length≤100000)(hb:∀x∈l,qM x.Body):jU ((List.length l:Nat):Int) c1 c2 c3 c4 c5 c6 c7 c8 c9 c10 c11 c12 c13 c14 c15 KK (0,l)=some l:=by
 refine Kw l _ hl (fun K i x hx=>?_) (fun K=>by rw[jU];simp only[yB,cond_false])
 ·rw[jU]
  have hlt:=wY hx
  have hg:(0:Int)≤(i:Int)∧(i:Int)<((List.length l:Nat):Int):=by omega
  simp only[vS hx,cond_true,zN hg,hx,Int.toNat_natCast,Option.bind_some,zD5 (hb x (List.mem_of_getElem? hx)),flE,zx];rw[uw hx,zW (by omega)]
theorem zD7{c1:(List zj)}{c2:Int}{c3:(List zj)}{c4:Int}{c5:(List Def)}{c6:(List zr)}{c7:(List zb)}{c8:(List Cap)}{c9:(List View)}{c10:(List Def)}{c11:(List Table)}{c12:(List zr)}{c13:(List zb)}{c14:(List Cap)}{c15:(List View)}{l:List Table}(hl:l.length≤100000)(hb:∀x∈l,x.Rows.length≤100000):jV ((List.length l:Nat):Int) c1 c2 c3 c4 c5 c6 c7 c8 c9 c10 c11 c12 c13 c14 c15 KK (0,l)=some l:=by
 refine Kw l _ hl (fun K i x hx=>?_) (fun K=>by rw[jV];simp only[yB,cond_false])
 ·rw[jV]
  have hlt:=wY hx
  have hg:(0:Int)≤(i:Int)∧(i:Int)<((List.length l:Nat):Int):=by omega
  simp only[vS hx,cond_true,zN hg,hx,Int.toNat_natCast,Option.bind_some,cl10 (hb x (List.mem_of_getElem? hx)),flE,zx];rw[uw hx,zW (by omega)]
theorem zD8{c1:(List zj)}{c2:Int}{c3:(List zj)}{c4:Int}{c5:(List Def)}{c6:(List Table)}{c7:(List zb)}{c8:(List Cap)}{c9:(List View)}{c10:(List Def)}{c11:(List Table)}{c12:(List zr)}{c13:(List zb)}{c14:(List Cap)}{c15:(List View)}{l:List zr}(hl:l.length≤100000)(hb:∀x∈l,x.Corners.length≤100000):jW ((List.length l:Nat):Int) c1 c2 c3 c4 c5 c6 c7 c8 c9 c10 c11 c12 c13 c14 c15 KK (0,l)=some l:=by
 refine Kw l _ hl (fun K i x hx=>?_) (fun K=>by rw[jW];simp only[yB,cond_false])
 ·rw[jW]
  have hlt:=wY hx
  have hg:(0:Int)≤(i:Int)∧(i:Int)<((List.length l:Nat):Int):=by omega
  simp only[vS hx,cond_true,zN hg,hx,Int.toNat_natCast,Option.bind_some,cl11 (hb x (List.mem_of_getElem? hx)),flE,zx];rw[uw hx,zW (by omega)]
theorem zD9{c1:(List zj)}{c2:Int}{c3:(List zj)}{c4:Int}{c5:(List Def)}{c6:(List Table)}{c7:(List zr)}{c8:(List Cap)}{c9:(List View)}{c10:(List Def)}{c11:(List Table)}{c12:(List zr)}{c13:(List zb)}{c14:(List Cap)}{c15:(List View)}{l:List zb}(hl:l.length≤100000)(hb:∀x∈l,x.Zones.length≤100000∧x.Except.length≤100000∧qM x.Test):jX ((List.length l:Nat):Int) c1 c2 c3 c4 c5 c6 c7 c8 c9 c10 c11 c12 c13 c14 c15 KK (0,l)=some l:=by
 refine Kw l _ hl (fun K i x hx=>?_) (fun K=>by rw[jX];simp only[yB,cond_false])
 ·rw[jX]
  have hr:=hb x (List.mem_of_getElem? hx);have hlt:=wY hx
  have hg:(0:Int)≤(i:Int)∧(i:Int)<((List.length l:Nat):Int):=by omega
  simp only[vS hx,cond_true,zN hg,hx,Int.toNat_natCast,Option.bind_some,cl12 hr.1,cl12 hr.2.1,zx,zD5 hr.2.2,flE];simp only[uw hx,hx,zN hg,Option.bind_some];rw[zW (by omega)]
theorem zEa{c1:(List zj)}{c2:Int}{c3:(List zj)}{c4:Int}{c5:(List Def)}{c6:(List Table)}{c7:(List zr)}{c8:(List zb)}{c9:(List View)}{c10:(List Def)}{c11:(List Table)}{c12:(List zr)}{c13:(List zb)}{c14:(List Cap)}{c15:(List View)}{l:List Cap}(hl:l.length≤100000)(hb:∀x∈l,x.Corners.length≤100000):jY ((List.length l:Nat):Int) c1 c2 c3 c4 c5 c6 c7 c8 c9 c10 c11 c12 c13 c14 c15 KK (0,l)=some l:=by
 refine Kw l _ hl (fun K i x hx=>?_) (fun K=>by rw[jY];simp only[yB,cond_false])
 ·rw[jY]
  have hlt:=wY hx
  have hg:(0:Int)≤(i:Int)∧(i:Int)<((List.length l:Nat):Int):=by omega
  simp only[vS hx,cond_true,zN hg,hx,Int.toNat_natCast,Option.bind_some,cl11 (hb x (List.mem_of_getElem? hx)),flE,zx];rw[uw hx,zW (by omega)]
theorem zEb{c1:(List zj)}{c2:Int}{c3:(List zj)}{c4:Int}{c5:(List Def)}{c6:(List Table)}{c7:(List zr)}{c8:(List zb)}{c9:(List Cap)}{c10:(List Def)}{c11:(List Table)}{c12:(List zr)}{c13:(List zb)}{c14:(List Cap)}{c15:(List View)}{l:List View}(hl:l.length≤100000)(hb:∀x∈l,x.Targets.length≤100000):jZ ((List.length l:Nat):Int) c1 c2 c3 c4 c5 c6 c7 c8 c9 c10 c11 c12 c13 c14 c15 KK (0,l)=some l:=by
 refine Kw l _ hl (fun K i x hx=>?_) (fun K=>by rw[jZ];simp only[yB,cond_false])
 ·rw[jZ]
  have hlt:=wY hx
  have hg:(0:Int)≤(i:Int)∧(i:Int)<((List.length l:Nat):Int):=by omega
  simp only[vS hx,cond_true,zN hg,hx,Int.toNat_natCast,Option.bind_some,cl9 (hb x (List.mem_of_getElem? hx)),flE,zx];rw[uw hx,zW (by omega)]
theorem zEc{p:zK}(h:OwnP p):oy p=some (p.Sun,p.Hours,p.Defs,p.Tables,p.Zones,p.Rules,p.Caps,p.Views):=by
 unfold oy;rw[cl3 h.lens.d,Option.bind_some,cl4 h.lens.t,Option.bind_some,cl6 h.lens.z,Option.bind_some,cl2 h.lens.r,Option.bind_some,cl7 h.lens.c,Option.bind_some,cl8 h.v,Option.bind_some,cl9 h.s,Option.bind_some];rw[zD6 h.lens.d h.ds,Option.bind_some,zD7 h.lens.t h.lens.rows,Option.bind_some,zD8 h.lens.z h.zs,Option.bind_some,zD9 h.lens.r h.rs,Option.bind_some,zEa h.lens.c h.cs,Option.bind_some,zEb h.v h.vs,Option.bind_some]
mutual
theorem zd6:∀e:Expr,uJ e=true
 |⟨_,_,s,k,az⟩=>by rw[uJ,V6 az];simp
theorem V6:∀l:List Expr,VU l=true
 |[]=>rfl
 |e::r=>by rw[VU,zd6 e,V6 r];rfl
end
theorem zgi{e:Expr}(h:K2 e≤5000):zdx e=true:=by
 unfold zdx;rw[zd6,decide_eq_true h];rfl
theorem zqa{r:zb}(h1:r.Zones.length≤3000)(h2:r.Except.length≤3000)(h3:K2 r.Test≤5000):zed r=true:=by
 unfold zed zDj;rw[zgi h3,decide_eq_true h1,decide_eq_true h2];simp
def SzD(e:zq):Prop:=zed e.zb=true∧zdx e.Body=true∧e.Corners.length≤64
theorem zto(D:List Def)(Z:List zr)(R:List zb)(hD:D.length≤300∧∀x∈D,zdx x.Body=true)(hZ:Z.length≤300∧∀x∈Z,x.Corners.length≤64)(hR:R.length≤300∧∀x∈R,zed x=true):zlh ⟨D,[],Z,R,[],[],[],0⟩ :=
 ⟨hD.1,by simp,hZ.1,hR.1,by simp,by simp,by simp,fun x hx=>⟨by omega,hD.2 x hx⟩,fun x hx=>(by cases hx),fun x hx=>⟨by omega,hZ.2 x hx⟩,hR.2,fun x hx=>(by cases hx),fun x hx=>(by cases hx)⟩
theorem zlh.fit{p:zK}(h:zlh p):FitP p:=by
 refine⟨⟨by have:=h.d;omega,fun x hx=>qN (h.ds x hx).2⟩,⟨by have:=h.t;omega,fun x hx=>by have:=(h.ts x hx).2.1;omega⟩,⟨by have:=h.z;omega,fun x hx=>by have:=(h.zs x hx).2;omega⟩,⟨by have:=h.r;omega,fun x hx=>?_⟩,⟨by have:=h.c;omega,fun x hx=>by have:=(h.cs x hx).2;omega⟩,⟨by have:=h.v;omega,fun x hx=>by have:=(h.vs x hx).2;omega⟩,by have:=h.s;omega⟩;obtain⟨_,h2,h3,h4⟩:=Qt (h.rs x hx);exact⟨by have:=h2.1;omega,by have:=h3.1;omega,qN h4⟩
theorem Ar(r:zb):zb.mk r.Name r.Zones r.Except r.From r.Until r.Grace r.Vary r.Kind (Expr.mk r.Test.Op r.Test.N r.Test.S r.Test.Key r.Test.Args) r.zg r.Uses r.Other r.N=r:=by
 rw[zx]
theorem Z9(e:zq):zq.mk e.Kind e.Name e.Key e.N e.zb e.Body e.Corners=e:=by cases e;rfl
theorem zix{a b:zq}(h:SzD a):vt a b=some (pd (a=b)):=by
 obtain⟨k,n,y,m,r,b1,c⟩:=a;obtain⟨k',n',y',m',r',b1',c'⟩:=b;obtain⟨h1,h2,h3⟩:=h;dsimp only at h1 h2 h3;unfold vt;dsimp only;rw[Ar r,Ar r',zx b1,zx b1',Hs (by omega),zdu (zlh.fit (zto _ _ _ ⟨by simp,fun x hx=>by rw[List.mem_singleton]at hx;subst hx;exact h2⟩ ⟨by simp,fun x hx=>by cases hx⟩ ⟨by simp,fun x hx=>by rw[List.mem_singleton]at hx;subst hx;exact h1⟩))];simp only[Option.bind_some,kG]
 have e:pd ((⟨k,n,y,m,r,b1,c⟩:zq)=⟨k',n',y',m',r',b1',c'⟩)=(pd (k=k')&&(pd (n=n')&&(pd (y=y')&&(pd (m=m')&&(pd (c=c')&&pd ((⟨[⟨[],b1⟩],[],[],[r],[],[],[],0⟩:zK)=⟨[⟨[],b1'⟩],[],[],[r'],[],[],[],0⟩)))))):=by
  simp only[← xk];refine xj ?_;simp only[zq.mk.injEq,zK.mk.injEq,List.cons.injEq,Def.mk.injEq,true_and,and_true];constructor
  ·rintro⟨rfl,rfl,rfl,rfl,rfl,rfl,rfl⟩;simp
  ·rintro⟨rfl,rfl,rfl,rfl,rfl,rfl,rfl⟩;simp
 rw[e];cases pd (k=k')<;>cases pd (n=n')<;>cases pd (y=y')<;>cases pd (m=m')<;>cases pd (c=c')<;>rfl
theorem zli{r:zb}:kU ⟨[],[],[],[r],[],[],[],0⟩↔yD r.Name=true∧VX r:=by
 simp[kU,y9,Z3,wB]
theorem zqb{d:Def}:kU ⟨[d],[],[],[],[],[],[],0⟩↔yD d.Name=true∧okE 12 d.Body=true:=by
 simp[kU,y9,Z3,wB]
theorem zlj{z:zr}:kU ⟨[],[],[z],[],[],[],[],0⟩↔yD z.Name=true∧WB z.Corners:=by
 simp[kU,y9,Z3,wB]
def fe(e:zq):Int×(List UInt8)×(List UInt8)×Int×(List UInt8)×(List (List UInt8))×(List (List UInt8))×Int×Int×Int×Bool×Int×Int×Int×(List UInt8)×(List UInt8)×(List Expr)×Int×Int×Int×Int×Int×Int×Int×Int×Int×(List UInt8)×(List UInt8)×(List Expr)×(List zu) :=
 (e.Kind,e.Name,e.Key,e.N,e.zb.Name,e.zb.Zones,e.zb.Except,e.zb.From,e.zb.Until,e.zb.Grace,e.zb.Vary,e.zb.Kind,e.zb.Test.Op,e.zb.Test.N,e.zb.Test.S,e.zb.Test.Key,e.zb.Test.Args,e.zb.zg.Side,e.zb.zg.Base,e.zb.zg.Num,e.zb.zg.Den,e.zb.Uses,e.zb.Other,e.zb.N,e.Body.Op,e.Body.N,e.Body.S,e.Body.Key,e.Body.Args,e.Corners)
theorem zqc{r:zb}:Al ⟨[],[],[],[r],[],[],[],0⟩=some (fe (enc (.rule r))):=rfl
theorem ztp{d:Def}:Al ⟨[d],[],[],[],[],[],[],0⟩=some (fe (enc (.dfn d))):=rfl
theorem zqd{z:zr}:Al ⟨[],[],[z],[],[],[],[],0⟩=some (fe (enc (.zone z))):=by
 obtain⟨n,o,c⟩:=z;cases o<;>rfl
def SzE:Ed→Prop
 |.rule r=>zed r=true
 |.dfn d=>zdx d.Body=true
 |.zone z=>z.Corners.length≤64
 |_=>True
theorem zqe:zdx jG=true:=zgi (by simp[jG,K2,zpx])
theorem zqf:zed wk=true:=zqa (by simp[wk]) (by simp[wk]) (by simp[wk,jG,K2,zpx])
theorem zgj{d:Ed}(h:SzE d):SzD (enc d):=by
 cases d with
 |rule r=>exact⟨h,zqe,by simp[enc]⟩
 |dfn r=>exact⟨zqf,h,by simp[enc]⟩
 |zone z=>exact⟨zqf,zqe,h⟩
 |_=>exact⟨zqf,zqe,by simp[enc]⟩
theorem zd7{P:Prop}{b:Bool}(h:b=true↔P):some b=some (pd P):=congrArg some (jc h)
theorem V7{e:zq}(h:SzD e):yr e=some (pd (∃d:Ed,d.ok∧enc d=e)):=by
 obtain⟨k,n,y,m,r,b1,c⟩:=e;have hz:SzD ⟨k,n,y,m,r,b1,c⟩:=h;obtain⟨h1,h2,h3⟩:=h;dsimp only at h1 h2 h3;unfold yr;dsimp only;rw[Ar r,zx b1];unfold Jk;dsimp only;rw[Ar r,zx b1];by_cases k0:k=0
 ·subst k0
  simp only[decide_true,cond_true,Option.bind_some];rw[Ao (zto [] [] [r] ⟨by simp,fun x hx=>by cases hx⟩ ⟨by simp,fun x hx=>by cases hx⟩ ⟨by simp,fun x hx=>by rw[List.mem_singleton]at hx;subst hx;exact h1⟩),Option.bind_some];rw[zqc,Option.bind_some]
  show(bif _ then(vt (enc (.rule r)) ⟨0,n,y,m,r,b1,c⟩).bind fun x4=>some x4 else some false)=_
  rw[zix (b:=⟨0,n,y,m,r,b1,c⟩) (zgj (d:=.rule r) h1),Option.bind_some,wV,← xk];refine congrArg some (xj ?_);rw[zli];constructor
  ·rintro⟨g,e⟩;exact⟨.rule r,g,e⟩
  ·rintro⟨d,g,e⟩
   cases d with
   |rule r' =>
    have:r'=r:=by injection e
    subst this;exact⟨g,e⟩
   |_=>simp[enc]at e
 by_cases k2:k=2
 ·subst k2
  simp only[Int.reduceEq,decide_false,cond_false,decide_true,cond_true,Option.bind_some];rw[Ao (zto [⟨n,b1⟩] [] [] ⟨by simp,fun x hx=>by rw[List.mem_singleton]at hx;subst hx;exact h2⟩ ⟨by simp,fun x hx=>by cases hx⟩ ⟨by simp,fun x hx=>by cases hx⟩),Option.bind_some];rw[ztp,Option.bind_some]
  show(bif _ then(vt (enc (.dfn ⟨n,b1⟩)) ⟨2,n,y,m,r,b1,c⟩).bind fun x4=>some x4 else some false)=_
  rw[zix (b:=⟨2,n,y,m,r,b1,c⟩) (zgj (d:=.dfn ⟨n,b1⟩) h2),Option.bind_some,wV,← xk];refine congrArg some (xj ?_);rw[zqb];constructor
  ·rintro⟨g,e⟩;exact⟨.dfn ⟨n,b1⟩,g,e⟩
  ·rintro⟨d,g,e⟩
   cases d with
   |dfn d' =>
    obtain⟨n',b'⟩:=d';simp only[enc,zq.mk.injEq]at e;obtain⟨_,rfl,rfl,rfl,rfl,rfl,rfl⟩:=e;exact⟨g,rfl⟩
   |_=>simp[enc]at e
 by_cases k4:k=4
 ·subst k4
  simp only[Int.reduceEq,decide_false,cond_false,decide_true,cond_true,Option.bind_some];rw[Ao (zto [] [⟨n,decide (m=1),c⟩] [] ⟨by simp,fun x hx=>by cases hx⟩ ⟨by simp,fun x hx=>by rw[List.mem_singleton]at hx;subst hx;exact h3⟩ ⟨by simp,fun x hx=>by cases hx⟩),Option.bind_some];rw[zqd,Option.bind_some]
  show(bif _ then(vt (enc (.zone ⟨n,decide (m=1),c⟩)) ⟨4,n,y,m,r,b1,c⟩).bind fun x4=>some x4 else some false)=_
  rw[zix (b:=⟨4,n,y,m,r,b1,c⟩) (zgj (d:=.zone ⟨n,decide (m=1),c⟩) h3),Option.bind_some,wV,← xk];refine congrArg some (xj ?_);rw[zlj];constructor
  ·rintro⟨g,e⟩;exact⟨.zone ⟨n,decide (m=1),c⟩,g,e⟩
  ·rintro⟨d,g,e⟩
   cases d with
   |zone d' =>
    obtain⟨n',o',c'⟩:=d';simp only[enc,zq.mk.injEq]at e;obtain⟨_,rfl,rfl,rfl,rfl,rfl,rfl⟩:=e
    have:decide ((bif o' then(1:Int)else 0)=1)=o':=by cases o'<;>rfl
    rw[this];exact⟨g,rfl⟩
   |_=>simp[enc]at e
 rw[decide_eq_false k0,decide_eq_false k2,decide_eq_false k4];simp only[cond_false,Option.bind_some];rw[zix hz];simp only[Option.bind_some];rw[zP (Nat.zero_le _)]
 have hz0:(⟨k,n,y,m,r,b1,c⟩:zq)=⟨k,n,y,m,wk,jG,[]⟩↔(r=wk∧b1=jG∧c=[]):=by
  simp only[zq.mk.injEq,true_and]
 show(Option.bind (bif (!(pd ((⟨k,n,y,m,r,b1,c⟩:zq)=⟨k,n,y,m,wk,jG,[]⟩)))then some true else(some (yD n)).bind fun x7=>some (!x7)) _)=_
 by_cases hq:r=wk∧b1=jG∧c=[]
 ·rw[xH.2 (hz0.2 hq)]
  obtain⟨rfl,rfl,rfl⟩:=hq;by_cases hn:yD n=true
  ·rw[hn]
   simp only[Bool.not_true,cond_false,Option.bind_some];rw[zP (Nat.zero_le _)];simp only[Option.bind_some];by_cases k1:k=1
   ·subst k1
    simp only[decide_true,cond_true];rw[wV,wV];refine zd7 ?_;simp only[Bool.and_eq_true,decide_eq_true_eq];constructor
    ·rintro⟨rfl,g1,g2⟩;exact⟨.fin n m,⟨hn,g1,g2⟩,rfl⟩
    ·rintro⟨d,g,e⟩
     cases d with
     |fin n' d' =>
      simp only[enc,zq.mk.injEq]at e;obtain⟨_,rfl,rfl,rfl,_⟩:=e;exact⟨rfl,g.2⟩
     |_=>simp[enc]at e
   by_cases k3:k=3
   ·subst k3
    simp only[Int.reduceEq,decide_false,cond_false,decide_true,cond_true];rw[wV,wV];refine zd7 ?_;simp only[Bool.and_eq_true,decide_eq_true_eq];constructor
    ·rintro⟨g0,g1,g2⟩;exact⟨.row n ⟨y,m⟩,⟨hn,g0,g1,g2⟩,rfl⟩
    ·rintro⟨d,g,e⟩
     cases d with
     |row n' d' =>
      simp only[enc,zq.mk.injEq]at e;obtain⟨_,rfl,rfl,rfl,_⟩:=e;exact g.2
     |_=>simp[enc]at e
   by_cases k5:k=5
   ·subst k5
    simp only[Int.reduceEq,decide_false,cond_false,decide_true,cond_true];rw[wV,wV];refine zd7 ?_;simp only[Bool.and_eq_true,decide_eq_true_eq];constructor
    ·rintro⟨rfl,g1,g2⟩;exact⟨.lim n m,⟨hn,g1,g2⟩,rfl⟩
    ·rintro⟨d,g,e⟩
     cases d with
     |lim n' d' =>
      simp only[enc,zq.mk.injEq]at e;obtain⟨_,rfl,rfl,rfl,_⟩:=e;exact⟨rfl,g.2⟩
     |_=>simp[enc]at e
   rw[decide_eq_false k1,decide_eq_false k3,decide_eq_false k5];simp only[cond_false];refine zd7 ⟨fun h=>(by cases h),?_⟩;rintro⟨d,g,e⟩;cases d<;>simp only[enc,zq.mk.injEq]at e<;>omega
  ·have hn':yD n=false:=by simpa using hn
   rw[hn'];simp only[Bool.not_true,Bool.not_false,cond_false,cond_true,Option.bind_some];refine zd7 ⟨fun h=>(by cases h),?_⟩;rintro⟨d,g,e⟩
   cases d with
   |fin n' d' =>
    simp only[enc,zq.mk.injEq]at e;obtain⟨_,rfl,_⟩:=e;exact absurd g.1 hn
   |row n' d' =>
    simp only[enc,zq.mk.injEq]at e;obtain⟨_,rfl,_⟩:=e;exact absurd g.1 hn
   |lim n' d' =>
    simp only[enc,zq.mk.injEq]at e;obtain⟨_,rfl,_⟩:=e;exact absurd g.1 hn
   |_=>simp only[enc,zq.mk.injEq]at e;omega
 ·rw[wW (fun e=>hq (hz0.1 e))]
  simp only[Bool.not_false,cond_true,Option.bind_some];refine zd7 ⟨fun h=>(by cases h),?_⟩;rintro⟨d,g,e⟩
  cases d with
  |fin n' d' =>
   simp only[enc,zq.mk.injEq]at e;exact absurd ⟨e.2.2.2.2.1.symm,e.2.2.2.2.2.1.symm,e.2.2.2.2.2.2.symm⟩ hq
  |row n' d' =>
   simp only[enc,zq.mk.injEq]at e;exact absurd ⟨e.2.2.2.2.1.symm,e.2.2.2.2.2.1.symm,e.2.2.2.2.2.2.symm⟩ hq
  |lim n' d' =>
   simp only[enc,zq.mk.injEq]at e;exact absurd ⟨e.2.2.2.2.1.symm,e.2.2.2.2.2.1.symm,e.2.2.2.2.2.2.symm⟩ hq
  |_=>simp only[enc,zq.mk.injEq]at e;omega
theorem zqg{a b:Ed}(h:enc a=enc b):a=b:=by
 cases a<;>cases b<;>simp only[enc,zq.mk.injEq]at h<;>first|(exfalso;omega)|skip
 case rule.rule r s=>rw[h.2.2.2.2.1]
 case fin.fin n d m e=>rw[h.2.1,h.2.2.2.1]
 case dfn.dfn d e =>
  obtain⟨n,b⟩:=d;obtain⟨n',b'⟩:=e;obtain⟨_,h1,_,_,_,h2,_⟩:=h;dsimp only at h1 h2;rw[h1,h2]
 case row.row n x m y =>
  obtain⟨k,v⟩:=x;obtain⟨k',v'⟩:=y;obtain⟨_,h1,h2,h3,_⟩:=h;dsimp only at h1 h2 h3;rw[h1,h2,h3]
 case zone.zone x y =>
  obtain⟨k,o,v⟩:=x;obtain⟨k',o',v'⟩:=y;obtain⟨_,h1,_,h2,_,_,h3⟩:=h;dsimp only at h1 h2 h3
  have:o=o':=by revert h2;cases o<;>cases o'<;>simp
  rw[h1,this,h3]
 case lim.lim n d m e=>rw[h.2.1,h.2.2.2.1]
structure zlp(p:zK):Prop where
 right:kU p
 ds:∀x∈p.Defs,zdx x.Body=true
 rs:∀x∈p.Rules,zed x=true
theorem zlp.big{p:zK}(h:zlp p):zlh p:=by
 obtain⟨⟨⟨d,t,z,r,c,v⟩,⟨bd,bt,bz,br,bc,bv,bs⟩,hr,hs⟩,e1,e2⟩:=h;exact⟨by have:=d.1;omega,by have:=t.1;omega,by have:=z.1;omega,by have:=r.1;omega,by have:=c.1;omega,by have:=v.1;omega,by omega,fun x hx=>⟨by omega,e1 x hx⟩,fun x hx=>⟨by omega,by have:=(bt x hx).1.1;omega,fun y _=>by omega⟩,fun x hx=>⟨by omega,by have:=(bz x hx).1.2;omega⟩,e2,fun x hx=>⟨by omega,by have:=(bc x hx).2.2.1.2;omega⟩,fun x hx=>⟨by omega,by have:=(bv x hx).2.1.2;omega⟩⟩
theorem zlh.lens{p:zK}(h:zlh p):zy5 p :=
 ⟨by have:=h.d;omega,by have:=h.t;omega,by have:=h.z;omega,by have:=h.r;omega,by have:=h.c;omega,fun t ht=>by have:=(h.ts t ht).2.1;omega⟩
theorem zlh.own{p:zK}(h:zlh p):OwnP p :=
 ⟨h.lens,by have:=h.v;omega,by have:=h.s;omega,fun x hx=>qN (h.ds x hx).2,fun x hx=>by have:=(h.zs x hx).2;omega,fun x hx=>by
  obtain⟨_,h2,h3,h4⟩:=Qt (h.rs x hx)
  exact⟨by have:=h2.1;omega,by have:=h3.1;omega,qN h4⟩,fun x hx=>by have:=(h.cs x hx).2;omega,fun x hx=>by have:=(h.vs x hx).2;omega⟩
theorem ziy{p q:zK}{e:Ed}(h:zlp p)(he:e.ok)(hs:SzE e)(ha:app p e=some q):zlp q:=by
 refine⟨zp8 h.right he ha,?_,?_⟩
 ·intro x hx
  cases e with
  |dfn d =>
   simp only[app]at ha;split at ha
   ·cases ha
   ·cases ha
    exact qj (c:=fun _=>d) (z:=d) (P:=fun d:Def=>zdx d.Body=true) hs h.ds (fun _ _ _=>hs) x hx
  |rule r =>
   simp only[app]at ha;split at ha
   ·cases ha
   ·cases ha;exact h.ds x hx
  |fin n d =>
   simp only[app]at ha;split at ha
   ·cases ha
   ·split at ha
    ·cases ha
    ·cases ha;exact h.ds x hx
  |row n d =>
   simp only[app]at ha;split at ha
   ·cases ha
   ·cases ha;exact h.ds x hx
  |zone n =>
   simp only[app]at ha;split at ha
   ·cases ha
   ·cases ha;exact h.ds x hx
  |lim n d =>
   simp only[app]at ha;split at ha
   ·cases ha
   ·cases ha;exact h.ds x hx
 ·intro x hx
  cases e with
  |rule r =>
   simp only[app]at ha;split at ha
   ·cases ha
   ·cases ha
    rcases List.mem_append.1 hx with hx|hx
    ·exact h.rs x hx
    ·rw[List.mem_singleton]at hx;subst hx;exact hs
  |dfn d =>
   simp only[app]at ha;split at ha
   ·cases ha
   ·cases ha;exact h.rs x hx
  |fin n d =>
   simp only[app]at ha;split at ha
   ·cases ha
   ·rename_i r hg
    split at ha
    ·cases ha
    ·cases ha
     have hu:∀y:zb,zed y=true→zed { y with Until:=d }=true:=fun y hy=>hy
     exact qj (c:=fun y:zb=>{ y with Until:=d }) (z:=r) (P:=fun r:zb=>zed r=true) (hu r (h.rs r (KL.uu hg).2)) h.rs (fun y hy _=>hu y (h.rs y hy)) x hx
  |row n d =>
   simp only[app]at ha;split at ha
   ·cases ha
   ·cases ha;exact h.rs x hx
  |zone n =>
   simp only[app]at ha;split at ha
   ·cases ha
   ·cases ha;exact h.rs x hx
  |lim n d =>
   simp only[app]at ha;split at ha
   ·cases ha
   ·cases ha;exact h.rs x hx
def zp:zK:=⟨[],[],[],[],[],[],[],0⟩
def zu3(p:zK)(d:Ed):Int×zK:=match app p d with
 |some q=>(0,q)
 |none=>(oU p d,zp)
open Classical in
noncomputable def uz(p:zK)(e:zq):Int×zK:=if h:∃d:Ed,d.ok∧enc d=e then zu3 p h.choose else(1,zp)
theorem zaa{p:zK}{d:Ed}(hd:d.ok):uz p (enc d)=zu3 p d:=by
 have h:∃d':Ed,d'.ok∧enc d'=enc d:=⟨d,hd,rfl⟩
 unfold uz;rw[dif_pos h,zqg h.choose_spec.2]
theorem zab{p:zK}{e:zq}(h:¬∃d:Ed,d.ok∧enc d=e):uz p e=(1,zp):=by
 unfold uz;rw[dif_neg h]
theorem zqh{d:Ed}(h:SzD (enc d)):SzE d:=by
 cases d with
 |rule r=>exact h.1
 |dfn d=>exact h.2.1
 |zone z=>exact h.2.2
 |_=>trivial
theorem zqi{p:zK}{d:Ed}:(zu3 p d).1=0↔(app p d).isSome=true:=by
 unfold zu3
 cases h:app p d with
 |some q=>simp
 |none =>
  have:=(not_congr (Z8 (p:=p) (e:=d))).1 (by rw[h];simp);simp[this]
theorem e_One{p:zK}{e:zq}(hp:zlp p)(he:SzD e):Kg p e=some (fp (uz p e).1 (uz p e).2):=by
 unfold Kg;simp only[Ar,zx,Z9];rw[Ao hp.big,wj hp.right,V7 he];simp only[Option.bind_some,Bool.not_true,cond_false];by_cases h:∃d:Ed,d.ok∧enc d=e
 ·rw[wj h,Bool.not_true,cond_false]
  obtain⟨d,hd,rfl⟩:=h;obtain⟨q,h1,h2⟩:=zy7 (d:=d) hp.big.lens;rw[h1,zaa hd,Option.bind_some];unfold zu3
  cases hq:app p d with
  |none =>
   have:=(not_congr (Z8 (p:=p) (e:=d))).1 (by rw[hq];simp)
   show(bif (!(decide (oU p d=0)))then _ else _)=_
   rw[decide_eq_false this];rfl
  |some r =>
   have hc:=(Z8 (p:=p) (e:=d)).1 (by rw[hq];rfl);cases h2 r hq;have hk:=ziy hp hd (zqh he) hq
   show(bif (!(decide (oU p d=0)))then _ else(oy q).bind _)=_
   rw[hc,zEc hk.big.own];rfl
 ·rw[wW h,zab h]
  rfl
noncomputable def KX:zK→List zq→Int×zK
 |p,[]=>(0,p)
 |p,e::l=>if(uz p e).1=0 then KX (uz p e).2 l else uz p e
theorem ziz{p:zK}{e:zq}(hp:zlp p)(he:SzD e)(h:(uz p e).1=0):zlp (uz p e).2:=by
 by_cases hd:∃d:Ed,d.ok∧enc d=e
 ·obtain⟨d,hd,rfl⟩:=hd
  rw[zaa hd]at h ⊢;have hs:=zqi.1 h;unfold zu3
  cases hq:app p d with
  |none=>rw[hq]at hs;cases hs
  |some q=>exact ziy hp hd (zqh he) hq
 ·rw[zab hd]at h;cases h
theorem zEd{p:zK}{e:zq}(h:¬(uz p e).1=0):(uz p e).2=zp:=by
 by_cases hd:∃d:Ed,d.ok∧enc d=e
 ·obtain⟨d,hd,rfl⟩:=hd
  rw[zaa hd]at h ⊢;unfold zu3 at h ⊢
  cases hq:app p d with
  |none=>rfl
  |some q=>rw[hq]at h;exact absurd rfl h
 ·rw[zab hd]
theorem zu4:∀{l:List zq}{p:zK},¬(KX p l).1=0→(KX p l).2=zp
 |[],p,h=>absurd rfl h
 |e::l,p,h=>by
  rw[KX]at h ⊢;by_cases g:(uz p e).1=0
  ·rw[if_pos g]at h ⊢;exact zu4 h
  ·rw[if_neg g];exact zEd g
theorem Qv:∀{l:List zq}{p:zK},zlp p→(∀e∈l,SzD e)→(KX p l).1=0→zlp (KX p l).2
 |[],p,hp,_,h=>hp
 |e::l,p,hp,hl,h=>by
  rw[KX]at h ⊢;by_cases g:(uz p e).1=0
  ·rw[if_pos g]at h ⊢;exact Qv (ziz hp (hl e (List.mem_cons_self ..)) g) (fun x hx=>hl x (List.mem_cons_of_mem _ hx)) h
  ·rw[if_neg g]at h;exact absurd h g
theorem zgk:∀{l:List zq}{p:zK},(KX p l).1=0→∃ds:List Ed,l=ds.map enc∧(∀d∈ds,d.ok)∧zzp p ds=some (KX p l).2
 |[],p,h=>⟨[],rfl,fun _ h=>(by cases h),rfl⟩
 |e::l,p,h=>by
  rw[KX]at h ⊢;by_cases g:(uz p e).1=0
  ·rw[if_pos g]at h ⊢
   obtain⟨ds,rfl,h2,h3⟩:=zgk h;by_cases hd:∃d:Ed,d.ok∧enc d=e
   ·obtain⟨d,hd,rfl⟩:=hd
    refine⟨d::ds,rfl,fun x hx=>(List.mem_cons.1 hx).elim (fun e=>e▸hd) (h2 x),?_⟩;rw[zaa hd]at g h3 ⊢;have hs:=zqi.1 g;unfold zu3 at h3 ⊢;rw[zzp]
    cases hq:app p d with
    |none=>rw[hq]at hs;cases hs
    |some q=>rw[hq]at h3;exact h3
   ·rw[zab hd]at g;cases g
  ·rw[if_neg g]at h;exact absurd h g
theorem zqj{l:List zq}(hs:l.length≤1000000000):
  ∀(r:List zq)(i K:Nat)(p:zK),l.drop i=r→i≤l.length→r.length<K→zlp p→(∀e∈r,SzD e)→xu l ((List.length l:Nat):Int) [] [] [] [] [] [] [] 0 K ((i:Int),p.Defs,p.Tables,p.Zones,p.Rules,p.Caps,p.Views,p.Sun,p.Hours)=some (if(KX p r).1=0 then .inr ((fp 0 (KX p r).2).2)else .inl (fp (KX p r).1 zp))
 |[],i,K,p,hr,hi,hK,hp,hl=>by
  obtain⟨K,rfl⟩:∃k,K=k+1:=⟨K-1,by omega⟩
  have:=drop_nil hr hi
  have e:i=l.length:=by omega
  rw[xu,e,yB];rfl
 |e::r,i,K,p,hr,hi,hK,hp,hl=>by
  obtain⟨K,rfl⟩:∃k,K=k+1:=⟨K-1,by omega⟩
  obtain⟨h1,h2,h3⟩:=xG hr;simp only[List.length_cons]at hK;rw[xu];simp only[vS h1,cond_true,z6 h1,Option.bind_some,Ar,zx,Z9];have hz:=hl e (List.mem_cons_self ..);rw[show(⟨p.Defs,p.Tables,p.Zones,p.Rules,p.Caps,p.Views,p.Sun,p.Hours⟩:zK)=p from rfl,e_One hp hz,Option.bind_some,KX];by_cases g:(uz p e).1=0
  ·rw[if_pos g]
   show(bif (!(decide ((uz p e).1=0)))then _ else xu l ((List.length l:Nat):Int) [] [] [] [] [] [] [] 0 K (w64 ((i:Int)+1),(uz p e).2.Defs,(uz p e).2.Tables,(uz p e).2.Zones,(uz p e).2.Rules,(uz p e).2.Caps,(uz p e).2.Views,(uz p e).2.Sun,(uz p e).2.Hours))=_
   rw[decide_eq_true g,zW (by omega)];exact zqj hs r (i+1) K _ h2 (by omega) (by omega) (ziz hp hz g) (fun x hx=>hl x (List.mem_cons_of_mem _ hx))
  ·rw[if_neg g,if_neg g]
   show(bif (!(decide ((uz p e).1=0)))then _ else _)=_
   rw[decide_eq_false g];rfl
theorem zqk{p:zK}{l:List zq}(hs:l.length≤1000000000)(hp:zlp p)(hl:∀e∈l,SzD e):qz p l=some (fp (KX p l).1 (KX p l).2):=by
 unfold qz;rw[Ao hp.big,wj hp.right,Option.bind_some,Bool.not_true,cond_false];have:=zqj hs l 0 KK p rfl (Nat.zero_le _) (uU (by omega)) hp hl;rw[show((0:Nat):Int)=0 from rfl]at this;rw[this,Option.bind_some];by_cases g:(KX p l).1=0
 ·rw[if_pos g,g]
  show(oy (KX p l).2).bind _=_
  rw[zEc (Qv hp hl g).big.own];rfl
 ·rw[if_neg g,zu4 g]
  rfl
theorem zy8{p:zK}{e:Ed}:zzp p [e]=app p e:=by
 rw[zzp];cases app p e<;>rfl
theorem zql{R:Expr→Int→Int→Option Int}{m:Nat}{lv:Int}{c2 c3:Int}{c4 c5:List UInt8}{l:List Expr}(hlv:1≤lv∧lv≤1000)(hm:m≤1000)
  (hR:∀x∈l,∀k:Nat,k≤1000→∃v:Nat,R x (k:Int) (lv-1)=some (v:Int)∧1≤v∧v≤k+1∧(v≤k→K2 x≤v)):
  ∀(r:List Expr)(i K n:Nat),l.drop i=r→i≤l.length→m+1-n<K→n≤m+1→i≤n→∃v:Nat,xe R (m:Int) lv c2 c3 c4 c5 l K ((n:Int),(i:Int))=some (v:Int)∧n≤v∧v≤m+1∧(v≤m→n+zpx r≤v)
 |[],i,K,n,hr,hi,hK,hn,hin=>by
  obtain⟨K,rfl⟩:∃k,K=k+1:=⟨K-1,by omega⟩
  have:=drop_nil hr hi
  have e:i=l.length:=by omega
  refine⟨n,?_,by omega,by omega,fun _=>by simp[zpx]⟩;rw[xe,e];simp only[yB,cond_false,Option.bind_some]
 |x::r,i,K,n,hr,hi,hK,hn,hin=>by
  obtain⟨K,rfl⟩:∃k,K=k+1:=⟨K-1,by omega⟩
  obtain⟨h1,h2,h3⟩:=xG hr;rw[xe];simp only[vS h1,cond_true,Option.bind_some];by_cases g:n≤m
  ·rw[decide_eq_true (by omega:(n:Int)≤(m:Int)),cond_true,z6 h1,Option.bind_some]
   obtain⟨v,e1,e2,e3,e4⟩:=hR x (List.mem_of_getElem? h1) (m-n) (by omega);rw[JR (n:=(m:Int)-(n:Int)) (by omega) (by omega),JR (n:=lv-1) (by omega) (by omega),show(m:Int)-(n:Int)=((m-n:Nat):Int) by omega,e1,Option.bind_some,JR (n:=(n:Int)+(v:Int)) (by omega) (by omega),zW (by omega),show(n:Int)+(v:Int)=((n+v:Nat):Int) by omega];obtain⟨u,f1,f2,f3,f4⟩:=zql hlv hm hR r (i+1) K (n+v) h2 (by omega) (by omega) (by omega) (by omega);refine⟨u,f1,by omega,f3,fun hu=>?_⟩;have:=f4 hu;have:=e4 (by omega);rw[zpx];omega
  ·rw[decide_eq_false (by omega:¬(n:Int)≤(m:Int)),cond_false]
   exact⟨n,rfl,by omega,hn,fun h=>absurd h g⟩
theorem ztq:∀(lv K:Nat)(e:Expr)(m:Nat),lv<K→lv≤1000→m≤1000→∃v:Nat,zL K e (m:Int) (lv:Int)=some (v:Int)∧1≤v∧v≤m+1∧(v≤m→K2 e≤v):=by
 intro lv
 induction lv with
 |zero =>
  intro K e m hK _ hm
  obtain⟨K,rfl⟩:∃k,K=k+1:=⟨K-1,by omega⟩
  refine⟨m+1,?_,by omega,by omega,by omega⟩;rw[zL]
  show(bif true then some (w64 ((m:Int)+1))else _)=_
  rw[cond_true,zW (by omega)]
 |succ lv ih =>
  intro K e m hK hlv hm
  obtain⟨K,rfl⟩:∃k,K=k+1:=⟨K-1,by omega⟩
  rw[zL,decide_eq_false (by omega:¬((lv+1:Nat):Int)<1),cond_false]
  obtain⟨v,h1,h2,h3,h4⟩:=zql (R:=zL K) (m:=m) (lv:=((lv+1:Nat):Int)) (c2:=e.Op) (c3:=e.N) (c4:=e.S) (c5:=e.Key) (l:=e.Args) ⟨by omega,by omega⟩ hm (fun x _ k hk=>by
   rw[show((lv+1:Nat):Int)-1=(lv:Int) by omega]
   exact ih K x k (by omega) (by omega) hk) e.Args 0 KK 1 rfl (Nat.zero_le _) (uU (by omega)) (by omega) (by omega)
  refine⟨v,?_,h2,h3,fun hv=>?_⟩
  ·rw[show(1:Int)=((1:Nat):Int) from rfl,show(0:Int)=((0:Nat):Int) from rfl,h1];rfl
  ·have:=h4 hv
   obtain⟨_,_,_,_,az⟩:=e;rw[K2];dsimp only at this;omega
def SmE(e:Expr):Prop:=∃v:Nat,zL KK e 20 14=some (v:Int)∧v≤20
theorem As(e:Expr):∃v:Nat,zL KK e 20 14=some (v:Int)∧(v≤20→K2 e≤20):=by
 obtain⟨v,h1,_,_,h4⟩:=ztq 14 KK e 20 (uU (by omega)) (by omega) (by omega);exact⟨v,h1,fun h=>by have:=h4 h;omega⟩
theorem zEe{e:Expr}{v:Nat}(h:zL KK e 20 14=some (v:Int)):decide ((v:Int)≤20)=pd (SmE e):=by
 refine jc ?_;rw[decide_eq_true_eq];constructor
 ·intro g;exact⟨v,h,by omega⟩
 ·rintro⟨u,hu,hu2⟩
  rw[h]at hu;have:(v:Int)=u:=Option.some.inj hu;omega
theorem zEf{e:Expr}{v:Nat}(h:zL KK e 20 14=some (v:Int)):decide ((v:Int)>20)=!(pd (SmE e)):=by
 rw[← zEe h,← decide_not];exact xV (by omega)
theorem SmE.big{e:Expr}(h:SmE e):zdx e=true:=by
 obtain⟨v,h1,h2⟩:=As e;obtain⟨u,h3,h4⟩:=h;rw[h1]at h3;have:(v:Int)=u:=Option.some.inj h3;have:=h2 (by omega);exact zgi (by omega)
def SmR(r:zb):Prop:=SmE r.Test∧r.Zones.length≤6∧r.Except.length≤6
theorem SmR.big{r:zb}(h:SmR r):zed r=true:=by
 have:=Z1 h.1.big;exact zqa (by have:=h.2.1;omega) (by have:=h.2.2;omega) this.1
theorem zi0{r:zb}:j3 r=some (pd (SmR r)):=by
 unfold j3;rw[zx];obtain⟨v,h1,_⟩:=As r.Test;rw[h1,Option.bind_some,zEe h1,wV,wV];refine congrArg some ?_;unfold SmR;rw[xk,xk,zdq r.Zones.length 6 (a:=6) rfl,zdq r.Except.length 6 (a:=6) rfl,kG,kG]
structure SmP(p:zK):Prop where
 l:p.Defs.length≤5∧p.Tables.length≤5∧p.Zones.length≤5∧p.Rules.length≤5∧p.Caps.length≤5∧p.Views.length≤5∧p.Sun.length≤5
 d:∀x∈p.Defs,SmE x.Body
 t:∀x∈p.Tables,x.Rows.length≤6
 z:∀x∈p.Zones,x.Corners.length≤12
 r:∀x∈p.Rules,SmR x
 c:∀x∈p.Caps,x.Corners.length≤12
 v:∀x∈p.Views,x.Targets.length≤6
theorem SmP.big{p:zK}(h:SmP p):zlh p:=by
 obtain⟨⟨a1,a2,a3,a4,a5,a6,a7⟩,hd,ht,hz,hr,hc,hv⟩:=h;exact⟨by omega,by omega,by omega,by omega,by omega,by omega,by omega,fun x hx=>⟨by omega,(hd x hx).big⟩,fun x hx=>⟨by omega,by have:=ht x hx;omega,fun _ _=>by omega⟩,fun x hx=>⟨by omega,by have:=hz x hx;omega⟩,fun x hx=>(hr x hx).big,fun x hx=>⟨by omega,by have:=hc x hx;omega⟩,fun x hx=>⟨by omega,by have:=hv x hx;omega⟩⟩
theorem SmP.keep{p:zK}(h:SmP p)(hr:kU p):zlp p:=⟨hr,fun x hx=>(h.d x hx).big,fun x hx=>(h.r x hx).big⟩
theorem At{a:Nat}{m:Int}(n:Nat){f:Option Bool}{r:Prop}(hm:m=(n:Int))(hr:a≤n→f=some (!(pd r))):(bif decide ((a:Int)>m)then some true else f)=some (!(pd (a≤n∧r))):=by
 rw[zyj n hm hr,xk,kG]
theorem ztr{p:zK}:Am p=some (pd (SmP p)):=by
 unfold Am;rw[At (m:=5) 5 rfl fun h1=>At (m:=5) 5 rfl fun h2=>At (m:=5) 5 rfl fun h3=>At (m:=5) 5 rfl fun h4=>At (m:=5) 5 rfl fun h5=>At (m:=5) 5 rfl fun h6=>(by rw[Kt (m:=5) 5 rfl,kG]:some (decide (((List.length p.Sun:Nat):Int)>5))=some (!(pd (p.Sun.length≤5)))),Option.bind_some];by_cases hl:p.Defs.length≤5∧p.Tables.length≤5∧p.Zones.length≤5∧p.Rules.length≤5∧p.Caps.length≤5∧p.Views.length≤5∧p.Sun.length≤5
 ·rw[wj hl,Bool.not_true,cond_false]
  obtain⟨a1,a2,a3,a4,a5,a6,a7⟩:=hl
  have hp:pd (SmP p)=pd ((∀x∈p.Defs,SmE x.Body)∧(∀x∈p.Tables,x.Rows.length≤6)∧(∀x∈p.Zones,x.Corners.length≤12)∧(∀x∈p.Rules,SmR x)∧(∀x∈p.Caps,x.Corners.length≤12)∧(∀x∈p.Views,x.Targets.length≤6)) :=
   xj ⟨fun h=>⟨h.d,h.t,h.z,h.r,h.c,h.v⟩,fun⟨b1,b2,b3,b4,b5,b6⟩=>⟨⟨a1,a2,a3,a4,a5,a6,a7⟩,b1,b2,b3,b4,b5,b6⟩⟩
  rw[hp]
  refine kz (vn p.Defs (fun x=>SmE x.Body) (wN p.Defs p.Tables p.Zones p.Rules p.Caps p.Views p.Sun p.Hours) (fun q=>(idx p.Defs q).bind fun x1=>(zL KK x1.Body 20 14).bind fun x2=>some (decide (x2>20))) (by omega) (fun K q=>?_) fun i x h=>?_) fun _=>?_
  ·rw[wN];simp only[Option.bind_assoc,Option.bind_some]
  ·obtain⟨v,h1,_⟩:=As x.Body
   simp only[z6 h,Option.bind_some,h1,zEf h1]
  refine kz (vn p.Tables (fun x=>x.Rows.length≤6) (wO p.Defs p.Tables p.Zones p.Rules p.Caps p.Views p.Sun p.Hours) (fun q=>(idx p.Tables q).bind fun x1=>some (decide (((List.length x1.Rows:Nat):Int)>6))) (by omega) (fun K q=>?_) fun i x h=>?_) fun _=>?_
  ·rw[wO];simp only[Option.bind_assoc,Option.bind_some]
  ·rw[z6 h,Option.bind_some,Kt (m:=6) 6 rfl,kG]
  refine kz (vn p.Zones (fun x=>x.Corners.length≤12) (wP p.Defs p.Tables p.Zones p.Rules p.Caps p.Views p.Sun p.Hours) (fun q=>(idx p.Zones q).bind fun x1=>some (decide (((List.length x1.Corners:Nat):Int)>12))) (by omega) (fun K q=>?_) fun i x h=>?_) fun _=>?_
  ·rw[wP];simp only[Option.bind_assoc,Option.bind_some]
  ·rw[z6 h,Option.bind_some,Kt (m:=12) 12 rfl,kG]
  refine kz (vn p.Rules (fun x=>SmR x) (wQ p.Defs p.Tables p.Zones p.Rules p.Caps p.Views p.Sun p.Hours) (fun q=>(idx p.Rules q).bind fun x1=>(j3 x1).bind fun x2=>some (!x2)) (by omega) (fun K q=>?_) fun i x h=>?_) fun _=>?_
  ·rw[wQ];simp only[Option.bind_assoc,Option.bind_some]
  ·rw[z6 h,Option.bind_some,zi0];rfl
  refine kz (vn p.Caps (fun x=>x.Corners.length≤12) (wR p.Defs p.Tables p.Zones p.Rules p.Caps p.Views p.Sun p.Hours) (fun q=>(idx p.Caps q).bind fun x1=>some (decide (((List.length x1.Corners:Nat):Int)>12))) (by omega) (fun K q=>?_) fun i x h=>?_) fun _=>?_
  ·rw[wR];simp only[Option.bind_assoc,Option.bind_some]
  ·rw[z6 h,Option.bind_some,Kt (m:=12) 12 rfl,kG]
  have:=kz (r:=True) (f:=fun _=>some true) (vn p.Views (fun x=>x.Targets.length≤6) (wS p.Defs p.Tables p.Zones p.Rules p.Caps p.Views p.Sun p.Hours) (fun q=>(idx p.Views q).bind fun x1=>some (decide (((List.length x1.Targets:Nat):Int)>6))) (by omega) (fun K q=>by
   rw[wS];simp only[Option.bind_assoc,Option.bind_some]) fun i x h=>by
   rw[z6 h,Option.bind_some,Kt (m:=6) 6 rfl,kG]) fun _=>by rw[wj trivial]
  rw[this];exact congrArg some (xj (by simp))
 ·rw[wW hl,wW fun h=>hl h.l];rfl
def SmD(e:zq):Prop:=SmR e.zb∧SmE e.Body∧e.Corners.length≤12
theorem SmD.sz{e:zq}(h:SmD e):SzD e:=⟨h.1.big,h.2.1.big,by have:=h.2.2;omega⟩
theorem zy9{l:List zq}:∃b,Jx l=some b∧(b=true→l.length≤6∧∀e∈l,SmD e):=by
 unfold Jx;have key:=ZV (l.take 7) (fun x=>pd (SmD x)) (some (Sum.inr ())) (some (Sum.inl false)) (wz l) (fun K i x hx=>?_) (fun K=>?_) (l.take 7) 0 KK rfl (Nat.zero_le _) (uU (by rw[List.length_take];omega))
 ·rw[show((0:Nat):Int)=0 from rfl]at key
  rw[key]
  cases hA:(l.take 7).all (fun x=>pd (SmD x))with
  |false=>exact⟨false,rfl,fun h=>by cases h⟩
  |true =>
   refine⟨decide (((List.length l:Nat):Int)≤6),rfl,fun h=>?_⟩;rw[decide_eq_true_eq]at h;refine⟨by omega,?_⟩;rw[List.take_of_length_le (by omega),List.all_eq_true]at hA
   exact fun e he=>xH.1 (hA e he)
 ·have hi:=wY hx
  rw[List.length_take]at hi
  have hx':l[i]?=some x:=by rwa [List.getElem?_take,if_pos (by omega)]at hx
  have hi7:i<7:=by omega
  have h7:decide ((i:Int)<7)=true:=decide_eq_true (by omega);rw[wz];simp only[vS hx',cond_true,Option.bind_some,h7,z6 hx',zi0];obtain⟨v,h1,_⟩:=As x.Body;rw[h1];simp only[Option.bind_some,zEf h1]
  have hb:((bif (!(pd (SmR x.zb)))then some true else(bif (!(pd (SmE x.Body)))then some true else some (decide (((List.length x.Corners:Nat):Int)>12)))):Option Bool)=some (!(pd (SmD x))):=by
   rw[Kt (m:=12) 12 rfl];unfold SmD;rw[xk,xk,← kG (p:=x.Corners.length≤12)];cases pd (SmR x.zb)<;>cases pd (SmE x.Body)<;>rfl
  rw[hb,Option.bind_some,zW (by omega)];cases pd (SmD x)<;>rfl
 ·rw[wz,List.length_take]
  by_cases g:7≤l.length
  ·rw[Nat.min_eq_left g]
   show Option.bind (bif decide (((7:Nat):Int)<((List.length l:Nat):Int))then some false else some false) _=_
   cases decide (((7:Nat):Int)<((List.length l:Nat):Int))<;>rfl
  ·rw[Nat.min_eq_right (by omega),yB]
   rfl
theorem zza(k:Nat)(h):(@uk ⟨k+500,h⟩)=some true:=by kernel_rfl
theorem zts[i:Fuel]:uk=some true:=by
 obtain⟨n,h⟩:=i
 obtain⟨k,rfl⟩:∃k,n=k+500:=⟨n-500,by omega⟩
 exact zza k h
def zzb:Nat→List UInt8
 |0=>W8
 |1=>[50]
 |2=>[51]
 |3=>[52]
 |_=>[53]
theorem zEg:oq 2=some [50]∧oq 3=some [51]∧oq 4=some [52]∧oq 5=some [53]:=⟨by kernel_rfl,by kernel_rfl,by kernel_rfl,by kernel_rfl⟩
theorem zzc{d:Ed}:qA (enc d)=some (zzb d.thing.1,d.thing.2.1,d.thing.2.2):=by
 obtain⟨i2,i3,i4,i5⟩:=zEg
 cases d with
 |rule r=>rfl
 |fin n d=>rfl
 |dfn d =>
  show((oq 2).bind fun x1=>some (x1,d.Name,[]))=_
  rw[i2];rfl
 |row n x =>
  show((oq 3).bind fun x1=>some (x1,n,x.Name))=_
  rw[i3];rfl
 |zone z =>
  show((oq 4).bind fun x1=>some (x1,z.Name,[]))=_
  rw[i4];rfl
 |lim n v =>
  show((oq 5).bind fun x1=>some (x1,n,[]))=_
  rw[i5];rfl
theorem zi1(d:Ed):d.thing.1≤4:=by cases d<;>simp[Ed.thing]
theorem ztt:∀{a b:Nat},a≤4→b≤4→zzb a=zzb b→a=b:=by
 intro a b ha hb h
 match a,b with
 |0,0=>rfl
 |0,1=>exact absurd h (by decide)
 |0,2=>exact absurd h (by decide)
 |0,3=>exact absurd h (by decide)
 |0,4=>exact absurd h (by decide)
 |1,0=>exact absurd h (by decide)
 |1,1=>rfl
 |1,2=>exact absurd h (by decide)
 |1,3=>exact absurd h (by decide)
 |1,4=>exact absurd h (by decide)
 |2,0=>exact absurd h (by decide)
 |2,1=>exact absurd h (by decide)
 |2,2=>rfl
 |2,3=>exact absurd h (by decide)
 |2,4=>exact absurd h (by decide)
 |3,0=>exact absurd h (by decide)
 |3,1=>exact absurd h (by decide)
 |3,2=>exact absurd h (by decide)
 |3,3=>rfl
 |3,4=>exact absurd h (by decide)
 |4,0=>exact absurd h (by decide)
 |4,1=>exact absurd h (by decide)
 |4,2=>exact absurd h (by decide)
 |4,3=>exact absurd h (by decide)
 |4,4=>rfl
 |a+5,_=>omega
 |_,b+5=>omega
theorem zgl{a b:Ed}(ha:a.ok)(hb:b.ok)(sa:SzD (enc a))(sb:SzD (enc b)):wM (enc a) (enc b)=some (pd (a.thing=b.thing)):=by
 unfold wM
 show((yr (enc a)).bind fun x1=>(bif x1 then(yr (enc b)).bind fun x2=>(bif x2 then(qA (enc a)).bind fun x3=>(qA (enc b)).bind fun x4=>some (decide (x3.1=x4.1)&&(decide (x3.2.1=x4.2.1)&&(decide (x3.2.2=x4.2.2))))else some false)else some false))=_
 rw[V7 sa,V7 sb,wj ⟨a,ha,rfl⟩,wj ⟨b,hb,rfl⟩];simp only[Option.bind_some,cond_true,zzc];refine zd7 ?_;simp only[Bool.and_eq_true,decide_eq_true_eq];constructor
 ·rintro⟨h1,h2,h3⟩
  exact Prod.ext (ztt (zi1 a) (zi1 b) h1) (Prod.ext h2 h3)
 ·intro h;rw[h];exact⟨rfl,rfl,rfl⟩
def zqm(p:zK):Nat:=(p.Tables.map fun t=>t.Rows.length).sum
def Two(p x:zK):Prop:=p.Rules.length+1<x.Rules.length∨p.Defs.length+1<x.Defs.length∨p.Zones.length+1<x.Zones.length∨p.Tables.length+1<x.Tables.length∨zqm p+1<zqm x
theorem zgm{α:Type}{key:α→List UInt8}{k:List UInt8}{c:α→α}{z:α}:∀{l r:List α},k∈l.map key→KL.put key k c z (l++r)=KL.put key k c z l++r
 |[],r,h=>by cases h
 |x::l,r,h=>by
  rw[List.cons_append,KL.put,KL.put];by_cases e:key x=k
  ·rw[if_pos e,if_pos e];rfl
  ·rw[if_neg e,if_neg e,zgm (by
    rw[List.map_cons,List.mem_cons]at h
    exact h.resolve_left (Ne.symm e))];rfl
theorem get_of_mem{α:Type}{key:α→List UInt8}{k:List UInt8}{l:List α}(h:k∈l.map key):∃x,KL.get key k l=some x:=by
 cases hg:KL.get key k l with
 |none=>exact absurd h (KL.get_none.1 hg)
 |some x=>exact⟨x,rfl⟩
theorem zgn{α:Type}{key:α→List UInt8}{k:List UInt8}{c c':α→α}{z z':α}(hc':∀x,key x=k→key (c' x)=k)(hz':key (c' z')=k):∀{l:List α},KL.put key k c z (KL.put key k c' z' l)=KL.put key k (fun x=>c (c' x)) z' l
 |[]=>by simp[KL.put,hz']
 |x::r=>by
  rw[KL.put];by_cases h:key x=k
  ·rw[if_pos h,KL.put,if_pos (hc' x h),KL.put,if_pos h]
  ·rw[if_neg h,KL.put,if_neg h,zgn hc' hz',KL.put,if_neg h]
def upd(p:zK):Ed→zK
 |.rule r=>{ p with Rules:=p.Rules++[r] }
 |.fin n d=>{ p with Rules:=KL.put zb.Name n (fun r=>{ r with Until:=d }) wk p.Rules }
 |.dfn d=>{ p with Defs:=KL.put Def.Name d.Name (fun _=>d) d p.Defs }
 |.row n x=>{ p with Tables:=KL.put Table.Name n (jx x) (zT n) p.Tables }
 |.zone z=>{ p with Zones:=KL.put zr.Name z.Name (fun _=>z) z p.Zones }
 |.lim n v=>{ p with Caps:=KL.put Cap.Name n (fun c=>{ c with Limit:=v }) ⟨[],0,0,[]⟩ p.Caps }
def hasE(p:zK):Ed→Prop
 |.fin n _=>n∈p.Rules.map zb.Name
 |.lim n _=>n∈p.Caps.map Cap.Name
 |_=>True
theorem Hu{p q:zK}{e:Ed}(h:app p e=some q):q=upd p e∧hasE p e:=by
 cases e with
 |rule x =>
  simp only[app]at h;split at h
  ·cases h
  ·cases h;exact⟨rfl,trivial⟩
 |fin n u =>
  simp only[app]at h;split at h
  ·cases h
  ·rename_i x hg
   split at h
   ·cases h
   ·cases h
    exact⟨by unfold upd;dsimp only;rw[kB (AL hg)],AL hg⟩
 |dfn x =>
  simp only[app]at h;split at h
  ·cases h
  ·cases h;exact⟨rfl,trivial⟩
 |row n x =>
  simp only[app]at h;split at h
  ·cases h
  ·cases h;exact⟨rfl,trivial⟩
 |zone x =>
  simp only[app]at h;split at h
  ·cases h
  ·cases h;exact⟨rfl,trivial⟩
 |lim n w =>
  simp only[app]at h;split at h
  ·cases h
  ·rename_i x hg
   cases h;exact⟨by unfold upd;dsimp only;rw[kB (AL hg)],AL hg⟩
theorem zi2{p q:zK}{e:Ed}(h:app p e=some q):q.Caps.length=p.Caps.length:=by
 obtain⟨rfl,hh⟩:=Hu h
 cases e with
 |lim n w =>
  show(KL.put Cap.Name n _ _ p.Caps).length=_
  have hh':n∈p.Caps.map Cap.Name:=hh;rw[KL.V0,if_pos hh']
 |_=>rfl
theorem zd8{α:Type}{key:α→List UInt8}{k k':List UInt8}{c c':α→α}{z z':α}(hc:∀x,key x=k→key (c x)=k)(hc':∀x,key x=k'→key (c' x)=k')(hk:k≠k'){l:List α}(hn:(l.map key).Nodup)(h:k∈l.map key)(h':k'∈l.map key):
  KL.put key k c z (KL.put key k' c' z' l)=KL.put key k' c' z' (KL.put key k c z l):=by
 obtain⟨x,hx⟩:=get_of_mem h;obtain⟨y,hy⟩:=get_of_mem h';have hx1:=(KL.uu hx).1;have hy1:=(KL.uu hy).1
 have e1:k∈(KL.put key k' c' y l).map key:=by rw[KL.jH hc' (hc' y hy1),if_pos h'];exact h
 have e2:k'∈(KL.put key k c x l).map key:=by rw[KL.jH hc (hc x hx1),if_pos h];exact h'
 rw[kB (c:=c') (z:=z') (z':=y) h',kB (c:=c) (z:=z) (z':=x) e1,kB (c:=c) (z:=z) (z':=x) h,kB (c:=c') (z:=z') (z':=y) e2];exact KL.put_comm hc (hc x hx1) hc' (hc' y hy1) hk hn (.inl h)
theorem zac{α:Type}{key:α→List UInt8}{k k':List UInt8}{c c':α→α}{z z':α}(hc:∀x,key x=k→key (c x)=k)(hz:key (c z)=k)(hk:k≠k'){l:List α}(h:¬(k∈l.map key∨k'∈l.map key)):(KL.put key k' c' z' (KL.put key k c z l)).length=l.length+2:=by
 rw[not_or]at h;rw[KL.V0,KL.V0,if_neg h.1,if_neg];rw[KL.jH hc hz,if_neg h.1,List.mem_append,List.mem_singleton,not_or];exact⟨h.2,Ne.symm hk⟩
theorem zi3{α:Type}{key:α→List UInt8}{k:List UInt8}{c:α→α}{z t:α}{f:α→Nat}:∀{l:List α},KL.get key k l=some t→((KL.put key k c z l).map f).sum+f t=(l.map f).sum+f (c t)
 |[],h=>by cases h
 |x::r,h=>by
  rw[KL.get]at h;rw[KL.put];by_cases e:key x=k
  ·rw[if_pos e]at h ⊢
   cases h;simp only[List.map_cons,List.sum_cons];omega
  ·rw[if_neg e]at h ⊢
   have:=zi3 (c:=c) (z:=z) (f:=f) h;simp only[List.map_cons,List.sum_cons];omega
theorem zi4{α:Type}{key:α→List UInt8}{k:List UInt8}{c:α→α}{z:α}{f:α→Nat}:∀{l:List α},KL.get key k l=none→((KL.put key k c z l).map f).sum=(l.map f).sum+f (c z)
 |[],h=>by simp[KL.put]
 |x::r,h=>by
  rw[KL.get]at h;rw[KL.put];by_cases e:key x=k
  ·rw[if_pos e]at h;cases h
  ·rw[if_neg e]at h ⊢
   have:=zi4 (c:=c) (z:=z) (f:=f) h;simp only[List.map_cons,List.sum_cons];omega
theorem zqn{t:Table}{x y:Entry}(hne:x.Name≠y.Name)(h:¬(x.Name∈t.Rows.map Entry.Name∨y.Name∈t.Rows.map Entry.Name)):(jx y (jx x t)).Rows.length=t.Rows.length+2 :=
 zac (c:=fun _=>x) (c':=fun _=>y) (z:=x) (fun _ _=>rfl) rfl hne h
theorem ztu{p:zK}{a b:Ed}(hp:kU p)(ha:hasE p a)(hb:hasE p b)(hne:a.thing≠b.thing):Two p (upd (upd p a) b)∨upd (upd p a) b=upd (upd p b) a:=by
 obtain⟨⟨d,t,z,r,c,v⟩,⟨bd,bt,bz,br,bc,bv⟩,_⟩:=hp
 have nd:=fun{α:Type}{l:List α}{g:α→List UInt8}{m:Nat}(h:y9 l g m)=>(JS.1 h).2.2
 cases a<;>cases b<;>first|exact .inr rfl|skip
 case rule.rule x y =>
  refine .inl (.inl ?_)
  show p.Rules.length+1<(p.Rules++[x]++[y]).length
  simp
 case rule.fin x n u =>
  refine .inr ?_
  show({ p with Rules:=KL.put zb.Name n (fun r=>{ r with Until:=u }) wk (p.Rules++[x]) }:zK)={ p with Rules:=KL.put zb.Name n (fun r=>{ r with Until:=u }) wk p.Rules++[x] }
  rw[zgm hb]
 case fin.rule n u x =>
  refine .inr ?_
  show({ p with Rules:=KL.put zb.Name n (fun r=>{ r with Until:=u }) wk p.Rules++[x] }:zK)={ p with Rules:=KL.put zb.Name n (fun r=>{ r with Until:=u }) wk (p.Rules++[x]) }
  rw[zgm ha]
 case fin.fin n u n' u' =>
  refine .inr ?_
  have hn:n'≠n:=fun e=>hne (by rw[e];rfl)
  show({ p with Rules:=KL.put zb.Name n' (fun r=>{ r with Until:=u' }) wk (KL.put zb.Name n (fun r=>{ r with Until:=u }) wk p.Rules) }:zK)={ p with Rules:=KL.put zb.Name n (fun r=>{ r with Until:=u }) wk (KL.put zb.Name n' (fun r=>{ r with Until:=u' }) wk p.Rules) }
  rw[zd8 (key:=zb.Name) (k:=n') (k':=n) (c:=fun r:zb=>{ r with Until:=u' }) (c':=fun r:zb=>{ r with Until:=u }) (fun _ e=>e) (fun _ e=>e) hn (nd r) hb ha]
 case dfn.dfn x y =>
  have hn:x.Name≠y.Name:=fun e=>hne (by show(1,x.Name,_)=(1,y.Name,_);rw[e])
  by_cases h:x.Name∈p.Defs.map Def.Name∨y.Name∈p.Defs.map Def.Name
  ·refine .inr ?_
   show({ p with Defs:=KL.put Def.Name y.Name (fun _=>y) y (KL.put Def.Name x.Name (fun _=>x) x p.Defs) }:zK)={ p with Defs:=KL.put Def.Name x.Name (fun _=>x) x (KL.put Def.Name y.Name (fun _=>y) y p.Defs) }
   rw[KL.put_comm (key:=Def.Name) (k:=x.Name) (k':=y.Name) (fun _ _=>rfl) rfl (fun _ _=>rfl) rfl hn (nd d) h]
  ·refine .inl (.inr (.inl ?_))
   show p.Defs.length+1<(KL.put Def.Name y.Name (fun _=>y) y (KL.put Def.Name x.Name (fun _=>x) x p.Defs)).length
   rw[zac (fun _ _=>rfl) rfl hn h];omega
 case zone.zone x y =>
  have hn:x.Name≠y.Name:=fun e=>hne (by show(3,x.Name,_)=(3,y.Name,_);rw[e])
  by_cases h:x.Name∈p.Zones.map zr.Name∨y.Name∈p.Zones.map zr.Name
  ·refine .inr ?_
   show({ p with Zones:=KL.put zr.Name y.Name (fun _=>y) y (KL.put zr.Name x.Name (fun _=>x) x p.Zones) }:zK)={ p with Zones:=KL.put zr.Name x.Name (fun _=>x) x (KL.put zr.Name y.Name (fun _=>y) y p.Zones) }
   rw[KL.put_comm (key:=zr.Name) (k:=x.Name) (k':=y.Name) (fun _ _=>rfl) rfl (fun _ _=>rfl) rfl hn (nd z) h]
  ·refine .inl (.inr (.inr (.inl ?_)))
   show p.Zones.length+1<(KL.put zr.Name y.Name (fun _=>y) y (KL.put zr.Name x.Name (fun _=>x) x p.Zones)).length
   rw[zac (fun _ _=>rfl) rfl hn h];omega
 case lim.lim n u n' u' =>
  refine .inr ?_
  have hn:n'≠n:=fun e=>hne (by rw[e];rfl)
  show({ p with Caps:=KL.put Cap.Name n' (fun r=>{ r with Limit:=u' }) ⟨[],0,0,[]⟩ (KL.put Cap.Name n (fun r=>{ r with Limit:=u }) ⟨[],0,0,[]⟩ p.Caps) }:zK)={ p with Caps:=KL.put Cap.Name n (fun r=>{ r with Limit:=u }) ⟨[],0,0,[]⟩ (KL.put Cap.Name n' (fun r=>{ r with Limit:=u' }) ⟨[],0,0,[]⟩ p.Caps) }
  rw[zd8 (key:=Cap.Name) (k:=n') (k':=n) (c:=fun r:Cap=>{ r with Limit:=u' }) (c':=fun r:Cap=>{ r with Limit:=u }) (fun _ e=>e) (fun _ e=>e) hn (nd c) hb ha]
 case row.row n x n' y =>
  show Two p { p with Tables:=KL.put Table.Name n' (jx y) (zT n') (KL.put Table.Name n (jx x) (zT n) p.Tables) }∨({ p with Tables:=KL.put Table.Name n' (jx y) (zT n') (KL.put Table.Name n (jx x) (zT n) p.Tables) }:zK)={ p with Tables:=KL.put Table.Name n (jx x) (zT n) (KL.put Table.Name n' (jx y) (zT n') p.Tables) }
  by_cases hn:n=n'
  ·subst hn
   have hxy:x.Name≠y.Name:=fun e=>hne (by show(2,n,x.Name)=(2,n,y.Name);rw[e])
   rw[zgn (key:=Table.Name) (k:=n) (c':=jx x) (z':=zT n) (fun _ e=>e) rfl,zgn (key:=Table.Name) (k:=n) (c':=jx y) (z':=zT n) (fun _ e=>e) rfl]
   cases hg:KL.get Table.Name n p.Tables with
   |none =>
    refine .inl (.inr (.inr (.inr (.inr ?_))))
    show(p.Tables.map fun t=>t.Rows.length).sum+1<((KL.put Table.Name n (fun t=>jx y (jx x t)) (zT n) p.Tables).map fun t=>t.Rows.length).sum
    rw[zi4 hg,zqn (t:=zT n) hxy (by simp[zT])];omega
   |some t =>
    have htm:=(KL.uu hg).2;by_cases h:x.Name∈t.Rows.map Entry.Name∨y.Name∈t.Rows.map Entry.Name
    ·refine .inr ?_
     have hin:=AL hg
     have hcomm:jx y (jx x t)=jx x (jx y t):=by
      unfold jx;dsimp only;rw[KL.put_comm (key:=Entry.Name) (k:=x.Name) (k':=y.Name) (fun _ _=>rfl) rfl (fun _ _=>rfl) rfl hxy (nd (bt t htm).1) h]
     rw[kB (c:=fun t=>jx y (jx x t)) (z':=t) hin,kB (c:=fun t=>jx x (jx y t)) (z':=t) hin,qO (c:=fun t=>jx y (jx x t)) (c':=fun t=>jx x (jx y t)) (z:=t) (z':=t) hcomm];intro u hu;rw[hg]at hu;cases hu;exact hcomm
    ·refine .inl (.inr (.inr (.inr (.inr ?_))))
     show(p.Tables.map fun t=>t.Rows.length).sum+1<((KL.put Table.Name n (fun t=>jx y (jx x t)) (zT n) p.Tables).map fun t=>t.Rows.length).sum
     have:=zi3 (c:=fun t=>jx y (jx x t)) (z:=zT n) (f:=fun t:Table=>t.Rows.length) hg;rw[zqn hxy h]at this;omega
  ·by_cases h:n∈p.Tables.map Table.Name∨n'∈p.Tables.map Table.Name
   ·refine .inr ?_
    rw[KL.put_comm (key:=Table.Name) (k:=n) (k':=n') (c:=jx x) (c':=jx y) (z:=zT n) (z':=zT n') (fun _ e=>e) rfl (fun _ e=>e) rfl hn (nd t) h]
   ·refine .inl (.inr (.inr (.inr (.inl ?_))))
    show p.Tables.length+1<(KL.put Table.Name n' (jx y) (zT n') (KL.put Table.Name n (jx x) (zT n) p.Tables)).length
    rw[zac (key:=Table.Name) (k:=n) (k':=n') (c:=jx x) (z:=zT n) (fun _ e=>e) rfl hn h];omega
theorem zqo(r:zb):zb.mk r.Name r.Zones r.Except r.From r.Until r.Grace r.Vary r.Kind r.Test r.zg r.Uses r.Other r.N=r:=by cases r;rfl
theorem zad:∀{a b:List Ed},a.map enc=b.map enc→a=b
 |[],[],_=>rfl
 |[],_::_,h=>by cases h
 |_::_,[],h=>by cases h
 |x::a,y::b,h=>by
  rw[List.map_cons,List.map_cons,List.cons.injEq]at h;rw[zqg h.1,zad h.2]
theorem zu5{l:List Table}{c0:List Def}{c2:List zr}{c3:List zb}{c4:List Cap}{c5:List View}{c6:List zj}{c7:Int}(hl:l.length≤300)(hr:∀t∈l,t.Rows.length≤64):
  ∀(r:List Table)(i K n:Nat),l.drop i=r→i≤l.length→r.length<K→n≤64*i→xE c0 l c2 c3 c4 c5 c6 c7 K ((n:Int),(i:Int))=some (((n+(r.map fun t=>t.Rows.length).sum:Nat)):Int)
 |[],i,K,n,h,hi,hK,hn=>by
  obtain⟨K,rfl⟩:∃k,K=k+1:=⟨K-1,by omega⟩
  have:=drop_nil h hi
  have e:i=l.length:=by omega
  rw[xE,e,yB];rfl
 |x::r,i,K,n,h,hi,hK,hn=>by
  obtain⟨K,rfl⟩:∃k,K=k+1:=⟨K-1,by omega⟩
  obtain⟨h1,h2,h3⟩:=xG h;simp only[List.length_cons]at hK;have hx:=hr x (List.mem_of_getElem? h1);rw[xE,vS h1,cond_true,z6 h1,Option.bind_some,zW (by omega),JR (by omega) (by omega),show(n:Int)+((List.length x.Rows:Nat):Int)=((n+x.Rows.length:Nat):Int) by omega,zu5 hl hr r (i+1) K _ h2 (by omega) (by omega) (by omega)];simp only[List.map_cons,List.sum_cons,Nat.add_assoc]
theorem zEh{l:List Table}(hr:∀t∈l,t.Rows.length≤64):(l.map fun t=>t.Rows.length).sum≤64*l.length:=by
 induction l with
 |nil=>simp
 |cons x l ih =>
  have:=hr x (List.mem_cons_self ..)
  have:=ih fun t ht=>hr t (List.mem_cons_of_mem _ ht)
  simp only[List.map_cons,List.sum_cons,List.length_cons];omega
theorem zzd{p:zK}(h:zlh p):zqm p≤20000:=by
 have:=zEh (l:=p.Tables) fun t ht=>(h.ts t ht).2.1
 have:=h.t;unfold zqm;omega
theorem zi5{p:zK}(h:zlh p):vk p=some ((zqm p:Nat):Int):=by
 unfold vk;have:=zu5 (l:=p.Tables) (c0:=p.Defs) (c2:=p.Zones) (c3:=p.Rules) (c4:=p.Caps) (c5:=p.Views) (c6:=p.Sun) (c7:=p.Hours) h.t (fun t ht=>(h.ts t ht).2.1) p.Tables 0 KK 0 rfl (Nat.zero_le _) (uU (by have:=h.t;omega)) (Nat.zero_le _);rw[show((0:Nat):Int)=0 from rfl]at this;rw[this,Nat.zero_add];rfl
theorem zd9{a b:Nat}(ha:a≤1000000):decide (((b:Nat):Int)>w64 (((a:Nat):Int)+1))=decide (a+1<b):=by
 rw[zW (by omega)];exact xV (by omega)
theorem zea(p:zK)(a b:zq):xh p a b=some true:=by
 unfold xh;simp only[zx,zqo,Z9];rw[zts,Option.bind_some,ztr,Option.bind_some];obtain⟨f,hb,hf⟩:=zy9 (l:=[a,b]);by_cases hP:SmP p
 ·rw[wj hP,Bool.not_true,cond_false,hb,Option.bind_some]
  cases f with
  |false=>rfl
  |true =>
   obtain⟨_,hD⟩:=hf rfl;have sa:SzD a:=(hD a (by simp)).sz;have sb:SzD b:=(hD b (by simp)).sz;rw[Bool.not_true,cond_false,V7 sa,Option.bind_some];by_cases hda:∃d:Ed,d.ok∧enc d=a
   ·rw[wj hda,Bool.not_true,cond_false,V7 sb,Option.bind_some]
    by_cases hdb:∃d:Ed,d.ok∧enc d=b
    ·rw[wj hdb,Bool.not_true,cond_false,Ao hP.big,Option.bind_some]
     by_cases hR:kU p
     ·rw[wj hR,Option.bind_some,Bool.not_true,cond_false]
      obtain⟨da,oa,rfl⟩:=hda;obtain⟨db,ob,rfl⟩:=hdb;have hp:=hP.keep hR
      have s1:∀e∈[enc da,enc db],SzD e:=fun e he=>by
       rcases List.mem_cons.1 he with rfl|he
       ·exact sa
       ·rw[List.mem_singleton]at he;subst he;exact sb
      have s2:∀e∈[enc db,enc da],SzD e:=fun e he=>by
       rcases List.mem_cons.1 he with rfl|he
       ·exact sb
       ·rw[List.mem_singleton]at he;subst he;exact sa
      rw[zqk (by simp) hp s1,Option.bind_some,zqk (by simp) hp s2,Option.bind_some];rw[zgl oa ob sa sb,Option.bind_some,zgl ob oa sb sa,Option.bind_some,zgl oa oa sa sa,Option.bind_some];have hsym:pd (db.thing=da.thing)=pd (da.thing=db.thing):=xj ⟨Eq.symm,Eq.symm⟩;rw[hsym,wj (rfl:da.thing=da.thing)]
      have hbeq:(pd (da.thing=db.thing)==pd (da.thing=db.thing))=true:=by cases pd (da.thing=db.thing)<;>rfl
      rw[hbeq];simp only[Bool.not_true,cond_false,Option.bind_some];by_cases hT:da.thing=db.thing
      ·rw[wj hT];rfl
      ·rw[wW hT,cond_false]
       by_cases g1:(KX p [enc da,enc db]).1=0
       ·by_cases g2:(KX p [enc db,enc da]).1=0
        ·have k1:=Qv hp s1 g1
         have k2:=Qv hp s2 g2;obtain⟨d1,e1,o1,r1⟩:=zgk g1;obtain⟨d2,e2,o2,r2⟩:=zgk g2;have e1':[da,db]=d1:=zad e1;have e2':[db,da]=d2:=zad e2;subst e1' e2';generalize (KX p [enc da,enc db]).2=x at k1 r1 ⊢;generalize (KX p [enc db,enc da]).2=y at k2 r2 ⊢;rw[g1,g2];rw[zzp]at r1 r2;obtain⟨m1,a1,b1⟩:=Option.bind_eq_some_iff.1 r1;obtain⟨m2,a2,b2⟩:=Option.bind_eq_some_iff.1 r2;rw[zy8]at b1 b2
         have hc:x.Caps.length=p.Caps.length:=by rw[zi2 b1,zi2 a1]
         have hcomm:=ztu (a:=da) (b:=db) hR (Hu a1).2 (Hu a2).2 hT;rw[← (Hu a1).1,← (Hu b1).1,← (Hu a2).1,← (Hu b2).1]at hcomm;have hbig:=hP.big;have hrp:=zzd hbig;have hd:=hbig.d;have ht:=hbig.t;have hz:=hbig.z;have hr:=hbig.r
         have hTw:(bif decide (((List.length x.Rules:Nat):Int)>(w64 (((List.length p.Rules:Nat):Int)+1)))then some true else(bif decide (((List.length x.Defs:Nat):Int)>(w64 (((List.length p.Defs:Nat):Int)+1)))then some true else(bif decide (((List.length x.Zones:Nat):Int)>(w64 (((List.length p.Zones:Nat):Int)+1)))then some true else(bif decide (((List.length x.Tables:Nat):Int)>(w64 (((List.length p.Tables:Nat):Int)+1)))then some true else(vk x).bind fun x17=>(vk p).bind fun x18=>some (decide (x17>(w64 (x18+1))))))))=some (pd (Two p x)):=by
          rw[zi5 k1.big,zi5 hbig];simp only[Option.bind_some];rw[zd9 (by omega),zd9 (by omega),zd9 (by omega),zd9 (by omega),zd9 (by omega)];rw[VT,VT,VT,VT];refine zd7 ?_;simp only[Bool.or_eq_true,decide_eq_true_eq];rfl
         refine zgf (v:=false) rfl ?_;rw[cond_false];refine zgf hTw ?_
         show(bif pd (Two p x)then some (decide (((List.length x.Caps:Nat):Int)=((List.length p.Caps:Nat):Int)))else(Vf x y).bind fun x19=>(bif x19 then some (decide (((List.length x.Caps:Nat):Int)=((List.length p.Caps:Nat):Int)))else some false))=some true
         rw[hc,decide_eq_true rfl];by_cases h2:Two p x
         ·rw[wj h2];rfl
         ·rw[wW h2,cond_false,zdu k1.big.fit,wj (hcomm.resolve_left h2)]
          rfl
        ·show Option.bind (bif (!(decide ((KX p [enc da,enc db]).1=0)))then some true else some (!(decide ((KX p [enc db,enc da]).1=0)))) _=_
         rw[decide_eq_true g1,decide_eq_false g2];rfl
       ·show Option.bind (bif (!(decide ((KX p [enc da,enc db]).1=0)))then some true else some (!(decide ((KX p [enc db,enc da]).1=0)))) _=_
        rw[decide_eq_false g1];rfl
     ·rw[wW hR];rfl
    ·rw[wW hdb];rfl
   ·rw[wW hda];rfl
 ·rw[wW hP];rfl
end Go.Proofs.YthnokpghgeppdaaGreatDoor
