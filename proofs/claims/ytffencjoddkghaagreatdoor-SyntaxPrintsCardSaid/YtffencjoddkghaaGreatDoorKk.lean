/- texts that the proof of SyntaxPrints reaches, part 11 -/
import Derived.Test.YtffencjoddkghaaGreatDoorKj
set_option linter.all false
set_option maxRecDepth 100000
namespace Go.Proofs.YtffencjoddkghaaGreatDoor
open Go Go.RowKit Go.Eng Go.EV Go.EQ
theorem zM8(k:Nat)(h):(@H5 ⟨k+500,h⟩)=some true:=by kernel_rfl
theorem zHb[i:Fuel]:H5=some true:=by
 obtain⟨n,h⟩:=i
 obtain⟨k,rfl⟩:∃k,n=k+500:=⟨n-500,by omega⟩
 exact zM8 k h
variable[Fuel]
theorem zi{p:Prop}{i:Decidable p}(h:p):@grd p i=some ():=if_pos h
theorem kM{n:Int}(h0:-9223372036854775808≤n)(h1:n≤9223372036854775807):EV.w64 n=n:=zx8 h0 h1
theorem zJp{α:Type}[Inhabited α]{l:List α}{i:Nat}(h:i<l.length):idx l (i:Int)=some (l.getD i default):=by
 unfold idx;rw[if_pos ⟨by omega,by omega⟩];rfl
theorem zy{α:Type}[Inhabited α]{l:List α}{i:Nat}{x:α}(h:l[i]?=some x):idx l (i:Int)=some x:=by
 obtain⟨h1,h2⟩:=List.getElem?_eq_some_iff.1 h;rw[zJp h1,List.getD_eq_getElem?_getD,h];rfl
theorem zJq{α:Type}{l:List α}{a b:Nat}(h1:a≤b)(h2:b≤l.length):cut l (a:Int) (b:Int)=some ((l.take b).drop a):=by
 unfold cut;rw[if_pos ⟨by omega,by omega,by omega⟩];rfl
theorem zHc{α:Type}{l:List α}{a:Nat}(h1:a≤l.length):cut l (a:Int) (l.length:Int)=some (l.drop a):=by
 rw[zJq h1 (Nat.le_refl _),List.take_length]
theorem ya{n:Nat}(h:n<9223372036854775807):w64 ((n:Int)+1)=((n+1:Nat):Int):=by rw[kM (by omega) (by omega)];rfl
theorem ja{n:Nat}(h:n<18446744073709551616):n<KK:=Nat.lt_of_lt_of_le h Fuel.big
theorem y6{α:Type}{l:List α}{i:Nat}{x:α}{r:List α}(h:l.drop i=x::r):l[i]?=some x∧l.drop (i+1)=r∧i<l.length:=by
 have h0:l[i]?=some x:=by
  have:=List.getElem?_drop (xs:=l) (i:=i) (j:=0);rw[h]at this;simpa using this.symm
 refine⟨h0,?_,(List.getElem?_eq_some_iff.1 h0).1⟩;rw[← List.drop_drop,h];rfl
theorem drop_nil{α:Type}{l:List α}{i:Nat}(h:l.drop i=[])(hi:i≤l.length):i=l.length:=by
 have:=congrArg List.length h;simp at this;omega
-- bytes
def J5(c:UInt8):Bool:=decide (97≤c.toNat)&&decide (c.toNat≤122)
def zop(c:UInt8):Bool:=decide (48≤c.toNat)&&decide (c.toNat≤57)
def uv(c:UInt8):Bool:=J5 c||zop c
theorem zd6(a b:Bool):(bif a then some b else some false)=some (a&&b):=by cases a<;>rfl
theorem zCq(a b:Bool):(bif a then some true else some b)=some (a||b):=by cases a<;>rfl
theorem wS{p q:Prop}{i:Decidable p}{j:Decidable q}(h:p↔q):@decide p i=@decide q j:=by
 by_cases hq:q
 ·rw[dt hq,dt (h.2 hq)]
 ·rw[df hq,df (fun hp=>hq (h.1 hp))]
theorem zJr(n m:Nat){a:Int}(h:a=(m:Int)):decide ((n:Int)≥a)=decide (m≤n):=wS (by omega)
theorem zd7(n m:Nat){a:Int}(h:a=(m:Int)):decide ((n:Int)≤a)=decide (n≤m):=wS (by omega)
theorem zkl(c:UInt8):kY ((c.toNat:Nat):Int)=some (J5 c):=by
 unfold kY;rw[zd6,J5,zJr _ 97 (a:=97) rfl,zd7 _ 122 (a:=122) rfl]
theorem zCr(c:UInt8):oC ((c.toNat:Nat):Int)=some (zop c):=by
 unfold oC;rw[zd6,zop,zJr _ 48 (a:=48) rfl,zd7 _ 57 (a:=57) rfl]
theorem zus(c:UInt8):Kz ((c.toNat:Nat):Int)=some (J5 c):=zkl c
theorem zM9(c:UInt8):zco ((c.toNat:Nat):Int)=some (zop c):=zCr c
theorem zNa(c:UInt8):AZ ((c.toNat:Nat):Int)=some (uv c):=by
 unfold AZ;rw[zkl,bsQ,zCr,bsQ,zCq,uv]
-- runs of bytes
theorem zHd(l:List UInt8)(f:UInt8→Bool)(G:UInt8→Option Bool)(F:Nat→Int→Option Int)(hG:∀b,G b=some (f b))
  (hF:∀K q,F (K+1) q=((bif (decide (q<((List.length l:Nat):Int)))then(idx l q).bind G else some false)).bind fun x1=>(bif x1 then F K (w64 (q+1))else some q)) (hl:l.length<4611686018427387904):
  ∀(r:List UInt8)(i K:Nat),l.drop i=r→i≤l.length→r.length<K→F K (i:Int)=some ((i+(r.takeWhile f).length:Nat):Int):=by
 intro r
 induction r with
 |nil =>
  intro i K hr hi hK
  obtain⟨K,rfl⟩:∃k,K=k+1:=⟨K-1,by omega⟩
  have:=drop_nil hr hi;rw[hF,df (by omega)];simp
 |cons c r ih =>
  intro i K hr hi hK
  obtain⟨K,rfl⟩:∃k,K=k+1:=⟨K-1,by omega⟩
  obtain⟨h1,h2,h3⟩:=y6 hr;simp only[lc]at hK;rw[hF,dt (by omega),ctQ,zy h1,bsQ,hG,bsQ]
  cases hc:f c with
  |false=>simp[List.takeWhile,hc]
  |true =>
   rw[ctQ,ya (by omega),ih (i+1) K h2 (by omega) (by omega)];simp only[List.takeWhile,hc,lc]
   congr 2;omega
def zxi(f:UInt8→Bool)(l:List UInt8):Nat:=(l.takeWhile f).length
theorem zCs{α:Type}(o:Option α):(o.bind fun x=>some x)=o:=by cases o<;>rfl
theorem zNb{s:List UInt8}(h:s.length<4611686018427387904):Ko s=some ((zxi uv s:Nat):Int):=by
 unfold Ko;rw[zCs,show((0:Int))=((0:Nat):Int) from rfl,zHd s uv (fun x2=>(AZ ((x2.toNat:Nat):Int)).bind fun x3=>some x3) (uA s) (fun b=>by rw[zNa];rfl) (fun K q=>rfl) h s 0 KK rfl (by omega) (ja (by omega))];simp[zxi]
theorem zHe{f:UInt8→Bool}{l:List UInt8}:zxi f l=l.length↔l.all f=true:=by
 induction l with
 |nil=>simp[zxi]
 |cons c l ih =>
  simp only[zxi,List.takeWhile,List.all_cons]at ih ⊢
  cases f c with
  |false=>simp
  |true=>simp only[lc,Bool.true_and,← ih];omega
-- words
def zd8(s:List UInt8):Bool:=match s with
 |[]=>false
 |c::r=>J5 c&&(decide (s.length≤20)&&r.all uv)
theorem zSa{s:List UInt8}(h:s.length<4611686018427387904):Wl s=some (zd8 s):=by
 unfold Wl
 cases s with
 |nil=>rfl
 |cons c r =>
  rw[df (by simp),cf,show((0:Int))=((0:Nat):Int) from rfl,zy (x:=c) rfl,bsQ,zkl,bsQ,zCq,bsQ,zNb h,bsQ]
  have e:decide ((zxi uv (c::r):Int)=(((c::r).length:Nat):Int))=(uv c&&r.all uv):=by
   rw[← List.all_cons,Bool.eq_iff_iff,decide_eq_true_iff,← zHe];omega
  rw[e,zd8]
  cases hc:J5 c with
  |false=>simp
  |true =>
   have:uv c=true:=by rw[uv,hc];rfl
   rw[this];by_cases h20:(c::r).length≤20
   ·rw[dt h20,df (by omega)];simp
   ·rw[df h20,dt (by omega)];simp
theorem zHf(s:List UInt8)(hl:s.length<4611686018427387904):∀(r:List UInt8)(i K:Nat),s.drop i=r→i≤s.length→r.length<K→qj s K (i:Int)=some (bif r.all uv then .inr ()else .inl false):=by
 intro r
 induction r with
 |nil =>
  intro i K hr hi hK
  obtain⟨K,rfl⟩:∃k,K=k+1:=⟨K-1,by omega⟩
  have:=drop_nil hr hi;rw[qj,df (by omega)];rfl
 |cons c r ih =>
  intro i K hr hi hK
  obtain⟨K,rfl⟩:∃k,K=k+1:=⟨K-1,by omega⟩
  obtain⟨h1,h2,h3⟩:=y6 hr;simp only[lc]at hK;rw[qj,dt (by omega),ctQ,zy h1,bsQ,zus,bsQ,bsQ,zM9,bsQ,List.all_cons,uv]
  cases hc:J5 c with
  |true =>
   rw[Bool.not_true,cf,bsQ,cf,ya (by omega),ih (i+1) K h2 (by omega) (by omega)];rfl
  |false =>
   cases hd:zop c with
   |true =>
    rw[Bool.not_false,ctQ,bsQ,Bool.not_true,cf,ya (by omega),ih (i+1) K h2 (by omega) (by omega)];rfl
   |false=>rfl
theorem zSb{s:List UInt8}(h:s.length<4611686018427387904):Z1 s=some (zd8 s):=by
 unfold Z1
 cases s with
 |nil=>rfl
 |cons c r =>
  have e1:decide ((((c::r).length:Nat):Int)<1)=false:=df (by simp only[lc];omega);rw[e1,cf,show((0:Int))=((0:Nat):Int) from rfl,zy (x:=c) rfl,bsQ,zus,bsQ,zCq,bsQ,zd8,show(1:Int)=((1:Nat):Int) from rfl];by_cases h20:(c::r).length≤20
  ·rw[dt h20,df (by omega),zHf (c::r) h r 1 KK rfl (by simp) (ja (by simp only[lc]at h20;omega))]
   cases J5 c<;>cases r.all uv<;>rfl
  ·rw[df h20,dt (by omega)];simp
noncomputable def pd(p:Prop):Bool:=@decide p (Classical.propDecidable p)
theorem y7{p:Prop}:pd p=true↔p:=by unfold pd;exact @decide_eq_true_iff p (Classical.propDecidable p)
theorem q8{p:Prop}[Decidable p]:decide p=pd p:=wS Iff.rfl
theorem kS{b:Bool}{p:Prop}(h:b=true↔p):b=pd p:=by
 cases b with
 |true=>exact(y7.2 (h.1 rfl)).symm
 |false =>
  cases hp:pd p with
  |false=>rfl
  |true=>exact absurd (h.2 (y7.1 hp)) (by decide)
theorem kN{p q:Prop}(h:p↔q):pd p=pd q:=kS (y7.trans h)
theorem zoq{α β:Type}[Inhabited α][Inhabited β](a:List α)(b:List β)(G:α→β→Option Bool)(g:α→β→Bool)(L:Nat→Int→Option (Bool⊕Unit))
  (hL:∀K q,L (K+1) q=(bif (decide (q<((List.length a:Nat):Int)))then(idx a q).bind fun x=>(idx b q).bind fun y=>(G x y).bind fun r=>(bif (!r)then some (Sum.inl false)else L K (w64 (q+1)))else some (Sum.inr ())))
  (hs:a.length<4611686018427387904) (hl:b.length=a.length):
  ∀(r:List α)(t:List β)(i K:Nat),a.drop i=r→b.drop i=t→i≤a.length→r.length<K→(∀x∈r,∀y∈t,G x y=some (g x y))→L K (i:Int)=some (bif (r.zip t).all (fun p=>g p.1 p.2)then Sum.inr ()else Sum.inl false)
 |[],t,i,K,hr,ht,hi,hK,_=>by
  obtain⟨K,rfl⟩:∃k,K=k+1:=⟨K-1,by simp at hK;omega⟩
  have:=drop_nil hr hi;rw[hL,df (by omega)];simp
 |x::r,[],i,K,hr,ht,hi,hK,_=>by
  have h1:=drop_nil ht (by omega);obtain⟨_,_,h3⟩:=y6 hr;omega
 |x::r,y::t,i,K,hr,ht,hi,hK,hG=>by
  obtain⟨K,rfl⟩:∃k,K=k+1:=⟨K-1,by simp at hK;omega⟩
  obtain⟨h1,h2,h3⟩:=y6 hr;obtain⟨k1,k2,k3⟩:=y6 ht;simp only[lc]at hK;rw[hL,dt (by omega),ctQ,zy h1,bsQ,zy k1,bsQ,hG x (List.mem_cons_self ..) y (List.mem_cons_self ..),bsQ];simp only[List.zip_cons_cons,List.all_cons]
  cases hg:g x y with
  |false=>rfl
  |true =>
   simp only[Bool.not_true,cf,Bool.true_and];rw[ya (by omega)]
   exact zoq a b G g L hL hs hl r t (i+1) K h2 k2 (by omega) (by omega) fun x hx y hy=>hG x (mcQ _ hx) y (mcQ _ hy)
theorem zCt{α:Type}{g:α→α→Bool}:∀{a b:List α},a.length=b.length→(∀x∈a,∀y∈b,(g x y=true↔x=y))→((a.zip b).all (fun p=>g p.1 p.2)=true↔a=b)
 |[],[],_,_=>by simp
 |[],_::_,h,_=>by simp at h
 |_::_,[],h,_=>by simp at h
 |x::a,y::b,h,hg=>by
  simp only[lc,Nat.add_right_cancel_iff]at h;simp only[List.zip_cons_cons,List.all_cons,bn,List.cons.injEq];rw[hg x (List.mem_cons_self ..) y (List.mem_cons_self ..),zCt h fun x hx y hy=>hg x (mcQ _ hx) y (mcQ _ hy)]
theorem xe{α:Type}[Inhabited α](a b:List α)(G:α→α→Option Bool)(L:Nat→Int→Option (Bool⊕Unit))
  (hL:∀K q,L (K+1) q=(bif (decide (q<((List.length a:Nat):Int)))then(idx a q).bind fun x=>(idx b q).bind fun y=>(G x y).bind fun r=>(bif (!r)then some (Sum.inl false)else L K (w64 (q+1)))else some (Sum.inr ())))
  (hs:a.length<4611686018427387904) (hG:∀x∈a,∀y∈b,G x y=some (pd (x=y))):
  (bif (!(decide (((List.length a:Nat):Int)=((List.length b:Nat):Int))))then some false else(L KK 0).bind (yA some fun _=>some true))=some (pd (a=b)):=by
 by_cases hl:a.length=b.length
 ·rw[dt (by omega)]
  simp only[Bool.not_true,cf];have:=zoq a b G (fun x y=>pd (x=y)) L hL hs hl.symm a b 0 KK rfl rfl (Nat.zero_le _) (ja (by omega)) hG;rw[show((0:Int))=((0:Nat):Int) from rfl,this]
  have hz:=zCt (g:=fun x y=>pd (x=y)) hl fun x _ y _=>y7
  have e:=kS hz;rw[← e];cases (a.zip b).all (fun p=>pd (p.1=p.2))<;>rfl
 ·rw[df (by omega)]
  simp only[Bool.not_false,ctQ];exact congrArg some (kS ⟨fun h=>(by cases h),fun h=>absurd (congrArg List.length h) hl⟩)
-- levels
mutual
def W4:Expr→Nat
 |⟨_,_,_,_,az⟩=>zEa az+1
def zEa:List Expr→Nat
 |[]=>0
 |e::r=>W4 e+zEa r
end
theorem zd9:∀e:Expr,0<W4 e
 |⟨_,_,_,_,az⟩=>by rw[W4];omega
theorem WT:∀l:List Expr,l.length≤zEa l
 |[]=>Nat.le_refl _
 |e::r=>by rw[zEa,lc];have:=WT r;have:=zd9 e;omega
theorem WU:∀{l:List Expr}{e:Expr},e∈l→W4 e≤zEa l
 |x::r,e,h=>by
  rw[zEa]
  rcases List.mem_cons.1 h with rfl|h
  ·omega
  ·have:=WU h;omega
theorem zCu:∀(n:Nat)(a b:Expr)(K:Nat),W4 a≤n→2*n≤K→n≤1000000000→vM K a b=some (pd (a=b)):=by
 intro n
 induction n with
 |zero=>intro a b K h;have:=zd9 a;omega
 |succ n ih =>
  intro a b K h hK hn
  obtain⟨K,rfl⟩:∃k,K=k+2:=⟨K-2,by omega⟩
  obtain⟨o1,n1,s1,k1,z1⟩:=a;obtain⟨o2,n2,s2,k2,z2⟩:=b;rw[W4]at h;have hz:=WT z1
  have hl:vh (K+1) z1 z2=some (pd (z1=z2)):=by
   rw[vh]
   refine xe z1 z2 (fun x y=>vM K (Expr.mk x.Op x.N x.S x.Key x.Args) (Expr.mk y.Op y.N y.S y.Key y.Args)) _ (fun K q=>rfl) (by omega) fun x hx y hy=>?_
   have h1:=WU hx;have:=ih x y K (by omega) (by omega) (by omega);cases x;cases y;exact this
  rw[vM];simp only[hl,bsQ];simp only[q8]
  have e:pd ((⟨o1,n1,s1,k1,z1⟩:Expr)=⟨o2,n2,s2,k2,z2⟩)=(pd (o1=o2)&&(pd (n1=n2)&&(pd (s1=s2)&&(pd (k1=k2)&&pd (z1=z2))))):=by
   refine(kS ?_).symm;simp only[bn,y7,Expr.mk.injEq]
  rw[e];cases pd (o1=o2)<;>cases pd (n1=n2)<;>cases pd (s1=s2)<;>cases pd (k1=k2)<;>rfl
def Hj(e:Expr):Prop:=W4 e≤1000000000
theorem zhn{a b:Expr}(h:Hj a):vM KK a b=some (pd (a=b)):=zCu 1000000000 a b KK h (Nat.le_of_lt (ja (by omega))) (by omega)
theorem yd(e:Expr):Expr.mk e.Op e.N e.S e.Key e.Args=e:=by cases e;rfl
theorem xm{p q:Prop}:pd (p∧q)=(pd p&&pd q):=(kS (by simp only[bn,y7])).symm
theorem zCv{a b:List Def}(hs:a.length<4611686018427387904)(hE:∀d∈a,Hj d.Body):xT a b=some (pd (a=b)):=by
 unfold xT
 refine xe a b (fun x y=>zaa (Def.mk x.Name (Expr.mk x.Body.Op x.Body.N x.Body.S x.Body.Key x.Body.Args)) (Def.mk y.Name (Expr.mk y.Body.Op y.Body.N y.Body.S y.Body.Key y.Body.Args))) _ (fun K q=>rfl) hs fun x hx y hy=>?_
 have h:=hE x hx;simp only[yd];obtain⟨n1,e1⟩:=x;obtain⟨n2,e2⟩:=y;unfold zaa;simp only[yd,zhn h,bsQ,q8,Def.mk.injEq,xm];cases pd (n1=n2)<;>rfl
theorem zho{a b:List (List UInt8)}(hs:a.length<4611686018427387904):jo a b=some (pd (a=b)):=by
 unfold jo
 refine xe a b (fun x y=>some (decide (x=y))) _ (fun K q=>rfl) hs fun x _ y _=>?_
 rw[q8]
theorem zor{a b:List Entry}(hs:a.length<4611686018427387904):jx a b=some (pd (a=b)):=by
 unfold jx
 refine xe a b (fun x y=>some (decide (x.Name=y.Name)&&(decide (x.N=y.N)))) _ (fun K q=>rfl) hs fun x _ y _=>?_
 obtain⟨n1,m1⟩:=x;obtain⟨n2,m2⟩:=y;simp only[q8,Entry.mk.injEq,xm]
theorem zea{a b:List zG}(hs:a.length<4611686018427387904):wQ a b=some (pd (a=b)):=by
 unfold wQ
 refine xe a b (fun x y=>some (decide (x.X=y.X)&&(decide (x.Y=y.Y)))) _ (fun K q=>rfl) hs fun x _ y _=>?_
 obtain⟨n1,m1⟩:=x;obtain⟨n2,m2⟩:=y;simp only[q8,zG.mk.injEq,xm]
theorem Zs{a b:List zf}(hs:a.length<4611686018427387904):wR a b=some (pd (a=b)):=by
 unfold wR
 refine xe a b (fun x y=>some (decide (x.X=y.X)&&(decide (x.Y=y.Y)&&(decide (x.Z_=y.Z_))))) _ (fun K q=>rfl) hs fun x _ y _=>?_
 obtain⟨n1,m1,k1⟩:=x;obtain⟨n2,m2,k2⟩:=y;simp only[q8,zf.mk.injEq,xm]
theorem zr0{a b:List Table}(hs:a.length<4611686018427387904)(hE:∀d∈a,d.Rows.length<4611686018427387904):xU a b=some (pd (a=b)):=by
 unfold xU
 refine xe a b zab _ (fun K q=>rfl) hs fun x hx y hy=>?_
 have h:=hE x hx;obtain⟨n1,r1,e1⟩:=x;obtain⟨n2,r2,e2⟩:=y;unfold zab;simp only[zor h,bsQ,q8,Table.mk.injEq,xm];cases pd (n1=n2)<;>cases pd (e1=e2)<;>cases pd (r1=r2)<;>rfl
theorem Zt{a b:Bool}:(a==b)=pd (a=b):=kS beq_iff_eq
theorem zxj{a b:List zY}(hs:a.length<4611686018427387904)(hE:∀d∈a,d.Corners.length<4611686018427387904):xW a b=some (pd (a=b)):=by
 unfold xW
 refine xe a b zac _ (fun K q=>rfl) hs fun x hx y hy=>?_
 have h:=hE x hx;obtain⟨n1,r1,e1⟩:=x;obtain⟨n2,r2,e2⟩:=y;unfold zac;simp only[zea h,bsQ,q8,Zt,zY.mk.injEq,xm];cases pd (n1=n2)<;>cases pd (r1=r2)<;>rfl
theorem zCw{a b:List Cap}(hs:a.length<4611686018427387904)(hE:∀d∈a,d.Corners.length<4611686018427387904):xX a b=some (pd (a=b)):=by
 unfold xX
 refine xe a b zad _ (fun K q=>rfl) hs fun x hx y hy=>?_
 have h:=hE x hx;obtain⟨n1,r1,l1,e1⟩:=x;obtain⟨n2,r2,l2,e2⟩:=y;unfold zad;simp only[zea h,bsQ,q8,Cap.mk.injEq,xm];cases pd (n1=n2)<;>cases pd (r1=r2)<;>cases pd (l1=l2)<;>rfl
theorem zxk{a b:List View}(hs:a.length<4611686018427387904)(hE:∀d∈a,d.Targets.length<4611686018427387904):xY a b=some (pd (a=b)):=by
 unfold xY
 refine xe a b zae _ (fun K q=>rfl) hs fun x hx y hy=>?_
 have h:=hE x hx;obtain⟨n1,⟨x1,y1,z1⟩,l1,e1⟩:=x;obtain⟨n2,⟨x2,y2,z2⟩,l2,e2⟩:=y;unfold zae;simp only[Zs h,bsQ,q8,View.mk.injEq,zf.mk.injEq,xm];cases pd (n1=n2)<;>cases pd (x1=x2)<;>cases pd (y1=y2)<;>cases pd (z1=z2)<;>cases pd (l1=l2)<;>rfl
theorem zos{a b:zB}(h1:a.Zones.length<4611686018427387904)(h2:a.Except.length<4611686018427387904)(h3:Hj a.Test):qf a b=some (pd (a=b)):=by
 obtain⟨a1,a2,a3,a4,a5,a6,a7,a8,a9,⟨p1,p2,p3,p4⟩,a10,a11,a12⟩:=a;obtain⟨b1,b2,b3,b4,b5,b6,b7,b8,b9,⟨q1,q2,q3,q4⟩,b10,b11,b12⟩:=b;unfold qf;simp only[zho h1,zho h2,yd,zhn h3,bsQ,q8,Zt,zB.mk.injEq,zt.mk.injEq,xm]
 cases pd (a2=b2)<;>cases pd (a3=b3)<;>cases pd (a9=b9)<;>simp only[Bool.not_true,Bool.not_false,ctQ,cf,bsQ,Bool.false_and,Bool.and_false,Bool.true_and] <;>
 cases pd (a1=b1)<;>cases pd (a4=b4)<;>cases pd (a5=b5)<;>cases pd (a6=b6)<;>simp only[bsQ,ctQ,cf,Bool.false_and,Bool.and_false,Bool.true_and] <;>
 cases pd (a7=b7)<;>cases pd (a8=b8)<;>simp only[bsQ,ctQ,cf,Bool.false_and,Bool.and_false,Bool.true_and] <;>
 cases (pd (p1=q1)&&(pd (p2=q2)&&(pd (p3=q3)&&pd (p4=q4))))<;>cases pd (a10=b10)<;>cases pd (a11=b11)<;>rfl
theorem zxl{a b:List zB}(hs:a.length<4611686018427387904)(hE:∀d∈a,d.Zones.length<4611686018427387904∧d.Except.length<4611686018427387904∧Hj d.Test):xV a b=some (pd (a=b)):=by
 unfold xV
 refine xe a b (fun x1 x2=>qf (zB.mk x1.Name x1.Zones x1.Except x1.From x1.Until x1.Grace x1.Vary x1.Kind (Expr.mk x1.Test.Op x1.Test.N x1.Test.S x1.Test.Key x1.Test.Args) x1.zt x1.Uses x1.Other x1.N) (zB.mk x2.Name x2.Zones x2.Except x2.From x2.Until x2.Grace x2.Vary x2.Kind (Expr.mk x2.Test.Op x2.Test.N x2.Test.S x2.Test.Key x2.Test.Args) x2.zt x2.Uses x2.Other x2.N)) _ (fun K q=>rfl) hs fun x hx y hy=>?_
 obtain⟨h1,h2,h3⟩:=hE x hx;simp only[yd];exact zos h1 h2 h3
def FitP(p:vg):Prop :=
 (p.Defs.length<4611686018427387904∧∀d∈p.Defs,Hj d.Body)∧(p.Tables.length<4611686018427387904∧∀d∈p.Tables,d.Rows.length<4611686018427387904)∧(p.Zones.length<4611686018427387904∧∀d∈p.Zones,d.Corners.length<4611686018427387904) ∧
 (p.Rules.length<4611686018427387904∧∀d∈p.Rules,d.Zones.length<4611686018427387904∧d.Except.length<4611686018427387904∧Hj d.Test)∧(p.Caps.length<4611686018427387904∧∀d∈p.Caps,d.Corners.length<4611686018427387904)∧(p.Views.length<4611686018427387904∧∀d∈p.Views,d.Targets.length<4611686018427387904)∧p.Sun.length<4611686018427387904
theorem zot{a b:vg}(h:FitP a):znb a b=some (pd (a=b)):=by
 obtain⟨⟨d1,d2⟩,⟨t1,t2⟩,⟨z1,z2⟩,⟨r1,r2⟩,⟨c1,c2⟩,⟨v1,v2⟩,s1⟩:=h;obtain⟨aD,aT,aZ,aR,aC,aV,aS,aH⟩:=a;obtain⟨bD,bT,bZ,bR,bC,bV,bS,bH⟩:=b;unfold znb;simp only[zCv d1 d2,zr0 t1 t2,zxj z1 z2,zxl r1 r2,zCw c1 c2,zxk v1 v2,Zs s1,bsQ,q8,vg.mk.injEq,xm];cases pd (aD=bD)<;>cases pd (aT=bT)<;>cases pd (aZ=bZ)<;>cases pd (aR=bR)<;>cases pd (aC=bC)<;>cases pd (aV=bV)<;>cases pd (aS=bS)<;>rfl
theorem zou{α:Type}(a b:List α)(B:Int→Option Bool)(L:Nat→Int→Option (Bool⊕Unit))
  (hL:∀K q,L (K+1) q=(bif (decide (q<((List.length a:Nat):Int)))then(B q).bind fun r=>(bif r then some (Sum.inl false)else L K (w64 (q+1)))else some (Sum.inr ())))
  (hs:a.length<4611686018427387904) (hl:b.length=a.length) (hB:∀(i:Nat) x y,a[i]?=some x→b[i]?=some y→B (i:Int)=some (!(pd (x=y)))):
  ∀(r t:List α)(i K:Nat),a.drop i=r→b.drop i=t→i≤a.length→r.length<K→L K (i:Int)=some (bif pd (r=t)then Sum.inr ()else Sum.inl false)
 |[],t,i,K,hr,ht,hi,hK=>by
  obtain⟨K,rfl⟩:∃k,K=k+1:=⟨K-1,by simp at hK;omega⟩
  have:=drop_nil hr hi;rw[hL,df (by omega)]
  have e:t=[]:=by rw[← ht];exact List.drop_eq_nil_of_le (by omega)
  subst e;rw[y7.2 rfl];rfl
 |x::r,[],i,K,hr,ht,hi,hK=>by
  have h1:=drop_nil ht (by omega);obtain⟨_,_,h3⟩:=y6 hr;omega
 |x::r,y::t,i,K,hr,ht,hi,hK=>by
  obtain⟨K,rfl⟩:∃k,K=k+1:=⟨K-1,by simp at hK;omega⟩
  obtain⟨h1,h2,h3⟩:=y6 hr;obtain⟨k1,k2,k3⟩:=y6 ht;simp only[lc]at hK;rw[hL,dt (by omega),ctQ,hB i x y h1 k1,bsQ];simp only[List.cons.injEq,xm]
  cases hg:pd (x=y)with
  |false=>rfl
  |true =>
   simp only[Bool.not_true,cf,Bool.true_and];rw[ya (by omega)];exact zou a b B L hL hs hl hB r t (i+1) K h2 k2 (by omega) (by omega)
theorem KF{α:Type}{a b:List α}(B:Int→Option Bool)(L:Nat→Int→Option (Bool⊕Unit))
  (hL:∀K q,L (K+1) q=(bif (decide (q<((List.length a:Nat):Int)))then(B q).bind fun r=>(bif r then some (Sum.inl false)else L K (w64 (q+1)))else some (Sum.inr ())))
  (hs:a.length<4611686018427387904) (hl:b.length=a.length) (hB:∀(i:Nat) x y,a[i]?=some x→b[i]?=some y→B (i:Int)=some (!(pd (x=y)))):
  L KK 0=some (bif pd (a=b)then Sum.inr ()else Sum.inl false):=zou a b B L hL hs hl hB a b 0 KK rfl rfl (Nat.zero_le _) (ja (by omega))
theorem zCx{a b:List (List UInt8)}(hs:a.length<4611686018427387904):kC a b=some (pd (a=b)):=by
 unfold kC
 refine xe a b (fun x y=>some (decide (x=y))) _ (fun K q=>rfl) hs fun x _ y _=>?_
 rw[q8]
theorem zCy{a b:List Entry}(hs:a.length<4611686018427387904):kB a b=some (pd (a=b)):=by
 unfold kB
 refine xe a b (fun x y=>some (decide (x.Name=y.Name)&&(decide (x.N=y.N)))) _ (fun K q=>rfl) hs fun x _ y _=>?_
 obtain⟨n1,m1⟩:=x;obtain⟨n2,m2⟩:=y;simp only[q8,Entry.mk.injEq,xm]
theorem zut{a b:List zG}(hs:a.length<4611686018427387904):js a b=some (pd (a=b)):=by
 unfold js
 refine xe a b (fun x y=>some (decide (x.X=y.X)&&(decide (x.Y=y.Y)))) _ (fun K q=>rfl) hs fun x _ y _=>?_
 obtain⟨n1,m1⟩:=x;obtain⟨n2,m2⟩:=y;simp only[q8,zG.mk.injEq,xm]
theorem zuu{a b:List zf}(hs:a.length<4611686018427387904):jq a b=some (pd (a=b)):=by
 unfold jq
 refine xe a b (fun x y=>some (decide (x.X=y.X)&&(decide (x.Y=y.Y)&&(decide (x.Z_=y.Z_))))) _ (fun K q=>rfl) hs fun x _ y _=>?_
 obtain⟨n1,m1,k1⟩:=x;obtain⟨n2,m2,k2⟩:=y;simp only[q8,zf.mk.injEq,xm]
theorem zSc:∀(n:Nat)(a b:Expr)(K:Nat),W4 a≤n→n≤K→n≤1000000000→yY K a b=some (pd (a=b)):=by
 intro n
 induction n with
 |zero=>intro a b K h;have:=zd9 a;omega
 |succ n ih =>
  intro a b K h hK hn
  obtain⟨K,rfl⟩:∃k,K=k+1:=⟨K-1,by omega⟩
  obtain⟨o1,n1,s1,k1,z1⟩:=a;obtain⟨o2,n2,s2,k2,z2⟩:=b;rw[W4]at h;have hz:=WT z1
  have hl:=xe z1 z2 (yY K) (kz (yY K) o1 n1 s1 k1 z1 o2 n2 s2 k2 z2) (fun K q=>rfl) (by omega) fun x hx y hy=>ih x y K (by have:=WU hx;omega) (by omega) (by omega)
  rw[yY]
  have e:pd ((⟨o1,n1,s1,k1,z1⟩:Expr)=⟨o2,n2,s2,k2,z2⟩)=(pd (o1=o2)&&(pd (n1=n2)&&(pd (s1=s2)&&(pd (k1=k2)&&pd (z1=z2))))):=by
   refine(kS ?_).symm;simp only[bn,y7,Expr.mk.injEq]
  rw[e];simp only[q8]at hl ⊢;cases pd (o1=o2)<;>simp only[Bool.not_true,Bool.not_false,ctQ,cf,bsQ,Bool.false_and,Bool.true_and];cases pd (n1=n2)<;>simp only[Bool.not_true,Bool.not_false,ctQ,cf,bsQ,Bool.false_and,Bool.true_and];cases pd (s1=s2)<;>simp only[Bool.not_true,Bool.not_false,ctQ,cf,bsQ,Bool.false_and,Bool.true_and];cases pd (k1=k2)<;>simp only[Bool.not_true,Bool.not_false,ctQ,cf,bsQ,Bool.false_and,Bool.true_and];exact hl
theorem zr1{a b:Expr}(h:Hj a):yY KK a b=some (pd (a=b)):=zSc 1000000000 a b KK h (Nat.le_of_lt (ja (by omega))) (by omega)
theorem zSd{a b:zB}(h1:a.Zones.length<4611686018427387904)(h2:a.Except.length<4611686018427387904)(h3:Hj a.Test):qU a b=some (pd (a=b)):=by
 obtain⟨a1,a2,a3,a4,a5,a6,a7,a8,a9,⟨p1,p2,p3,p4⟩,a10,a11,a12⟩:=a;obtain⟨b1,b2,b3,b4,b5,b6,b7,b8,b9,⟨q1,q2,q3,q4⟩,b10,b11,b12⟩:=b;unfold qU;simp only[zCx h1,zCx h2,yd,zr1 h3,bsQ,q8,Zt,zB.mk.injEq,zt.mk.injEq,xm]
 cases pd (a2=b2)<;>cases pd (a3=b3)<;>cases pd (a9=b9)<;>simp only[Bool.not_true,Bool.not_false,ctQ,cf,bsQ,Bool.false_and,Bool.and_false,Bool.true_and] <;>
 cases pd (a1=b1)<;>cases pd (a4=b4)<;>cases pd (a5=b5)<;>cases pd (a6=b6)<;>simp only[bsQ,ctQ,cf,Bool.false_and,Bool.and_false,Bool.true_and] <;>
 cases pd (a7=b7)<;>cases pd (a8=b8)<;>simp only[bsQ,ctQ,cf,Bool.false_and,Bool.and_false,Bool.true_and] <;>
 cases (pd (p1=q1)&&(pd (p2=q2)&&(pd (p3=q3)&&pd (p4=q4))))<;>cases pd (a10=b10)<;>cases pd (a11=b11)<;>rfl
theorem zNc(c0:List Def)(c1:List Table)(c2:List zY)(c3:List zB)(c4:List Cap)(c5:List View)(c6:List zf)(c7:Int)(c8:List Def)(c9:List Table)(c10:List zY)(c11:List zB)(c12:List Cap)(c13:List View)(c14:List zf)(c15:Int)(hs:c0.length<4611686018427387904)(hl:c8.length=c0.length)(hE:∀d∈c0,Hj d.Body):oI c0 c1 c2 c3 c4 c5 c6 c7 c8 c9 c10 c11 c12 c13 c14 c15 KK 0=some (bif pd (c0=c8)then Sum.inr ()else Sum.inl false):=by
 refine KF _ (oI c0 c1 c2 c3 c4 c5 c6 c7 c8 c9 c10 c11 c12 c13 c14 c15) (fun K q=>rfl) hs hl fun i x y hx hy=>?_
 have hx':=List.mem_of_getElem? hx;have he:=zr1 (b:=y.Body) (hE x hx');simp only[zy hx,zy hy,bsQ];rw[he];obtain⟨xName,xBody⟩:=x;obtain⟨yName,yBody⟩:=y;simp only[q8,Zt,Def.mk.injEq,zf.mk.injEq,xm,bsQ];cases pd (xName=yName)<;>rfl
theorem zNd(c0:List Def)(c1:List Table)(c2:List zY)(c3:List zB)(c4:List Cap)(c5:List View)(c6:List zf)(c7:Int)(c8:List Def)(c9:List Table)(c10:List zY)(c11:List zB)(c12:List Cap)(c13:List View)(c14:List zf)(c15:Int)(hs:c1.length<4611686018427387904)(hl:c9.length=c1.length)(hE:∀d∈c1,d.Rows.length<4611686018427387904):oJ c0 c1 c2 c3 c4 c5 c6 c7 c8 c9 c10 c11 c12 c13 c14 c15 KK 0=some (bif pd (c1=c9)then Sum.inr ()else Sum.inl false):=by
 refine KF _ (oJ c0 c1 c2 c3 c4 c5 c6 c7 c8 c9 c10 c11 c12 c13 c14 c15) (fun K q=>rfl) hs hl fun i x y hx hy=>?_
 have hx':=List.mem_of_getElem? hx;have he:=zCy (b:=y.Rows) (hE x hx');simp only[zy hx,zy hy,bsQ];rw[he];obtain⟨xName,xRows,xElse⟩:=x;obtain⟨yName,yRows,yElse⟩:=y;simp only[q8,Zt,Table.mk.injEq,zf.mk.injEq,xm,bsQ];cases pd (xName=yName)<;>cases pd (xElse=yElse)<;>cases pd (xRows=yRows)<;>rfl
theorem zNe(c0:List Def)(c1:List Table)(c2:List zY)(c3:List zB)(c4:List Cap)(c5:List View)(c6:List zf)(c7:Int)(c8:List Def)(c9:List Table)(c10:List zY)(c11:List zB)(c12:List Cap)(c13:List View)(c14:List zf)(c15:Int)(hs:c2.length<4611686018427387904)(hl:c10.length=c2.length)(hE:∀d∈c2,d.Corners.length<4611686018427387904):oK c0 c1 c2 c3 c4 c5 c6 c7 c8 c9 c10 c11 c12 c13 c14 c15 KK 0=some (bif pd (c2=c10)then Sum.inr ()else Sum.inl false):=by
 refine KF _ (oK c0 c1 c2 c3 c4 c5 c6 c7 c8 c9 c10 c11 c12 c13 c14 c15) (fun K q=>rfl) hs hl fun i x y hx hy=>?_
 have hx':=List.mem_of_getElem? hx;have he:=zut (b:=y.Corners) (hE x hx');simp only[zy hx,zy hy,bsQ];rw[he];obtain⟨xName,xOverlay,xCorners⟩:=x;obtain⟨yName,yOverlay,yCorners⟩:=y;simp only[q8,Zt,zY.mk.injEq,zf.mk.injEq,xm,bsQ];cases pd (xName=yName)<;>cases pd (xOverlay=yOverlay)<;>rfl
theorem zNf(c0:List Def)(c1:List Table)(c2:List zY)(c3:List zB)(c4:List Cap)(c5:List View)(c6:List zf)(c7:Int)(c8:List Def)(c9:List Table)(c10:List zY)(c11:List zB)(c12:List Cap)(c13:List View)(c14:List zf)(c15:Int)(hs:c3.length<4611686018427387904)(hl:c11.length=c3.length)(hE:∀d∈c3,d.Zones.length<4611686018427387904∧d.Except.length<4611686018427387904∧Hj d.Test):qn c0 c1 c2 c3 c4 c5 c6 c7 c8 c9 c10 c11 c12 c13 c14 c15 KK 0=some (bif pd (c3=c11)then Sum.inr ()else Sum.inl false):=by
 refine KF (fun q=>(idx c3 q).bind fun x1=>(idx c11 q).bind fun x2=>(qU x1 x2).bind fun x3=>some (!x3)) (qn c0 c1 c2 c3 c4 c5 c6 c7 c8 c9 c10 c11 c12 c13 c14 c15) (fun K q=>?_) hs hl fun i x y hx hy=>?_
 ·rw[qn]
  simp only[Option.bind_assoc,bsQ]
 ·obtain⟨e1,e2,e3⟩:=hE x (List.mem_of_getElem? hx)
  simp only[zy hx,zy hy,bsQ,zSd e1 e2 e3]
theorem zNg(c0:List Def)(c1:List Table)(c2:List zY)(c3:List zB)(c4:List Cap)(c5:List View)(c6:List zf)(c7:Int)(c8:List Def)(c9:List Table)(c10:List zY)(c11:List zB)(c12:List Cap)(c13:List View)(c14:List zf)(c15:Int)(hs:c4.length<4611686018427387904)(hl:c12.length=c4.length)(hE:∀d∈c4,d.Corners.length<4611686018427387904):oL c0 c1 c2 c3 c4 c5 c6 c7 c8 c9 c10 c11 c12 c13 c14 c15 KK 0=some (bif pd (c4=c12)then Sum.inr ()else Sum.inl false):=by
 refine KF _ (oL c0 c1 c2 c3 c4 c5 c6 c7 c8 c9 c10 c11 c12 c13 c14 c15) (fun K q=>rfl) hs hl fun i x y hx hy=>?_
 have hx':=List.mem_of_getElem? hx;have he:=zut (b:=y.Corners) (hE x hx');simp only[zy hx,zy hy,bsQ];rw[he];obtain⟨xName,xLoad,xLimit,xCorners⟩:=x;obtain⟨yName,yLoad,yLimit,yCorners⟩:=y;simp only[q8,Zt,Cap.mk.injEq,zf.mk.injEq,xm,bsQ];cases pd (xName=yName)<;>cases pd (xLoad=yLoad)<;>cases pd (xLimit=yLimit)<;>rfl
theorem zNh(c0:List Def)(c1:List Table)(c2:List zY)(c3:List zB)(c4:List Cap)(c5:List View)(c6:List zf)(c7:Int)(c8:List Def)(c9:List Table)(c10:List zY)(c11:List zB)(c12:List Cap)(c13:List View)(c14:List zf)(c15:Int)(hs:c5.length<4611686018427387904)(hl:c13.length=c5.length)(hE:∀d∈c5,d.Targets.length<4611686018427387904):oM c0 c1 c2 c3 c4 c5 c6 c7 c8 c9 c10 c11 c12 c13 c14 c15 KK 0=some (bif pd (c5=c13)then Sum.inr ()else Sum.inl false):=by
 refine KF _ (oM c0 c1 c2 c3 c4 c5 c6 c7 c8 c9 c10 c11 c12 c13 c14 c15) (fun K q=>rfl) hs hl fun i x y hx hy=>?_
 have hx':=List.mem_of_getElem? hx;have he:=zuu (b:=y.Targets) (hE x hx');simp only[zy hx,zy hy,bsQ];rw[he];obtain⟨xName,⟨Eye1,Eye2,Eye3⟩,xLeast,xTargets⟩:=x;obtain⟨yName,⟨Eye4,Eye5,Eye6⟩,yLeast,yTargets⟩:=y;simp only[q8,Zt,View.mk.injEq,zf.mk.injEq,xm,bsQ];cases pd (xName=yName)<;>cases pd (Eye1=Eye4)<;>cases pd (Eye2=Eye5)<;>cases pd (Eye3=Eye6)<;>cases pd (xLeast=yLeast)<;>rfl
theorem Hk{α:Type}{a b:List α}(h:¬b.length=a.length):pd (a=b)=false:=by
 cases hp:pd (a=b)with
 |false=>rfl
 |true=>exact absurd (congrArg List.length (y7.1 hp)).symm h
theorem zSe{a b:vg}(h:FitP a):Z5 a b=some (pd (a=b)):=by
 obtain⟨⟨d1,d2⟩,⟨t1,t2⟩,⟨z1,z2⟩,⟨r1,r2⟩,⟨c1,c2⟩,⟨v1,v2⟩,s1⟩:=h;obtain⟨aD,aT,aZ,aR,aC,aV,aS,aH⟩:=a;obtain⟨bD,bT,bZ,bR,bC,bV,bS,bH⟩:=b
 have e:pd ((⟨aD,aT,aZ,aR,aC,aV,aS,aH⟩:vg)=⟨bD,bT,bZ,bR,bC,bV,bS,bH⟩)=(pd (aD=bD)&&(pd (aT=bT)&&(pd (aZ=bZ)&&(pd (aR=bR)&&(pd (aC=bC)&&(pd (aV=bV)&&(pd (aS=bS)&&pd (aH=bH)))))))):=by
  refine(kS ?_).symm;simp only[bn,y7,vg.mk.injEq]
 have hd {α:Type} {a b:List α}:decide (((List.length a:Nat):Int)=((List.length b:Nat):Int))=decide (b.length=a.length):=wS (by omega);unfold Z5;rw[e];have h7:=zuu (b:=bS) s1;by_cases l1:¬bD.length=aD.length
 ·simp only[hd,df l1,Hk l1,Bool.not_false,Bool.not_true,ctQ,cf,bsQ,Bool.false_and,Bool.and_false]
 replace l1:=Classical.not_not.1 l1;by_cases l2:¬bT.length=aT.length
 ·simp only[hd,df l2,Hk l2,dt l1,Bool.not_false,Bool.not_true,ctQ,cf,bsQ,Bool.false_and,Bool.and_false]
 replace l2:=Classical.not_not.1 l2;by_cases l3:¬bZ.length=aZ.length
 ·simp only[hd,df l3,Hk l3,dt l1,dt l2,Bool.not_false,Bool.not_true,ctQ,cf,bsQ,Bool.false_and,Bool.and_false]
 replace l3:=Classical.not_not.1 l3;by_cases l4:¬bR.length=aR.length
 ·simp only[hd,df l4,Hk l4,dt l1,dt l2,dt l3,Bool.not_false,Bool.not_true,ctQ,cf,bsQ,Bool.false_and,Bool.and_false]
 replace l4:=Classical.not_not.1 l4;by_cases l5:¬bC.length=aC.length
 ·simp only[hd,df l5,Hk l5,dt l1,dt l2,dt l3,dt l4,Bool.not_false,Bool.not_true,ctQ,cf,bsQ,Bool.false_and,Bool.and_false]
 replace l5:=Classical.not_not.1 l5;by_cases l6:¬bV.length=aV.length
 ·simp only[hd,df l6,Hk l6,dt l1,dt l2,dt l3,dt l4,dt l5,Bool.not_false,Bool.not_true,ctQ,cf,bsQ,Bool.false_and,Bool.and_false]
 replace l6:=Classical.not_not.1 l6;simp only[hd,dt l1,dt l2,dt l3,dt l4,dt l5,dt l6,h7,Bool.not_true,cf,bsQ,q8];simp only[zNc _ _ _ _ _ _ _ _ _ _ _ _ _ _ _ _ d1 l1 d2,zNd _ _ _ _ _ _ _ _ _ _ _ _ _ _ _ _ t1 l2 t2,zNe _ _ _ _ _ _ _ _ _ _ _ _ _ _ _ _ z1 l3 z2,zNf _ _ _ _ _ _ _ _ _ _ _ _ _ _ _ _ r1 l4 r2,zNg _ _ _ _ _ _ _ _ _ _ _ _ _ _ _ _ c1 l5 c2,zNh _ _ _ _ _ _ _ _ _ _ _ _ _ _ _ _ v1 l6 v2]
 cases pd (aS=bS)with
 |false=>simp only[Bool.not_false,ctQ,bsQ,Bool.and_false,Bool.false_and]
 |true =>
  cases pd (aH=bH)with
  |false=>simp only[Bool.not_false,Bool.not_true,cf,ctQ,bsQ,Bool.and_false,Bool.false_and]
  |true =>
   cases pd (aD=bD)with|false=>rfl|true =>
   cases pd (aT=bT)with|false=>rfl|true =>
   cases pd (aZ=bZ)with|false=>rfl|true =>
   cases pd (aR=bR)with|false=>rfl|true =>
   cases pd (aC=bC)with|false=>rfl|true =>
   cases pd (aV=bV)with|false=>rfl|true=>rfl
theorem zuv{α τ:Type}(l:List α)(g:α→Bool)(ok bad:τ)(L:Nat→Int→τ)
  (hL:∀K (i:Nat) x,l[i]?=some x→L (K+1) (i:Int)=bif g x then L K ((i+1:Nat):Int)else bad) (hE:∀K,L (K+1) (l.length:Int)=ok):
  ∀(r:List α)(i K:Nat),l.drop i=r→i≤l.length→r.length<K→L K (i:Int)=bif r.all g then ok else bad
 |[],i,K,hr,hi,hK=>by
  obtain⟨K,rfl⟩:∃k,K=k+1:=⟨K-1,by simp at hK;omega⟩
  have:=drop_nil hr hi;subst this;rw[hE];rfl
 |x::r,i,K,hr,hi,hK=>by
  obtain⟨K,rfl⟩:∃k,K=k+1:=⟨K-1,by simp at hK;omega⟩
  obtain⟨h1,h2,h3⟩:=y6 hr;simp only[lc]at hK;rw[hL K i x h1,List.all_cons]
  cases g x with
  |false=>rfl
  |true=>exact zuv l g ok bad L hL hE r (i+1) K h2 (by omega) (by omega)
theorem WV{α τ:Type}(l:List α)(g:α→Bool)(ok bad:τ)(L:Nat→Int→τ)(hs:l.length≤9223372036854775807)
  (hL:∀K (i:Nat) x,l[i]?=some x→L (K+1) (i:Int)=bif g x then L K ((i+1:Nat):Int)else bad) (hE:∀K,L (K+1) (l.length:Int)=ok):
  L KK 0=bif l.all g then ok else bad:=zuv l g ok bad L hL hE l 0 KK rfl (Nat.zero_le _) (ja (by omega))
theorem zov{α σ τ:Type}(l:List α)(f:σ→α→σ)(fin:σ→τ)(I:Nat→σ→Prop)(L:Nat→Int→σ→τ)
  (hL:∀K (i:Nat) x s,l[i]?=some x→I i s→L (K+1) (i:Int) s=L K ((i+1:Nat):Int) (f s x)∧I (i+1) (f s x)) (hE:∀K s,I l.length s→L (K+1) (l.length:Int) s=fin s):
  ∀(r:List α)(i K:Nat)(s:σ),l.drop i=r→i≤l.length→r.length<K→I i s→L K (i:Int) s=fin (r.foldl f s)∧I l.length (r.foldl f s)
 |[],i,K,s,hr,hi,hK,hI=>by
  obtain⟨K,rfl⟩:∃k,K=k+1:=⟨K-1,by simp at hK;omega⟩
  have:=drop_nil hr hi;subst this;exact⟨hE K s hI,hI⟩
 |x::r,i,K,s,hr,hi,hK,hI=>by
  obtain⟨K,rfl⟩:∃k,K=k+1:=⟨K-1,by simp at hK;omega⟩
  obtain⟨h1,h2,h3⟩:=y6 hr;simp only[lc]at hK;obtain⟨e1,e2⟩:=hL K i x s h1 hI;rw[e1,List.foldl_cons];exact zov l f fin I L hL hE r (i+1) K (f s x) h2 (by omega) (by omega) e2
theorem zeb{α σ τ:Type}(l:List α)(f:σ→α→σ)(fin:σ→τ)(I:Nat→σ→Prop)(L:Nat→Int→σ→τ)(s:σ)(hs:l.length<4611686018427387904)(h0:I 0 s)
  (hL:∀K (i:Nat) x s,l[i]?=some x→I i s→L (K+1) (i:Int) s=L K ((i+1:Nat):Int) (f s x)∧I (i+1) (f s x)) (hE:∀K s,I l.length s→L (K+1) (l.length:Int) s=fin s):
  L KK 0 s=fin (l.foldl f s)∧I l.length (l.foldl f s):=zov l f fin I L hL hE l 0 KK s rfl (Nat.zero_le _) (ja (by omega)) h0
theorem vk{α:Type}{l:List α}{i:Nat}{x:α}(h:l[i]?=some x):decide ((i:Int)<(List.length l:Nat))=true:=dt (by have:=(List.getElem?_eq_some_iff.1 h).1;omega)
theorem yZ{α:Type}{l:List α}:decide (((List.length l:Nat):Int)<(List.length l:Nat))=false:=df (by omega)
theorem jb{α:Type}{l:List α}{i:Nat}{x:α}(h:l[i]?=some x):i<l.length:=(List.getElem?_eq_some_iff.1 h).1
def uw:Int⊕List UInt8→List UInt8
 |.inl n=>if n<0 then 45::32::Lib.decDigits n.natAbs else Lib.decDigits n.toNat
 |.inr s=>s
def zr2(s:List UInt8):List UInt8:=bif s.isEmpty||decide (s.getLast?=some 10)then s else s++[32]
def zkm(s:List UInt8)(x:Int⊕List UInt8):List UInt8:=zr2 s++uw x
def spT(l:List (Int⊕List UInt8)):List UInt8:=l.flatMap fun x=>32::uw x
def zE:List (Int⊕List UInt8)→List UInt8
 |[]=>[59,10]
 |x::l=>uw x++spT l++[32,59,10]
def Good(t:List UInt8):Prop:=t≠[]∧t.getLast?≠some 10
theorem zHg{s:List UInt8}(h:Good s):zr2 s=s++[32]:=by
 unfold zr2
 have h1:s.isEmpty=false:=by cases s with
  |nil=>exact absurd rfl h.1
  |cons=>rfl
 rw[h1,df h.2];rfl
theorem yV{s t:List UInt8}(h:Good t):Good (s++t):=by
 obtain⟨h1,h2⟩:=h;refine⟨by simp[h1],?_⟩;rw[List.getLast?_append]
 cases ht:t.getLast? with
 |none=>exact absurd (List.getLast?_eq_none_iff.1 ht) h1
 |some a=>rw[ht]at h2;simpa using h2
theorem zec:∀{l:List (Int⊕List UInt8)}{s:List UInt8},Good s→(∀x∈l,Good (uw x))→l.foldl zkm s=s++spT l∧Good (s++spT l)
 |[],s,h,_=>by simp only[List.foldl_nil,spT,List.flatMap_nil,List.append_nil,true_and];exact h
 |x::l,s,h,hl=>by
  have e:zkm s x=s++32::uw x:=by rw[zkm,zHg h];simp
  have hg:Good (s++32::uw x):=by
   have:=yV (s:=s++[32]) (hl x (List.mem_cons_self ..));simpa using this
  have:=zec (l:=l) hg (fun y hy=>hl y (mcQ _ hy));rw[List.foldl_cons,e];simp only[spT,List.flatMap_cons]at this ⊢;simpa using this
theorem Jh{o:Option (Bool⊕Unit)}{g r:Bool}{f:Unit→Option Bool}(h:o=some (bif g then Sum.inr ()else Sum.inl false))(hr:g=true→f ()=some r):o.bind (yA some f)=some (g&&r):=by
 subst h
 cases g with
 |false=>rfl
 |true=>rw[ctQ,bsQ,yA,hr rfl,Bool.true_and]
theorem zkn{o:Option Bool}{f:Option Bool}{g r:Bool}(h:o=some g)(hr:g=true→f=some (!r)):(o.bind fun x=>bif (!x)then some true else f)=some (!(g&&r)):=by
 subst h
 cases g with
 |false=>rfl
 |true=>rw[bsQ,Bool.not_true,cf,hr rfl,Bool.true_and]
theorem qt{a:Nat}{m:Int}(n:Nat){f:Option Bool}{r:Bool}(hm:m=(n:Int))(hr:a≤n→f=some (!r)):(bif decide ((a:Int)>m)then some true else f)=some (!(decide (a≤n)&&r)):=by
 by_cases h:a≤n
 ·rw[df (by omega),dt h,cf,hr h,Bool.true_and]
 ·rw[dt (by omega),df h];rfl
theorem Vr{a:Nat}{m:Int}(n:Nat)(hm:m=(n:Int)):some (decide ((a:Int)>m))=some (!(decide (a≤n))):=by
 by_cases h:a≤n
 ·rw[df (by omega),dt h];rfl
 ·rw[dt (by omega),df h];rfl
theorem jc{α:Type}(l:List α)(g:α→Bool)(L:Nat→Int→Option (Bool⊕Unit))(B:Int→Option Bool)(hs:l.length≤9223372036854775807)
  (hL:∀K q,L (K+1) q=(bif (decide (q<((List.length l:Nat):Int)))then(B q).bind fun r=>(bif r then some (Sum.inl false)else L K (w64 (q+1)))else some (Sum.inr ())))
  (hB:∀(i:Nat) x,l[i]?=some x→B (i:Int)=some (!(g x))):L KK 0=some (bif l.all g then Sum.inr ()else Sum.inl false):=by
 have:=WV l g (some (Sum.inr ())) (some (Sum.inl false)) L hs (fun K i x h=>?_) (fun K=>by rw[hL,yZ];rfl)
 ·rw[this];cases l.all g<;>rfl
 ·have hi:=jb h
  rw[hL,vk h,ctQ,hB i x h,bsQ,ya (by omega)];cases g x<;>rfl
mutual
def As:Expr→Bool
 |⟨_,_,s,k,az⟩=>zow az&&(decide (s.length≤30)&&decide (k.length≤30))
def zow:List Expr→Bool
 |[]=>true
 |e::r=>As e&&zow r
end
theorem YM:∀l:List Expr,zow l=l.all As
 |[]=>by rw[zow];rfl
 |e::r=>by rw[zow,YM r,List.all_cons]
theorem zCz{o n:Int}{s k:List UInt8}{az:List Expr}{m RK:Nat}(hm:m≤1000)(ih:∀m'<m,∀e,vv RK e (m':Int)=some ((min (W4 e) (m'+1):Nat):Int)):
  ∀(r:List Expr)(i j K:Nat),az.drop i=r→i≤az.length→i<j→j≤m+1→m+1<K+j→wY (vv RK) (m:Int) o n s k az K ((j:Int),(i:Int))=some ((min (j+zEa r) (m+1):Nat):Int)
 |[],i,j,K,hr,hi,h1,h2,hK=>by
  obtain⟨K,rfl⟩:∃k,K=k+1:=⟨K-1,by omega⟩
  have:=drop_nil hr hi;rw[wY];simp only[df (show ¬((i:Int)<(az.length:Nat)) by omega),cf,bsQ];rw[zEa];exact congrArg some (by omega)
 |x::r,i,j,K,hr,hi,h1,h2,hK=>by
  obtain⟨K,rfl⟩:∃k,K=k+1:=⟨K-1,by omega⟩
  obtain⟨g1,g2,g3⟩:=y6 hr;rw[wY];simp only[dt (show((i:Int)<(az.length:Nat)) by omega),ctQ,bsQ];by_cases hj:j≤m
  ·rw[dt (show(j:Int)≤(m:Int) by omega),ctQ,zy g1,bsQ,kM (by omega) (by omega),show(m:Int)-(j:Int)=((m-j:Nat):Int) by omega,ih (m-j) (by omega) x,bsQ]
   have hp:=zd9 x;rw[kM (by omega) (by omega),ya (by omega),show(j:Int)+((min (W4 x) (m-j+1):Nat):Int)=((j+min (W4 x) (m-j+1):Nat):Int) by omega];rw[zCz hm ih r (i+1) (j+min (W4 x) (m-j+1)) K g2 (by omega) (by omega) (by omega) (by omega),zEa];exact congrArg some (by omega)
  ·rw[df (show ¬(j:Int)≤(m:Int) by omega),cf,zEa]
   exact congrArg some (by omega)
theorem zC0:∀(m:Nat)(e:Expr)(K:Nat),m<K→m≤1000→vv K e (m:Int)=some ((min (W4 e) (m+1):Nat):Int):=by
 intro m
 induction m using Nat.strongRecOn with
 |_ m ih =>
  intro e K hK hm
  obtain⟨K,rfl⟩:∃k,K=k+1:=⟨K-1,by omega⟩
  obtain⟨o,n,s,k,az⟩:=e;rw[vv];have:=zCz (o:=o) (n:=n) (s:=s) (k:=k) (az:=az) (m:=m) (RK:=K) hm (fun m' h' e=>ih m' h' e K (by omega) (by omega)) az 0 1 KK rfl (Nat.zero_le _) (by omega) (by omega) (by have:=ja (n:=2000) (by omega);omega);rw[show((1:Int),(0:Int))=(((1:Nat):Int),((0:Nat):Int)) from rfl,this,W4,bsQ];exact congrArg some (by omega)
theorem zC1:∀(n:Nat)(e:Expr)(K:Nat),W4 e≤n→n≤K→n≤1000000000→jC K e=some (As e):=by
 intro n
 induction n with
 |zero=>intro e K h;have:=zd9 e;omega
 |succ n ih =>
  intro e K h hK hn
  obtain⟨K,rfl⟩:∃k,K=k+1:=⟨K-1,by omega⟩
  obtain⟨o,m,s,k,az⟩:=e;rw[W4]at h;have hz:=WT az;rw[jC,As,YM]
  refine Jh (jc az As _ (fun q=>(idx az q).bind fun x1=>(jC K x1).bind fun x2=>some (!x2)) (by omega) (fun K q=>?_) fun i x hx=>?_) fun _=>?_
  ·rw[qA]
   simp only[Option.bind_assoc,bsQ]
  ·rw[zy hx,bsQ,ih x K (by have:=WU (List.mem_of_getElem? hx);omega) (by omega) (by omega)];rfl
  ·show(bif decide (((List.length s:Nat):Int)≤30)then some (decide (((List.length k:Nat):Int)≤30))else some false)=_
   rw[zd7 s.length 30 (a:=30) rfl,zd7 k.length 30 (a:=30) rfl];cases decide (List.length s≤30)<;>rfl
def zox(e:Expr):Bool:=decide (W4 e≤200)&&As e
theorem zed(e:Expr):vW e=some (zox e):=by
 unfold vW zox;rw[yd,show(200:Int)=((200:Nat):Int) from rfl,zC0 200 e KK (ja (by omega)) (by omega),bsQ,wS (q:=W4 e≤200) (by omega)];by_cases h:W4 e≤200
 ·rw[dt h,ctQ,zC1 200 e KK h (Nat.le_of_lt (ja (by omega))) (by omega)];rfl
 ·rw[df h];rfl
def zOp(l:List (List UInt8)):Bool:=l.all (fun x=>decide (x.length≤30))&&decide (l.length≤10)
theorem Zu{l:List (List UInt8)}(h:l.length≤9223372036854775807):xQ l=some (zOp l):=by
 unfold xQ zOp
 refine Jh (jc l _ _ (fun q=>(idx l q).bind fun x1=>some (decide (((List.length x1:Nat):Int)>30))) h (fun K q=>?_) fun i x hx=>?_) fun _=>?_
 ·rw[vX]
  simp only[Option.bind_assoc,bsQ]
 ·rw[zy hx,bsQ];exact Vr 30 rfl
 ·rw[zd7 l.length 10 (a:=10) rfl]
def zOq(t:Table):Bool:=decide (t.Name.length≤30)&&(decide (t.Rows.length≤64)&&t.Rows.all fun x=>decide (x.Name.length≤30))
def zr3(r:zB):Bool:=decide (r.Name.length≤30)&&(zOp r.Zones&&(zOp r.Except&&zox r.Test))
def zOr(p:vg):Bool :=
 (decide (p.Defs.length≤8)&&(decide (p.Tables.length≤8)&&(decide (p.Zones.length≤8)&&(decide (p.Rules.length≤8)&&(decide (p.Caps.length≤8)&&(decide (p.Views.length≤8)&&decide (p.Sun.length≤64))))))) &&
 (p.Defs.all (fun d=>decide (d.Name.length≤30)&&zox d.Body)&&(p.Tables.all zOq&&(p.Zones.all (fun d=>decide (d.Name.length≤30)&&decide (d.Corners.length≤64))&&(p.Rules.all zr3 &&
 (p.Caps.all (fun d=>decide (d.Name.length≤30)&&decide (d.Corners.length≤64))&&(p.Views.all (fun d=>decide (d.Name.length≤30)&&decide (d.Targets.length≤64))&&true))))))
def zTl(p:vg):Prop:=∀r∈p.Rules,r.Zones.length≤9223372036854775807∧r.Except.length≤9223372036854775807
theorem zSf{c0:List Def}{c1:List Table}{c2:List zY}{c3:List zB}{c4:List Cap}{c5:List View}{c6:List zf}{c7:Int}(hl:c0.length≤8):Ak c0 c1 c2 c3 c4 c5 c6 c7 KK 0=some (bif c0.all (fun d=>decide (d.Name.length≤30)&&zox d.Body)then .inr ()else .inl false):=by
 refine jc c0 _ _ _ (by omega) (fun K q=>rfl) fun i x hx=>?_
 simp only[zy hx,bsQ,zed]
 exact qt 30 rfl fun _=>rfl
theorem zSg{c0:List Def}{c1:List Table}{c2:List zY}{c3:List zB}{c4:List Cap}{c5:List View}{c6:List zf}{c7:Int}(hl:c1.length≤8):vw c0 c1 c2 c3 c4 c5 c6 c7 KK 0=some (bif c1.all zOq then .inr ()else .inl false):=by
 have:=WV c1 zOq (some (Sum.inr ())) (some (Sum.inl false)) (vw c0 c1 c2 c3 c4 c5 c6 c7) (by omega) (fun K i x h=>?_) (fun K=>by rw[vw,yZ];rfl)
 ·rw[this];cases c1.all zOq<;>rfl
 ·have hi:=jb h
  rw[vw,vk h,ctQ,zy h,bsQ,ya (by omega)];rw[qt (m:=30) 30 rfl (r:=decide (x.Rows.length≤64)) (fun _=>Vr (m:=64) 64 rfl),bsQ];unfold zOq;cases hn:decide (x.Name.length≤30)
  ·rfl
  cases hr:decide (x.Rows.length≤64)
  ·rfl
  simp only[Bool.and_self,Bool.not_true,cf,Bool.true_and];have hr':=of_decide_eq_true hr;rw[jc x.Rows (fun x=>decide (x.Name.length≤30)) (qV (i:Int) c0 c1 c2 c3 c4 c5 c6 c7 x.Name x.Rows x.Else) (fun q=>(idx x.Rows q).bind fun x1=>some (decide (((List.length x1.Name:Nat):Int)>30))) (by omega) (fun K q=>?_) fun i x hx=>?_,bsQ]
  ·cases x.Rows.all (fun x=>decide (x.Name.length≤30))<;>rfl
  ·rw[qV]
   simp only[Option.bind_assoc,bsQ]
  ·rw[zy hx,bsQ];exact Vr 30 rfl
theorem zSh{c0:List Def}{c1:List Table}{c2:List zY}{c3:List zB}{c4:List Cap}{c5:List View}{c6:List zf}{c7:Int}(hl:c2.length≤8):Al c0 c1 c2 c3 c4 c5 c6 c7 KK 0=some (bif c2.all (fun d=>decide (d.Name.length≤30)&&decide (d.Corners.length≤64))then .inr ()else .inl false):=by
 refine jc c2 _ _ _ (by omega) (fun K q=>rfl) fun i x hx=>?_
 simp only[zy hx,bsQ]
 exact qt 30 rfl fun _=>Vr 64 rfl
theorem zSi{c0:List Def}{c1:List Table}{c2:List zY}{c3:List zB}{c4:List Cap}{c5:List View}{c6:List zf}{c7:Int}(hl:c4.length≤8):Am c0 c1 c2 c3 c4 c5 c6 c7 KK 0=some (bif c4.all (fun d=>decide (d.Name.length≤30)&&decide (d.Corners.length≤64))then .inr ()else .inl false):=by
 refine jc c4 _ _ _ (by omega) (fun K q=>rfl) fun i x hx=>?_
 simp only[zy hx,bsQ]
 exact qt 30 rfl fun _=>Vr 64 rfl
theorem zSj{c0:List Def}{c1:List Table}{c2:List zY}{c3:List zB}{c4:List Cap}{c5:List View}{c6:List zf}{c7:Int}(hl:c5.length≤8):An c0 c1 c2 c3 c4 c5 c6 c7 KK 0=some (bif c5.all (fun d=>decide (d.Name.length≤30)&&decide (d.Targets.length≤64))then .inr ()else .inl false):=by
 refine jc c5 _ _ _ (by omega) (fun K q=>rfl) fun i x hx=>?_
 simp only[zy hx,bsQ]
 exact qt 30 rfl fun _=>Vr 64 rfl
theorem zSk{c0:List Def}{c1:List Table}{c2:List zY}{c3:List zB}{c4:List Cap}{c5:List View}{c6:List zf}{c7:Int}(hl:c3.length≤8)(hz:∀r∈c3,r.Zones.length≤9223372036854775807∧r.Except.length≤9223372036854775807):jV c0 c1 c2 c3 c4 c5 c6 c7 KK 0=some (bif c3.all zr3 then .inr ()else .inl false):=by
 refine jc c3 zr3 (jV c0 c1 c2 c3 c4 c5 c6 c7) (fun q=>(idx c3 q).bind fun x1=>((bif (decide (((List.length x1.Name:Nat):Int)>30))then some true else(xQ x1.Zones).bind fun x3=>(bif (!x3)then some true else(xQ x1.Except).bind fun x4=>(bif (!x4)then some true else(vW (Expr.mk x1.Test.Op x1.Test.N x1.Test.S x1.Test.Key x1.Test.Args)).bind fun x5=>some (!x5)))))) (by omega) (fun K q=>?_) fun i x hx=>?_
 ·rw[jV]
  simp only[Option.bind_assoc]
 ·obtain⟨h1,h2⟩:=hz x (List.mem_of_getElem? hx)
  simp only[zy hx,bsQ,zed,yd]
  exact qt 30 rfl fun _=>zkn (Zu h1) fun _=>zkn (Zu h2) fun _=>rfl
theorem zC2{p:vg}(h:zTl p):JU p=some (zOr p):=by
 unfold JU zOr;rw[qt (m:=8) 8 rfl fun _=>qt (m:=8) 8 rfl fun _=>qt (m:=8) 8 rfl fun _=>qt (m:=8) 8 rfl fun _=>qt (m:=8) 8 rfl fun _=>qt (m:=8) 8 rfl fun _=>Vr (m:=64) 64 rfl,bsQ];cases hh:(decide (p.Defs.length≤8)&&(decide (p.Tables.length≤8)&&(decide (p.Zones.length≤8)&&(decide (p.Rules.length≤8)&&(decide (p.Caps.length≤8)&&(decide (p.Views.length≤8)&&decide (p.Sun.length≤64)))))))
 ·rfl
 simp only[bn,decide_eq_true_eq]at hh;obtain⟨h1,h2,h3,h4,h5,h6,h7⟩:=hh;simp only[Bool.not_true,cf,Bool.true_and]
 exact Jh (zSf h1) fun _=>Jh (zSg h2) fun _=>Jh (zSh h3) fun _=>Jh (zSk h4 h) fun _=>Jh (zSi h5) fun _=>Jh (zSj h6) fun _=>rfl
theorem zJs{τ:Type}(n lo:Nat)(g:Nat→Bool)(ok bad:τ)(L:Nat→Int→τ)(hL:∀K (i:Nat),lo≤i→i<n→L (K+1) (i:Int)=bif g i then L K ((i+1:Nat):Int)else bad)(hE:∀K (i:Nat),n≤i→L (K+1) (i:Int)=ok):
  ∀(m a K:Nat),lo≤a→n-a≤m→m<K→L K (a:Int)=bif pd (∀k,a≤k→k<n→g k=true)then ok else bad
 |0,a,K,hlo,h,hK=>by
  obtain⟨K,rfl⟩:∃k,K=k+1:=⟨K-1,by omega⟩
  rw[hE K a (by omega),y7.2 (fun k h1 h2=>by omega)];rfl
 |m+1,a,K,hlo,h,hK=>by
  obtain⟨K,rfl⟩:∃k,K=k+1:=⟨K-1,by omega⟩
  by_cases ha:n≤a
  ·rw[hE K a ha,y7.2 (fun k h1 h2=>by omega)];rfl
  ·rw[hL K a hlo (by omega)]
   cases hg:g a with
   |false =>
    have:pd (∀k,a≤k→k<n→g k=true)=false:=by
     cases hp:pd (∀k,a≤k→k<n→g k=true)with
     |false=>rfl
     |true=>rw[y7.1 hp a (Nat.le_refl _) (by omega)]at hg;cases hg
    rw[this];rfl
   |true =>
    rw[ctQ,zJs n lo g ok bad L hL hE m (a+1) K (by omega) (by omega) (by omega)]
    have:pd (∀k,a+1≤k→k<n→g k=true)=pd (∀k,a≤k→k<n→g k=true):=kN ⟨fun h k h1 h2=>by
     by_cases hk:k=a
     ·rw[hk];exact hg
     ·exact h k (by omega) h2,fun h k h1 h2=>h k (by omega) h2⟩
    rw[this]
def ptA(p:List zG)(i:Nat):zG:=p.getD (i % p.length) default
def zko(a b c:zG):Bool :=
 (decide (0≤a.X)&&(decide (a.X≤1048576)&&(decide (0≤a.Y)&&decide (a.Y≤1048576)))) &&
 (!(decide (a.X=b.X)==decide (a.Y=b.Y))&&!(decide (a.X=b.X)==decide (b.X=c.X)))
def KQ(p:List zG)(i:Nat):Bool:=zko (ptA p i) (ptA p (i+1)) (ptA p (i+2))
theorem zC3{α β:Type}{o:Option α}{v:α}{f:α→Option β}{r:Option β}(h:o=some v)(h2:f v=r):o.bind f=r:=by rw[h,bsQ,h2]
theorem zC4(a b c:zG):((Yu a).bind fun x5=>(bif (!x5)then some true else(bif ((decide (a.X=b.X))==(decide (a.Y=b.Y)))then some true else(xd ⟨a,b⟩).bind fun x6=>(xd ⟨b,c⟩).bind fun x7=>some (x6==x7))))=some (!(zko a b c)):=by
 show((bif (decide (0≤a.X))then(bif (decide (a.X≤1048576))then(bif (decide (0≤a.Y))then some (decide (a.Y≤1048576))else some false)else some false)else some false).bind fun x5=>(bif (!x5)then some true else(bif ((decide (a.X=b.X))==(decide (a.Y=b.Y)))then some true else(some ((decide (a.X=b.X))==(decide (b.X=c.X)))))))=_
 unfold zko;cases decide (0≤a.X)
 ·rfl
 cases decide (a.X≤1048576)
 ·rfl
 cases decide (0≤a.Y)
 ·rfl
 cases decide (a.Y≤1048576)
 ·rfl
 cases (decide (a.X=b.X)==decide (a.Y=b.Y))<;>cases (decide (a.X=b.X)==decide (b.X=c.X))<;>rfl
theorem zHh(a b c:zG):((bif (decide (a.X<0))then some true else(bif (decide (a.X>1048576))then some true else(bif (decide (a.Y<0))then some true else(bif (decide (a.Y>1048576))then some true else(bif ((decide (a.X=b.X))==(decide (a.Y=b.Y)))then some true else some ((decide (a.X=b.X))==(decide (b.X=c.X)))))))):Option Bool)=some (!(zko a b c)):=by
 unfold zko
 have lt:∀x y:Int,decide (x<y)=!(decide (y≤x)):=fun x y=>by
  by_cases h:x<y
  ·rw[dt h,df (by omega)];rfl
  ·rw[df h,dt (by omega)];rfl
 have gt:∀x y:Int,decide (x>y)=!(decide (x≤y)):=fun x y=>lt y x
 rw[lt,lt,gt,gt];cases decide (0≤a.X)
 ·rfl
 cases decide (a.X≤1048576)
 ·rfl
 cases decide (0≤a.Y)
 ·rfl
 cases decide (a.Y≤1048576)
 ·rfl
 cases (decide (a.X=b.X)==decide (a.Y=b.Y))<;>cases (decide (a.X=b.X)==decide (b.X=c.X))<;>rfl
def zxm(a b:zG):Bool:=decide (a.X<b.X)||(decide (a.X=b.X)&&decide (a.Y<b.Y))
def zHi(p:List zG)(i:Nat):Bool:=!(decide (0<i))||zxm (ptA p 0) (ptA p i)
def zHj(a b c d:zG):Bool:=decide (max (min a.X b.X) (min c.X d.X)≤min (max a.X b.X) (max c.X d.X))&&decide (max (min a.Y b.Y) (min c.Y d.Y)≤min (max a.Y b.Y) (max c.Y d.Y))
def zC5(p:List zG)(i k:Nat):Bool:=decide ((k+1) % p.length=i)||!(zHj (ptA p i) (ptA p (i+1)) (ptA p k) (ptA p (k+1)))
def Jv(p:List zG):Prop:=(4≤p.length∧p.length≤60)∧(∀i,0≤i→i<p.length→(KQ p i&&zHi p i)=true)∧(∀i,0≤i→i<p.length→pd (∀k,i+2≤k→k<p.length→zC5 p i k=true)=true)∧¬(ptA p 0).X=(ptA p 1).X
theorem zoy{p:List zG}{i:Nat}(h:0<p.length):idx p (((i % p.length:Nat)):Int)=some (ptA p i):=zJp (Nat.mod_lt _ h)
theorem Qg{p:List zG}{i:Nat}(h:i<p.length):idx p ((i:Nat):Int)=some (ptA p i):=by
 have:=zoy (p:=p) (i:=i) (by omega)
 rwa [Nat.mod_eq_of_lt h]at this
theorem WW{i n:Nat}:Int.tmod (i:Int) (n:Int)=((i % n:Nat):Int):=rfl
theorem zSl{p:List zG}{i:Nat}:ptA p (i % p.length)=ptA p i:=by unfold ptA;rw[Nat.mod_mod]
theorem zNi{p:List zG}{i:Nat}:ptA p (i % p.length+1)=ptA p (i+1):=by unfold ptA;rw[Nat.mod_add_mod]
def zoz(p:List zG)(i:Nat):zI:=⟨ptA p i,ptA p (i+1)⟩
theorem zC6{p:List zG}(h0:0<p.length)(h1:p.length≤60):∃l,Kq p=some l∧l.length=p.length∧∀j<p.length,l[j]?=some (zoz p j):=by
 have hr:(List.range p.length).length=p.length:=List.length_range
 have key:=zeb (List.range p.length) (fun s i=>List.set s i (zoz p i)) (fun s=>some s) (fun i s=>s.length=p.length∧∀j<i,s[j]?=some (zoz p j)) (fun K q s=>wD p ((List.length p:Nat):Int) K (q,s))
  (List.replicate (Int.toNat ((List.length p:Nat):Int)) (zI.mk (zG.mk 0 0) (zG.mk 0 0))) (by omega) ⟨by simp,fun j hj=>by omega⟩ (fun K i x s hx hs=>?_) (fun K s hs=>?_)
 ·refine⟨_,?_,key.2.1,fun j hj=>key.2.2 j (by omega)⟩
  unfold Kq;rw[zi (by omega),bsQ,key.1];rfl
 ·have hi:=jb hx
  rw[hr]at hi
  have hxi:x=i:=by simpa[List.getElem?_range,hi]using hx.symm
  subst hxi;obtain⟨s1,s2⟩:=hs;refine⟨?_,by rw[List.length_set];exact s1,fun j hj=>?_⟩
  ·show wD p ((List.length p:Nat):Int) (K+1) ((x:Int),s)=_
   rw[wD];simp only[dt (show(x:Int)<((List.length p:Nat):Int) by omega),ctQ,Qg hi,bsQ];rw[zi (by omega),bsQ,ya (by omega),WW,zoy h0,bsQ,zi (by omega),bsQ];simp only[Int.toNat_natCast];rw[List.getElem?_eq_getElem (by omega),bsQ];rfl
  ·by_cases hjx:j=x
   ·subst hjx
    rw[List.getElem?_set_self (by omega)]
   ·rw[List.getElem?_set_ne (Ne.symm hjx)]
    exact s2 j (by omega)
 ·rw[hr,wD]
  simp only[yZ,cf]
theorem zxn(a b:zG):(HV a b).bind (fun x=>some (decide (x≥0)))=some (!(zxm a b)):=by
 have hc:∀x y:Int,ku x y=some (if x<y then -1 else if x>y then 1 else 0):=fun x y=>by
  unfold ku HU;simp only[bsQ,decide_true,Bool.not_true,cf];by_cases h:x<y
  ·rw[dt h,if_pos h];rfl
  ·rw[df h,if_neg h]
   by_cases h2:x>y
   ·rw[dt h2,if_pos h2];rfl
   ·rw[df h2,if_neg h2];rfl
 have ho:∀x y:Int,ZX [x,y]=some (if x=0 then y else x):=fun x y=>by
  unfold ZX
  have e:KK=(KK-3)+3:=by have:=ja (n:=10) (by omega);omega
  rw[e,qb];simp only[show decide ((0:Int)<((List.length [x,y]:Nat):Int))=true from rfl,ctQ,show idx [x,y] 0=some x from rfl,bsQ];by_cases h:x=0
  ·rw[dt h,if_pos h]
   simp only[Bool.not_true,cf];rw[show w64 (0+1)=1 from rfl,qb];simp only[show decide ((1:Int)<((List.length [x,y]:Nat):Int))=true from rfl,ctQ,show idx [x,y] 1=some y from rfl,bsQ];by_cases h2:y=0
   ·rw[dt h2,h2]
    simp only[Bool.not_true,cf];rw[show w64 (1+1)=2 from rfl,qb];rfl
   ·rw[df h2];rfl
  ·rw[df h,if_neg h];rfl
 unfold HV;simp only[hc,ho,bsQ];unfold zxm;refine congrArg some ?_;by_cases h1:a.X<b.X
 ·simp[h1]
 ·by_cases h2:a.X>b.X
  ·have:¬a.X=b.X:=by omega
   simp[h1,h2,this]
  ·have:a.X=b.X:=by omega
   by_cases h3:a.Y<b.Y
   ·simp[this,h3]
   ·by_cases h4:a.Y>b.Y
    ·simp[this,h3,h4]
    ·simp[this,h3,h4]
theorem zam{p:Prop}(h:¬p):pd p=false:=(kS (b:=false) ⟨fun h=>(by cases h),fun h2=>absurd h2 h⟩).symm
theorem Vs(n:Nat)(g:Nat→Bool)(L:Nat→Int→Option (Bool⊕Unit))(a:Nat)(hn:n<4611686018427387904)(hL:∀K (i:Nat),a≤i→i<n→L (K+1) (i:Int)=bif g i then L K ((i+1:Nat):Int)else some (Sum.inl false))(hE:∀K (i:Nat),n≤i→L (K+1) (i:Int)=some (Sum.inr ())):
  L KK (a:Int)=some (bif pd (∀k,a≤k→k<n→g k=true)then Sum.inr ()else Sum.inl false):=by
 rw[zJs n a g _ _ L hL hE n a KK (Nat.le_refl _) (by omega) (ja (by omega))];cases pd (∀k,a≤k→k<n→g k=true)<;>rfl
theorem kO{o:Option (Bool⊕Unit)}{g r:Prop}{f:Unit→Option Bool}(h:o=some (bif pd g then Sum.inr ()else Sum.inl false))(hr:g→f ()=some (pd r)):o.bind (yA some f)=some (pd (g∧r)):=by
 rw[xm]
 exact Jh h fun hg=>hr (y7.1 hg)
theorem zC7{p:List zG}:wE p=some (pd (Jv p)):=by
 unfold wE zca;by_cases hh:4≤p.length∧p.length≤60
 ·obtain⟨h4,h60⟩:=hh
  obtain⟨l,e1,e2,e3⟩:=zC6 (p:=p) (by omega) h60
  have hl:∀j<p.length,idx l (j:Int)=some (zoz p j):=fun j hj=>zy (e3 j hj)
  rw[df (show ¬((List.length p:Nat):Int)<4 by omega),df (show ¬((List.length p:Nat):Int)>60 by omega),cf,bsQ,cf,e1,bsQ,zCs];have hp:pd (Jv p)=pd ((∀i,0≤i→i<p.length→(KQ p i&&zHi p i)=true)∧(∀i,0≤i→i<p.length→pd (∀k,i+2≤k→k<p.length→zC5 p i k=true)=true)∧¬(ptA p 0).X=(ptA p 1).X):=kN ⟨fun h=>h.2,fun h=>⟨⟨h4,h60⟩,h⟩⟩;rw[hp,e2]
  refine kO ?_ fun _=>kO ?_ fun _=>?_
  ·refine Vs p.length (fun i=>KQ p i&&zHi p i) (jP p l (List.length p:Nat)) 0 (by omega) (fun K i _ hi=>?_) (fun K i hi=>?_)
   ·rw[jP]
    simp only[dt (show(i:Int)<((List.length p:Nat):Int) by omega),ctQ,hl i hi,bsQ,e2];rw[zi (by omega),bsQ,ya (by omega),WW,hl _ (Nat.mod_lt _ (by omega))];rw[show zoz p ((i+1) % p.length)=zoz p (i+1) by unfold zoz;rw[zSl,zNi],bsQ];have h0:idx p 0=some (ptA p 0):=Qg (p:=p) (i:=0) (by omega);refine zC3 (zC4 (ptA p i) (ptA p (i+1)) (ptA p (i+2))) ?_;unfold KQ zHi;cases zko (ptA p i) (ptA p (i+1)) (ptA p (i+2))
    ·rfl
    simp only[Bool.not_true,cf,Bool.true_and];by_cases hi0:0<i
    ·rw[dt (show(i:Int)>0 by omega),dt hi0,ctQ,h0,Qg hi]
     simp only[bsQ,zxn,Bool.not_true,Bool.false_or];cases zxm (ptA p 0) (ptA p i)<;>rfl
    ·rw[df (show ¬(i:Int)>0 by omega),df hi0];rfl
   ·rw[jP,df (by omega)];rfl
  ·refine Vs p.length (fun i=>pd (∀k,i+2≤k→k<p.length→zC5 p i k=true)) (jR l (List.length p:Nat)) 0 (by omega) (fun K i _ hi=>?_) (fun K i hi=>?_)
   ·rw[jR,dt (show(i:Int)<((List.length p:Nat):Int) by omega),ctQ,kM (by omega) (by omega),show((i:Int)+2)=((i+2:Nat):Int) by omega]
    rw[Vs p.length (fun k=>zC5 p i k) (jQ l (i:Int) (List.length p:Nat)) (i+2) (by omega) (fun K k hlo hk=>?_) (fun K k hk=>?_),ya (by omega)]
    ·cases pd (∀k,i+2≤k→k<p.length→zC5 p i k=true)<;>rfl
    ·rw[jQ,e2,dt (show(k:Int)<((List.length p:Nat):Int) by omega),ctQ,kM (n:=(i:Int)+_) (by omega) (by omega),kM (by omega) (by omega),hl i hi,hl k hk]
     have hm:decide ((i:Int)+((List.length p:Nat):Int)-(k:Int)>1)=!(decide ((k+1) % p.length=i)):=by
      by_cases hk1:k+1=p.length
      ·rw[hk1,Nat.mod_self]
       by_cases hi0:0=i
       ·rw[dt hi0,df (by omega)];rfl
       ·rw[df hi0,dt (by omega)];rfl
      ·rw[Nat.mod_eq_of_lt (by omega)]
       rw[df (show ¬k+1=i by omega),dt (by omega)];rfl
     rw[hm];unfold zC5;cases decide ((k+1) % p.length=i)
     ·simp only[Bool.not_false,ctQ,bsQ,Bool.false_or]
      show((bif (decide (max (min (ptA p i).X (ptA p (i+1)).X) (min (ptA p k).X (ptA p (k+1)).X)≤min (max (ptA p i).X (ptA p (i+1)).X) (max (ptA p k).X (ptA p (k+1)).X)))then some (decide (max (min (ptA p i).Y (ptA p (i+1)).Y) (min (ptA p k).Y (ptA p (k+1)).Y)≤min (max (ptA p i).Y (ptA p (i+1)).Y) (max (ptA p k).Y (ptA p (k+1)).Y)))else some false).bind fun x4=>some x4).bind _=_
      rw[zd6,bsQ,bsQ,ya (by omega)];unfold zHj;cases (decide (max (min (ptA p i).X (ptA p (i+1)).X) (min (ptA p k).X (ptA p (k+1)).X)≤min (max (ptA p i).X (ptA p (i+1)).X) (max (ptA p k).X (ptA p (k+1)).X))&&decide (max (min (ptA p i).Y (ptA p (i+1)).Y) (min (ptA p k).Y (ptA p (k+1)).Y)≤min (max (ptA p i).Y (ptA p (i+1)).Y) (max (ptA p k).Y (ptA p (k+1)).Y)))<;>rfl
     ·rw[ya (by omega)];rfl
    ·rw[jQ,e2,df (by omega)];rfl
   ·rw[jR,df (by omega)];rfl
  ·have:=hl 0 (by omega)
   rw[show((0:Nat):Int)=0 from rfl]at this;rw[this,bsQ,xd,bsQ];exact congrArg some (kS (by simp[zoz]))
 ·rw[zam (fun h=>hh h.1)]
  by_cases h4:p.length<4
  ·rw[dt (show((List.length p:Nat):Int)<4 by omega)];rfl
  ·rw[df (show ¬((List.length p:Nat):Int)<4 by omega),dt (show((List.length p:Nat):Int)>60 by omega)];rfl
theorem zSm(a b:zG):Wx a b=some (zxm a b):=by
 unfold Wx zxm;cases decide (a.X<b.X)<;>cases decide (a.X=b.X)<;>rfl
theorem zSn(a b c d:zG):zjr a b c d=some (zHj a b c d):=zd6 _ _
theorem zC8{p:List zG}(h4:4≤p.length)(h60:p.length≤60):H7 p=some (pd (∀i,0≤i→i<p.length→KQ p i=true)):=by
 unfold H7;rw[show(0:Int)=((0:Nat):Int) from rfl,Vs p.length (KQ p) (wX p (List.length p:Nat)) 0 (by omega) (fun K i _ hi=>?_) (fun K i hi=>?_)]
 ·cases pd (∀i,0≤i→i<p.length→KQ p i=true)<;>rfl
 ·rw[wX,dt (show(i:Int)<((List.length p:Nat):Int) by omega),ctQ,Qg hi,bsQ,zi (by omega),bsQ,ya (by omega),WW,zoy (by omega),bsQ,bsQ,
   kM (n:=(i:Int)+2) (by omega) (by omega),show((i:Int)+2)=((i+2:Nat):Int) by omega,WW,zoy (by omega),bsQ]
  refine zC3 (zHh (ptA p i) (ptA p (i+1)) (ptA p (i+2))) ?_;unfold KQ;cases zko (ptA p i) (ptA p (i+1)) (ptA p (i+2))<;>rfl
 ·rw[wX,df (by omega)];rfl
theorem zC9{p:List zG}:oH p=some (pd (Jv p)):=by
 unfold oH;by_cases hh:4≤p.length∧p.length≤60
 ·obtain⟨h4,h60⟩:=hh
  have i0:idx p 0=some (ptA p 0):=Qg (p:=p) (i:=0) (by omega);have i1:idx p 1=some (ptA p 1):=Qg (p:=p) (i:=1) (by omega);rw[df (show ¬((List.length p:Nat):Int)<4 by omega),df (show ¬((List.length p:Nat):Int)>60 by omega),cf,bsQ,cf,zC8 h4 h60,bsQ,i0,i1];simp only[bsQ]
  have hp:pd (Jv p)=pd (((∀i,0≤i→i<p.length→KQ p i=true)∧(ptA p 0).Y=(ptA p 1).Y)∧(∀i,0≤i→i<p.length→(zHi p i&&pd (∀k,i+2≤k→k<p.length→zC5 p i k=true))=true)∧True):=kN (by
   have hc:KQ p 0=true→(¬(ptA p 0).X=(ptA p 1).X↔(ptA p 0).Y=(ptA p 1).Y):=fun h=>by
    unfold KQ zko at h;simp only[bn,Bool.not_eq_true',beq_eq_false_iff_ne,ne_eq,decide_eq_decide]at h;have h2:¬((ptA p 0).X=(ptA p 1).X↔(ptA p 0).Y=(ptA p 1).Y):=h.2.1;by_cases hx:(ptA p 0).X=(ptA p 1).X<;>by_cases hy:(ptA p 0).Y=(ptA p 1).Y<;>simp_all
   simp only[Jv,bn];constructor
   ·rintro⟨_,a,b,c⟩
    exact⟨⟨fun i h1 h2=>(a i h1 h2).1,(hc (a 0 (Nat.le_refl _) (by omega)).1).1 c⟩,fun i h1 h2=>⟨(a i h1 h2).2,b i h1 h2⟩,trivial⟩
   ·rintro⟨⟨a,b⟩,c,_⟩
    exact⟨⟨h4,h60⟩,fun i h1 h2=>⟨a i h1 h2,(c i h1 h2).1⟩,fun i h1 h2=>(c i h1 h2).2,(hc (a 0 (Nat.le_refl _) (by omega))).2 b⟩)
  rw[hp]
  have e1:(bif (!(pd (∀i,0≤i→i<p.length→KQ p i=true)))then some true else some (!(decide ((ptA p 0).Y=(ptA p 1).Y))))=some (!(pd ((∀i,0≤i→i<p.length→KQ p i=true)∧(ptA p 0).Y=(ptA p 1).Y))):=by
   rw[xm,q8];cases pd (∀i,0≤i→i<p.length→KQ p i=true)<;>rfl
  rw[e1,bsQ]
  cases hq:pd ((∀i,0≤i→i<p.length→KQ p i=true)∧(ptA p 0).Y=(ptA p 1).Y)with
  |false=>rw[xm,hq];rfl
  |true =>
   rw[xm,hq,Bool.not_true,cf,Bool.true_and]
   refine kO ?_ fun _=>by rw[y7.2 trivial]
   refine Vs p.length (fun i=>zHi p i&&pd (∀k,i+2≤k→k<p.length→zC5 p i k=true)) (jT p (List.length p:Nat)) 0 (by omega) (fun K i _ hi=>?_) (fun K i hi=>?_)
   ·rw[jT,dt (show(i:Int)<((List.length p:Nat):Int) by omega),ctQ]
    have e2:(bif (decide ((i:Int)>0))then(idx p 0).bind fun x2=>(idx p (i:Int)).bind fun x3=>(Wx x2 x3).bind fun x4=>some (!x4)else some false)=some (!(zHi p i)):=by
     unfold zHi;by_cases hi0:0<i
     ·rw[dt (show(i:Int)>0 by omega),dt hi0,ctQ,i0,Qg hi]
      simp only[bsQ,zSm,Bool.not_true,Bool.false_or]
     ·rw[df (show ¬(i:Int)>0 by omega),df hi0];rfl
    rw[e2,bsQ]
    cases zHi p i with
    |false=>rfl
    |true =>
     rw[Bool.not_true,cf,Bool.true_and,kM (n:=(i:Int)+2) (by omega) (by omega),show((i:Int)+2)=((i+2:Nat):Int) by omega];rw[Vs p.length (fun k=>zC5 p i k) (jS p (List.length p:Nat) (i:Int)) (i+2) (by omega) (fun K k hlo hk=>?_) (fun K k hk=>?_),ya (by omega)]
     ·cases pd (∀k,i+2≤k→k<p.length→zC5 p i k=true)<;>rfl
     ·rw[jS,dt (show(k:Int)<((List.length p:Nat):Int) by omega),ctQ,zi (by omega),bsQ,ya (by omega),WW,ya (by omega)]
      have i2:idx p ((i+1:Nat):Int)=some (ptA p (i+1)):=Qg (by omega);rw[Qg hi,i2,Qg hk,zoy (by omega)];simp only[bsQ,zSn];rw[wS (p:=(((k+1) % p.length:Nat):Int)=(i:Int)) (q:=(k+1) % p.length=i) (by omega)];unfold zC5;cases decide ((k+1) % p.length=i)
      ·simp only[Bool.not_false,ctQ,bsQ,Bool.false_or]
       cases zHj (ptA p i) (ptA p (i+1)) (ptA p k) (ptA p (k+1))<;>rfl
      ·rfl
     ·rw[jS,df (by omega)];rfl
   ·rw[jT,df (by omega)];rfl
 ·rw[zam (fun h=>hh h.1)]
  by_cases h4:p.length<4
  ·rw[dt (show((List.length p:Nat):Int)<4 by omega)];rfl
  ·rw[df (show ¬((List.length p:Nat):Int)<4 by omega),dt (show((List.length p:Nat):Int)>60 by omega)];rfl
def ZD(s:List UInt8):List (List UInt8)→Option Nat
 |[]=>none
 |x::r=>if x=s then some 0 else(ZD s r).map (·+1)
def zkp:Option Nat→Int
 |some i=>(i:Int)
 |none=>-1
theorem zHk(l:List (List UInt8))(s:List UInt8)(hl:l.length<4611686018427387904):∀(r:List (List UInt8))(i K:Nat),l.drop i=r→i≤l.length→r.length<K→qk l s K (i:Int)=some (match ZD s r with|some j=>.inl ((i+j:Nat):Int)|none=>.inr ()):=by
 intro r
 induction r with
 |nil =>
  intro i K hr hi hK
  obtain⟨K,rfl⟩:∃k,K=k+1:=⟨K-1,by omega⟩
  have:=drop_nil hr hi;rw[qk,df (by omega)];rfl
 |cons c r ih =>
  intro i K hr hi hK
  obtain⟨K,rfl⟩:∃k,K=k+1:=⟨K-1,by omega⟩
  obtain⟨h1,h2,h3⟩:=y6 hr;simp only[lc]at hK;rw[qk,dt (by omega),ctQ,zy h1,bsQ,ZD];by_cases hc:c=s
  ·rw[dt hc,if_pos hc];rfl
  ·rw[df hc,if_neg hc,cf,ya (by omega),ih (i+1) K h2 (by omega) (by omega)]
   cases ZD s r with
   |none=>rfl
   |some j=>simp only[Option.map_some];congr 3;omega
theorem zJt{l:List (List UInt8)}{s:List UInt8}(hl:l.length<4611686018427387904):Ww l s=some (zkp (ZD s l)):=by
 unfold Ww;rw[show((0:Int))=((0:Nat):Int) from rfl,zHk l s hl l 0 KK rfl (by omega) (ja (by omega))]
 cases ZD s l with
 |none=>rfl
 |some j=>simp[yA,zkp]
theorem zee{s:List UInt8}:∀{l:List (List UInt8)},(ZD s l).isSome=decide (s∈l)
 |[]=>by simp[ZD]
 |x::r=>by
  rw[ZD];by_cases h:x=s
  ·rw[if_pos h];simp[h]
  ·rw[if_neg h,Option.isSome_map,zee]
   exact wS (by simp[Ne.symm h])
def RES:List (List UInt8):=[zws,HH,K1,zby,uz,kp,yy,wc,yW,xO,zOi,ZA,AL,zwt,zOj,yX,HI,qQ,AM,oB,wC,Y1,yQ,JM,K2,JN,kq]
def zM(s:List UInt8):Bool:=zd8 s&&!(decide (s∈RES))
def zr4:List (List UInt8)→List UInt8
 |[]=>[32]
 |w::r=>32::(w++zr4 r)
theorem zHl:∀l,∃t,zr4 l=32::t
 |[]=>⟨[],rfl⟩
 |w::r=>⟨_,rfl⟩
theorem zJu{t:List UInt8}:∀{s w:List UInt8},(∀b∈s,b≠32)→(∀b∈w,b≠32)→(s++[32]).isPrefixOf (w++32::t)=decide (s=w)
 |[],[],_,_=>by simp[List.isPrefixOf]
 |[],b::w,_,h=>by
  have:=h b (List.mem_cons_self ..);simp[List.isPrefixOf,Ne.symm this]
 |a::s,[],h,_=>by
  have:=h a (List.mem_cons_self ..);simp[List.isPrefixOf,this]
 |a::s,b::w,h,h'=>by
  have ih:=zJu (t:=t) (s:=s) (w:=w) (fun x hx=>h x (mcQ _ hx)) (fun x hx=>h' x (mcQ _ hx));simp only[List.cons_append,List.isPrefixOf,ih];by_cases e:a=b
  ·subst e;simp
  ·simp[e]
theorem zuw{x y:List UInt8}:∀{w:List UInt8},(∀b∈w,b≠32)→JE (w++x) (32::y)=JE x (32::y)
 |[],_=>rfl
 |b::w,h=>by
  have h1:=h b (List.mem_cons_self ..);rw[List.cons_append,JE,zuw fun c hc=>h c (mcQ _ hc)];simp[List.isPrefixOf,Ne.symm h1]
theorem zo0{s:List UInt8}(hs:∀b∈s,b≠32):∀{l:List (List UInt8)},(∀w∈l,∀b∈w,b≠32)→JE (zr4 l) (32::(s++[32]))=decide (s∈l)
 |[],_=>by cases s<;>simp[zr4,JE,List.isPrefixOf]
 |w::r,h=>by
  obtain⟨t,ht⟩:=zHl r;have hw:=h w (List.mem_cons_self ..);rw[zr4,JE,zuw hw,zo0 hs fun x hx=>h x (mcQ _ hx)]
  have:(32::(s++[32])).isPrefixOf (32::(w++zr4 r))=decide (s=w):=by
   rw[ht];simp only[List.isPrefixOf,beq_self_eq_true,Bool.true_and];exact zJu hs hw
  rw[this];by_cases e:s=w
  ·simp[e]
  ·simp[e]
theorem zHm{c:UInt8}(h:uv c=true):c≠32:=by
 rintro rfl;revert h;decide
theorem zhp{s:List UInt8}(h:zd8 s=true):s.all uv=true:=by
 cases s with
 |nil=>cases h
 |cons c r =>
  simp only[zd8,bn]at h;simp only[List.all_cons,uv,h.1,Bool.true_or,Bool.true_and];exact h.2.2
theorem zux{s:List UInt8}(h:zd8 s=true):s.length≤20∧s≠[]:=by
 cases s with
 |nil=>cases h
 |cons c r =>
  simp only[zd8,bn,decide_eq_true_eq]at h;exact⟨h.2.1,by simp⟩
theorem y0{s:List UInt8}(h:s.length<4611686018427387904):K3 s=some (zM s):=by
 unfold K3 zM;rw[zSa h,bsQ]
 cases hw:zd8 s with
 |false=>rfl
 |true =>
  have h20:=(zux hw).1
  have hs:∀b∈s,b≠32:=fun b hb=>zHm (List.all_eq_true.1 (zhp hw) b hb)
  have e:=zo0 hs (l:=RES) (by decide)
  have e2:zr4 RES=zh:=by decide
  rw[e2]at e;rw[ctQ,zi (by simp[t__];omega),bsQ,zi (by simp[t__];omega),bsQ]
  have:Kp zh ((t__++s)++t__)=some (decide (s∈RES)):=by
   unfold Kp Kl;rw[zi (by decide),bsQ,← e];rfl
  rw[this];rfl
theorem yN{s:List UInt8}(h:s.length<4611686018427387904):uJ s=some (zM s):=by
 unfold uJ zM;rw[zSb h,bsQ]
 cases hw:zd8 s with
 |false=>rfl
 |true =>
  rw[ctQ,show JT=some RES from rfl,bsQ,zJt (by decide),bsQ,← zee]
  cases ZD s RES with
  |none=>rfl
  |some i =>
   simp only[Option.isSome_some,Bool.not_true,Bool.and_false];exact congrArg some (df (show ¬((i:Int)<0) by omega))
-- numerals
def vD(u:Bool):List (List UInt8)→List (List UInt8)→Bool
 |_,[]=>true
 |seen,s::r=>zM s&&(!(u&&decide (s∈seen))&&vD u (seen++[s]) r)
theorem Zv:∀(l seen:List (List UInt8)),vD false seen l=l.all zM
 |[],_=>rfl
 |s::r,seen=>by rw[vD,Zv r,List.all_cons,Bool.false_and,Bool.not_false,Bool.true_and]
theorem YN:∀(l seen:List (List UInt8)),vD true seen l=true→l.all zM=true
 |[],_,_=>rfl
 |s::r,seen,h=>by
  simp only[vD,bn]at h;rw[List.all_cons,h.1,YN r _ h.2.2];rfl
def KM(m:List (List UInt8×Bool))(L:List (List UInt8)):Prop:=∀x,(xw x m).getD false=decide (x∈L)
theorem zo1{α β:Type}[DecidableEq α](a x:α)(b:β):∀l:List (α×β),xw x (AJ a b l)=if x=a then some b else xw x l
 |[]=>by simp[AJ,xw]
 |(k,c)::r=>by
  have ih:=zo1 a x b r;simp only[AJ];by_cases h:a=k
  ·rw[if_pos h]
   subst h;by_cases h2:x=a
   ·simp[xw,h2]
   ·simp[xw,h2]
  ·rw[if_neg h]
   simp only[xw,ih];by_cases h2:x=k
   ·subst h2
    simp[Ne.symm h]
   ·simp[h2]
theorem KM.add{m:List (List UInt8×Bool)}{L:List (List UInt8)}(h:KM m L)(s:List UInt8):KM (AJ s true m) (L++[s]):=fun x=>by
 rw[zo1];by_cases hx:x=s
 ·rw[if_pos hx];simp[hx]
 ·rw[if_neg hx,h x]
  exact wS (by simp[hx])
theorem zDa(u:Bool)(l:List (List UInt8))(hs:l.length<4611686018427387904)(hn:∀s∈l,s.length<4611686018427387904):
  ∀(r:List (List UInt8))(i K:Nat)(m:List (List UInt8×Bool))(seen:List (List UInt8)),l.drop i=r→i≤l.length→r.length<K→KM m seen →
   uY u l (l.length:Nat) K ((i:Int),m)=some (bif vD u seen r then .inr ()else .inl false)
 |[],i,K,m,seen,hr,hi,hK,hm=>by
  obtain⟨K,rfl⟩:∃k,K=k+1:=⟨K-1,by simp at hK;omega⟩
  have:=drop_nil hr hi;subst this;rw[uY,yZ];rfl
 |x::r,i,K,m,seen,hr,hi,hK,hm=>by
  obtain⟨K,rfl⟩:∃k,K=k+1:=⟨K-1,by simp at hK;omega⟩
  obtain⟨h1,h2,h3⟩:=y6 hr;simp only[lc]at hK;rw[uY,vk h1,ctQ,vD];simp only[zy h1,bsQ,y0 (hn x (List.mem_of_getElem? h1)),hm x]
  cases zM x with
  |false=>rfl
  |true =>
   simp only[Bool.not_true,cf,Bool.true_and]
   cases hu:(u&&decide (x∈seen))with
   |true =>
    simp only[bn]at hu;rw[hu.1,hu.2];rfl
   |false =>
    have:(bif u then some (decide (x∈seen))else some false)=some false:=by
     cases u
     ·rfl
     ·simpa using hu
    rw[this];simp only[bsQ,cf,Bool.not_false,Bool.true_and];rw[ya (by omega)];exact zDa u l hs hn r (i+1) K _ _ h2 (by omega) (by omega) (hm.add x)
theorem zkq{u:Bool}{l:List (List UInt8)}(hs:l.length<4611686018427387904)(hn:∀s∈l,s.length<4611686018427387904):qd l u=some (vD u [] l):=by
 unfold qd;rw[show(0:Int)=((0:Nat):Int) from rfl,zDa u l hs hn l 0 KK [] [] rfl (Nat.zero_le _) (ja (by omega)) (fun x=>by simp[xw])];cases vD u [] l<;>rfl
theorem zuy(l:List (List UInt8))(hs:l.length<4611686018427387904)(hn:∀s∈l,s.length<4611686018427387904):
  ∀(r:List (List UInt8))(i K:Nat),l.drop i=r→i≤l.length→r.length<K→vY l K (i:Int)=some (bif vD true (l.take i) r then .inr ()else .inl false)
 |[],i,K,hr,hi,hK=>by
  obtain⟨K,rfl⟩:∃k,K=k+1:=⟨K-1,by simp at hK;omega⟩
  have:=drop_nil hr hi;subst this;rw[vY,yZ];rfl
 |x::r,i,K,hr,hi,hK=>by
  obtain⟨K,rfl⟩:∃k,K=k+1:=⟨K-1,by simp at hK;omega⟩
  obtain⟨h1,h2,h3⟩:=y6 hr;simp only[lc]at hK;have hf:=zJt (l:=l.take i) (s:=x) (by rw[List.length_take];omega)
  have hc:cut l 0 (i:Int)=some (l.take i):=by have:=zJq (l:=l) (a:=0) (b:=i) (by omega) (by omega);simpa using this
  have hd:decide (zkp (ZD x (l.take i))≥0)=decide (x∈l.take i):=by
   rw[← zee]
   cases ZD x (l.take i)with
   |none=>rfl
   |some j=>simp[zkp]
  rw[vY,vk h1,ctQ,vD];simp only[zy h1,bsQ,yN (hn x (List.mem_of_getElem? h1)),hc,hf,hd]
  cases zM x with
  |false=>rfl
  |true =>
   simp only[Bool.not_true,cf,Bool.true_and,bsQ]
   cases decide (x∈l.take i)with
   |true=>rfl
   |false =>
    simp only[cf,Bool.not_false,Bool.true_and];rw[ya (by omega),zuy l hs hn r (i+1) K h2 (by omega) (by omega),List.take_add_one,h1];rfl
theorem zef{l:List (List UInt8)}(hs:l.length<4611686018427387904)(hn:∀s∈l,s.length<4611686018427387904):A7 l=some (vD true [] l):=by
 unfold A7;rw[show(0:Int)=((0:Nat):Int) from rfl,zuy l hs hn l 0 KK rfl (Nat.zero_le _) (ja (by omega)),List.take_zero];cases vD true [] l<;>rfl
theorem WX{l:List (List UInt8)}(hs:l.length<4611686018427387904)(hn:∀s∈l,s.length<4611686018427387904):qW l=some (l.all zM):=by
 unfold qW;rw[jc l zM (vx l) (fun q=>(idx l q).bind fun x1=>(uJ x1).bind fun x2=>some (!x2)) (by omega) (fun K q=>?_) fun i x hx=>?_]
 ·cases l.all zM<;>rfl
 ·rw[vx]
  simp only[Option.bind_assoc,bsQ]
 ·rw[zy hx,bsQ,yN (hn x (List.mem_of_getElem? hx))];rfl
theorem zhq{α β:Type}(g:α→β):∀(l:List α)(s:List β),l.foldl (fun s x=>s++[g x]) s=s++l.map g
 |[],s=>by simp
 |x::l,s=>by rw[List.foldl_cons,zhq g l];simp
theorem zhr{α τ:Type}(l:List α)(g:α→List UInt8)(L:Nat→(Int×List (List UInt8))→τ)(fin:List (List UInt8)→τ)(hs:l.length≤1000)
  (hL:∀K (i:Nat) x s,l[i]?=some x→List.length s≤1000→L (K+1) ((i:Int),s)=L K (((i+1:Nat):Int),s++[g x])) (hE:∀K s,L (K+1) ((l.length:Int),s)=fin s):L KK (0,[])=fin (l.map g):=by
 have:=(zeb l (fun s x=>s++[g x]) fin (fun i s=>s.length=i∧i≤l.length) (fun K q s=>L K (q,s)) [] (by omega) ⟨rfl,Nat.zero_le _⟩ (fun K i x s h hi=>⟨hL K i x s h (by omega),by have:=jb h;simp;omega⟩) (fun K s _=>hE K s)).1;rw[zhq]at this;simpa using this
theorem qu{α:Type}[Inhabited α](l:List α)(g:α→List UInt8)(m:Nat)(L:Nat→(Int×List (List UInt8))→Option (List (List UInt8)))(B:α→Option (List UInt8))(hs:l.length≤1000)(hn:∀x∈l,(g x).length<4611686018427387904)
  (hL:∀K q,L (K+1) q=(bif (decide (q.1<((List.length l:Nat):Int)))then(idx l q.1).bind fun x1=>(B x1).bind fun x2=>(grd (List.length (q.2++([x2]:List (List UInt8)))*16≤140737488355328)).bind fun _=>L K ((w64 (q.1+1)),(q.2++([x2]:List (List UInt8))))else some q.2))
  (hB:∀x,B x=some (g x)):(L KK (0,[])).bind (fun x1=>(bif (decide (((List.length l:Nat):Int)≤(m:Int)))then(qd x1 true).bind fun x2=>some x2 else some false))=some (decide (l.length≤m)&&vD true [] (l.map g)):=by
 rw[zhr l g L some hs (fun K i x s h h2=>?_) (fun K s=>by rw[hL];simp only[yZ,cf]),bsQ,zkq (by simp;omega) (fun s h=>?_),zd7 _ m rfl]
 ·cases decide (l.length≤m)<;>rfl
 ·obtain⟨x,h1,rfl⟩:=List.mem_map.1 h
  exact hn x h1
 ·have:=jb h
  rw[hL];simp only[vk h,ctQ,zy h,bsQ,hB];rw[zi (by rw[la,List.length_singleton];omega),bsQ,ya (by omega)]
-- expressions
def kd(op:Int):Int:=if op≤3 then 0 else if op=9∨op=15 then 1 else if op=16 then 3 else 2
def yw(e:Expr):Bool:=decide (0≤e.Op∧e.Op<17∧((e.Args.length:Nat):Int)=kd e.Op)&&(decide (if e.Op=0 then 0≤e.N∧e.N≤1099511627776 else e.N=0) &&
 ((if e.Op=1∨e.Op=2∨e.Op=3 then zM e.S else decide (e.S=[]))&&(if e.Op=2 then zM e.Key else decide (e.Key=[]))))
def okE:Nat→Expr→Bool
 |0,_=>false
 |d+1,e=>yw e&&e.Args.all (okE d)
theorem zuz{n:Int}(h0:0≤n)(h1:n<17):n=0∨n=1∨n=2∨n=3∨n=9∨n=15∨n=16∨(¬n=0∧¬n=1∧¬n=2∧¬n=3∧¬n=9∧¬n=15∧¬n=16∧¬n≤3):=by omega
theorem J6{n:Int}:decide ((min (max n 0) 1099511627776)=n)=decide (0≤n∧n≤1099511627776):=wS (by omega)
theorem At{s:List UInt8}:decide ([]=s)=decide (s=[]):=wS ⟨Eq.symm,Eq.symm⟩
theorem kP{n:Int}:decide (0=n)=decide (n=0):=wS ⟨Eq.symm,Eq.symm⟩
theorem J7{n:Int}:(bif decide (n<0)then some true else some (decide (n>1099511627776)))=some (!(decide (0≤n∧n≤1099511627776))):=by
 by_cases h1:n<0
 ·rw[dt h1,df (show ¬(0≤n∧n≤1099511627776) by omega)];rfl
 ·by_cases h2:n>1099511627776
  ·rw[df h1,dt h2,df (show ¬(0≤n∧n≤1099511627776) by omega)];rfl
  ·rw[df h1,df h2,dt (show 0≤n∧n≤1099511627776 by omega)];rfl
theorem Zw{n:Int}:(bif (!(decide (n=0)))then some true else some (!(decide (0≤n∧n≤1099511627776))))=some (!(decide (n=0))):=by
 by_cases h:n=0
 ·subst h;rfl
 ·rw[df h];rfl
theorem zJv{n:Int}{s k:List UInt8}{az:List Expr} :yw ⟨0,n,s,k,az⟩=(decide (((az.length:Nat):Int)=0)&&(decide (0≤n∧n≤1099511627776)&&(decide (s=[])&&decide (k=[])))):=by
 simp[yw,kd]
theorem r_0{RK:Nat}{d n:Int}{s k:List UInt8}{az:List Expr}{r:Bool}(hd:¬d=0)(hS:s.length<4611686018427387904)(hK:k.length<4611686018427387904)(h:yw ⟨0,n,s,k,az⟩=true→xn (yg RK) d az ((List.length az:Nat):Int) KK 0=some (bif r then Sum.inr ()else Sum.inl false)):yg (RK+1) ⟨0,n,s,k,az⟩ d=some (yw ⟨0,n,s,k,az⟩&&r):=by
 rw[zJv ]at h ⊢;rw[yg];simp only[df hd,J6,At,kP,y0 hS,y0 hK,Bool.not_true,Bool.not_false,cf,ctQ,bsQ,yA,Int.reduceEq,Int.reduceLT,Int.reduceGE,Int.reduceLE,decide_true,decide_false,ge_iff_le]
 cases ha:decide (((az.length:Nat):Int)=0)<;>cases hb:decide (0≤n∧n≤1099511627776)<;>cases hc:decide (s=[])<;>cases he:decide (k=[])<;>(first|rfl|(rw[ha,hb,hc,he]at h;rw[h rfl];cases r<;>rfl))
theorem f_0{RK:Nat}{d n:Int}{s k:List UInt8}{az:List Expr}{r:Bool}(hd:¬d=0)(hS:s.length<4611686018427387904)(hK:k.length<4611686018427387904)(h:yw ⟨0,n,s,k,az⟩=true→yR (zW RK) d 0 n s k az KK 0=some (bif r then Sum.inr ()else Sum.inl false)):zW (RK+1) ⟨0,n,s,k,az⟩ d=some (yw ⟨0,n,s,k,az⟩&&r):=by
 rw[zJv ]at h ⊢;rw[zW];simp only[df hd,xi,J7,Zw,yN hS,yN hK,Bool.not_true,Bool.not_false,cf,ctQ,bsQ,yA,Int.reduceEq,Int.reduceLT,Int.reduceGE,Int.reduceLE,decide_true,decide_false,ge_iff_le];by_cases hs0:s=[]
 ·subst hs0
  by_cases hk0:k=[]
  ·subst hk0
   cases ha:decide (((az.length:Nat):Int)=0)<;>cases hb:decide (0≤n∧n≤1099511627776)<;>(first|rfl|(rw[ha,hb]at h;rw[h rfl];cases r<;>rfl))
  ·rw[df hk0]at *
   cases ha:decide (((az.length:Nat):Int)=0)<;>cases hb:decide (0≤n∧n≤1099511627776)<;>cases hc:zM k<;>(first|rfl|(rw[ha,hb,hc]at h;rw[h rfl];cases r<;>rfl))
 ·rw[df hs0]at *
  by_cases hk0:k=[]
  ·subst hk0
   cases ha:decide (((az.length:Nat):Int)=0)<;>cases hb:decide (0≤n∧n≤1099511627776)<;>cases hc:zM s<;>(first|rfl|(rw[ha,hb,hc]at h;rw[h rfl];cases r<;>rfl)|(rw[ha,hb]at h;rw[h rfl];cases r<;>rfl))
  ·rw[df hk0]at *
   cases ha:decide (((az.length:Nat):Int)=0)<;>cases hb:decide (0≤n∧n≤1099511627776)<;>cases hc:zM s<;>cases he:zM k<;>(first|rfl|(rw[ha,hb,hc,he]at h;rw[h rfl];cases r<;>rfl))
theorem zJw{n:Int}{s k:List UInt8}{az:List Expr} :yw ⟨1,n,s,k,az⟩=(decide (((az.length:Nat):Int)=0)&&(decide (n=0)&&(zM s&&decide (k=[])))):=by
 simp[yw,kd]
theorem r_1{RK:Nat}{d n:Int}{s k:List UInt8}{az:List Expr}{r:Bool}(hd:¬d=0)(hS:s.length<4611686018427387904)(hK:k.length<4611686018427387904)(h:yw ⟨1,n,s,k,az⟩=true→xn (yg RK) d az ((List.length az:Nat):Int) KK 0=some (bif r then Sum.inr ()else Sum.inl false)):yg (RK+1) ⟨1,n,s,k,az⟩ d=some (yw ⟨1,n,s,k,az⟩&&r):=by
 rw[zJw ]at h ⊢;rw[yg];simp only[df hd,J6,At,kP,y0 hS,y0 hK,Bool.not_true,Bool.not_false,cf,ctQ,bsQ,yA,Int.reduceEq,Int.reduceLT,Int.reduceGE,Int.reduceLE,decide_true,decide_false,ge_iff_le]
 cases ha:decide (((az.length:Nat):Int)=0)<;>cases hb:decide (n=0)<;>cases hc:zM s<;>cases he:decide (k=[])<;>(first|rfl|(rw[ha,hb,hc,he]at h;rw[h rfl];cases r<;>rfl))
theorem f_1{RK:Nat}{d n:Int}{s k:List UInt8}{az:List Expr}{r:Bool}(hd:¬d=0)(hS:s.length<4611686018427387904)(hK:k.length<4611686018427387904)(h:yw ⟨1,n,s,k,az⟩=true→yR (zW RK) d 1 n s k az KK 0=some (bif r then Sum.inr ()else Sum.inl false)):zW (RK+1) ⟨1,n,s,k,az⟩ d=some (yw ⟨1,n,s,k,az⟩&&r):=by
 rw[zJw ]at h ⊢;rw[zW];simp only[df hd,xi,J7,Zw,yN hS,yN hK,Bool.not_true,Bool.not_false,cf,ctQ,bsQ,yA,Int.reduceEq,Int.reduceLT,Int.reduceGE,Int.reduceLE,decide_true,decide_false,ge_iff_le];by_cases hs0:s=[]
 ·subst hs0
  by_cases hk0:k=[]
  ·subst hk0
   cases ha:decide (((az.length:Nat):Int)=0)<;>cases hb:decide (n=0)<;>(first|rfl|(rw[ha,hb]at h;rw[h rfl];cases r<;>rfl))
  ·rw[df hk0]at *
   cases ha:decide (((az.length:Nat):Int)=0)<;>cases hb:decide (n=0)<;>cases hc:zM k<;>(first|rfl|(rw[ha,hb,hc]at h;rw[h rfl];cases r<;>rfl))
 ·rw[df hs0]at *
  by_cases hk0:k=[]
  ·subst hk0
   cases ha:decide (((az.length:Nat):Int)=0)<;>cases hb:decide (n=0)<;>cases hc:zM s<;>(first|rfl|(rw[ha,hb,hc]at h;rw[h rfl];cases r<;>rfl)|(rw[ha,hb]at h;rw[h rfl];cases r<;>rfl))
  ·rw[df hk0]at *
   cases ha:decide (((az.length:Nat):Int)=0)<;>cases hb:decide (n=0)<;>cases hc:zM s<;>cases he:zM k<;>(first|rfl|(rw[ha,hb,hc,he]at h;rw[h rfl];cases r<;>rfl))
theorem zJx{n:Int}{s k:List UInt8}{az:List Expr} :yw ⟨2,n,s,k,az⟩=(decide (((az.length:Nat):Int)=0)&&(decide (n=0)&&(zM s&&zM k))):=by
 simp[yw,kd]
theorem r_2{RK:Nat}{d n:Int}{s k:List UInt8}{az:List Expr}{r:Bool}(hd:¬d=0)(hS:s.length<4611686018427387904)(hK:k.length<4611686018427387904)(h:yw ⟨2,n,s,k,az⟩=true→xn (yg RK) d az ((List.length az:Nat):Int) KK 0=some (bif r then Sum.inr ()else Sum.inl false)):yg (RK+1) ⟨2,n,s,k,az⟩ d=some (yw ⟨2,n,s,k,az⟩&&r):=by
 rw[zJx ]at h ⊢;rw[yg];simp only[df hd,J6,At,kP,y0 hS,y0 hK,Bool.not_true,Bool.not_false,cf,ctQ,bsQ,yA,Int.reduceEq,Int.reduceLT,Int.reduceGE,Int.reduceLE,decide_true,decide_false,ge_iff_le]
 cases he:zM k with
 |false=>simp only[Bool.and_false,Bool.false_and];rfl
 |true =>
  simp only[Bool.not_true,cf,bsQ,yA,kP,decide_true]
  cases ha:decide (((az.length:Nat):Int)=0)<;>cases hb:decide (n=0)<;>cases hc:zM s<;>(first|rfl|(rw[ha,hb,hc,he]at h;rw[h rfl];cases r<;>rfl))
theorem f_2{RK:Nat}{d n:Int}{s k:List UInt8}{az:List Expr}{r:Bool}(hd:¬d=0)(hS:s.length<4611686018427387904)(hK:k.length<4611686018427387904)(h:yw ⟨2,n,s,k,az⟩=true→yR (zW RK) d 2 n s k az KK 0=some (bif r then Sum.inr ()else Sum.inl false)):zW (RK+1) ⟨2,n,s,k,az⟩ d=some (yw ⟨2,n,s,k,az⟩&&r):=by
 rw[zJx ]at h ⊢;rw[zW];simp only[df hd,xi,J7,Zw,yN hS,yN hK,Bool.not_true,Bool.not_false,cf,ctQ,bsQ,yA,Int.reduceEq,Int.reduceLT,Int.reduceGE,Int.reduceLE,decide_true,decide_false,ge_iff_le];by_cases hs0:s=[]
 ·subst hs0
  by_cases hk0:k=[]
  ·subst hk0
   cases ha:decide (((az.length:Nat):Int)=0)<;>cases hb:decide (n=0)<;>(first|rfl|(rw[ha,hb]at h;rw[h rfl];cases r<;>rfl))
  ·rw[df hk0]at *
   cases ha:decide (((az.length:Nat):Int)=0)<;>cases hb:decide (n=0)<;>cases hc:zM k<;>(first|rfl|(rw[ha,hb,hc]at h;rw[h rfl];cases r<;>rfl))
 ·rw[df hs0]at *
  by_cases hk0:k=[]
  ·subst hk0
   cases ha:decide (((az.length:Nat):Int)=0)<;>cases hb:decide (n=0)<;>cases hc:zM s<;>(first|rfl|(rw[ha,hb,hc]at h;rw[h rfl];cases r<;>rfl)|(rw[ha,hb]at h;rw[h rfl];cases r<;>rfl))
  ·rw[df hk0]at *
   cases ha:decide (((az.length:Nat):Int)=0)<;>cases hb:decide (n=0)<;>cases hc:zM s<;>cases he:zM k<;>(first|rfl|(rw[ha,hb,hc,he]at h;rw[h rfl];cases r<;>rfl))
theorem zJy{n:Int}{s k:List UInt8}{az:List Expr} :yw ⟨3,n,s,k,az⟩=(decide (((az.length:Nat):Int)=0)&&(decide (n=0)&&(zM s&&decide (k=[])))):=by
 simp[yw,kd]
theorem r_3{RK:Nat}{d n:Int}{s k:List UInt8}{az:List Expr}{r:Bool}(hd:¬d=0)(hS:s.length<4611686018427387904)(hK:k.length<4611686018427387904)(h:yw ⟨3,n,s,k,az⟩=true→xn (yg RK) d az ((List.length az:Nat):Int) KK 0=some (bif r then Sum.inr ()else Sum.inl false)):yg (RK+1) ⟨3,n,s,k,az⟩ d=some (yw ⟨3,n,s,k,az⟩&&r):=by
 rw[zJy ]at h ⊢;rw[yg];simp only[df hd,J6,At,kP,y0 hS,y0 hK,Bool.not_true,Bool.not_false,cf,ctQ,bsQ,yA,Int.reduceEq,Int.reduceLT,Int.reduceGE,Int.reduceLE,decide_true,decide_false,ge_iff_le]
 cases ha:decide (((az.length:Nat):Int)=0)<;>cases hb:decide (n=0)<;>cases hc:zM s<;>cases he:decide (k=[])<;>(first|rfl|(rw[ha,hb,hc,he]at h;rw[h rfl];cases r<;>rfl))
theorem f_3{RK:Nat}{d n:Int}{s k:List UInt8}{az:List Expr}{r:Bool}(hd:¬d=0)(hS:s.length<4611686018427387904)(hK:k.length<4611686018427387904)(h:yw ⟨3,n,s,k,az⟩=true→yR (zW RK) d 3 n s k az KK 0=some (bif r then Sum.inr ()else Sum.inl false)):zW (RK+1) ⟨3,n,s,k,az⟩ d=some (yw ⟨3,n,s,k,az⟩&&r):=by
 rw[zJy ]at h ⊢;rw[zW];simp only[df hd,xi,J7,Zw,yN hS,yN hK,Bool.not_true,Bool.not_false,cf,ctQ,bsQ,yA,Int.reduceEq,Int.reduceLT,Int.reduceGE,Int.reduceLE,decide_true,decide_false,ge_iff_le];by_cases hs0:s=[]
 ·subst hs0
  by_cases hk0:k=[]
  ·subst hk0
   cases ha:decide (((az.length:Nat):Int)=0)<;>cases hb:decide (n=0)<;>(first|rfl|(rw[ha,hb]at h;rw[h rfl];cases r<;>rfl))
  ·rw[df hk0]at *
   cases ha:decide (((az.length:Nat):Int)=0)<;>cases hb:decide (n=0)<;>cases hc:zM k<;>(first|rfl|(rw[ha,hb,hc]at h;rw[h rfl];cases r<;>rfl))
 ·rw[df hs0]at *
  by_cases hk0:k=[]
  ·subst hk0
   cases ha:decide (((az.length:Nat):Int)=0)<;>cases hb:decide (n=0)<;>cases hc:zM s<;>(first|rfl|(rw[ha,hb,hc]at h;rw[h rfl];cases r<;>rfl)|(rw[ha,hb]at h;rw[h rfl];cases r<;>rfl))
  ·rw[df hk0]at *
   cases ha:decide (((az.length:Nat):Int)=0)<;>cases hb:decide (n=0)<;>cases hc:zM s<;>cases he:zM k<;>(first|rfl|(rw[ha,hb,hc,he]at h;rw[h rfl];cases r<;>rfl))
theorem zJz{n:Int}{s k:List UInt8}{az:List Expr} :yw ⟨9,n,s,k,az⟩=(decide (((az.length:Nat):Int)=1)&&(decide (n=0)&&(decide (s=[])&&decide (k=[])))):=by
 simp[yw,kd]
theorem r_9{RK:Nat}{d n:Int}{s k:List UInt8}{az:List Expr}{r:Bool}(hd:¬d=0)(hS:s.length<4611686018427387904)(hK:k.length<4611686018427387904)(h:yw ⟨9,n,s,k,az⟩=true→xn (yg RK) d az ((List.length az:Nat):Int) KK 0=some (bif r then Sum.inr ()else Sum.inl false)):yg (RK+1) ⟨9,n,s,k,az⟩ d=some (yw ⟨9,n,s,k,az⟩&&r):=by
 rw[zJz ]at h ⊢;rw[yg];simp only[df hd,J6,At,kP,y0 hS,y0 hK,Bool.not_true,Bool.not_false,cf,ctQ,bsQ,yA,Int.reduceEq,Int.reduceLT,Int.reduceGE,Int.reduceLE,decide_true,decide_false,ge_iff_le]
 cases ha:decide (((az.length:Nat):Int)=1)<;>cases hb:decide (n=0)<;>cases hc:decide (s=[])<;>cases he:decide (k=[])<;>(first|rfl|(rw[ha,hb,hc,he]at h;rw[h rfl];cases r<;>rfl))
theorem f_9{RK:Nat}{d n:Int}{s k:List UInt8}{az:List Expr}{r:Bool}(hd:¬d=0)(hS:s.length<4611686018427387904)(hK:k.length<4611686018427387904)(h:yw ⟨9,n,s,k,az⟩=true→yR (zW RK) d 9 n s k az KK 0=some (bif r then Sum.inr ()else Sum.inl false)):zW (RK+1) ⟨9,n,s,k,az⟩ d=some (yw ⟨9,n,s,k,az⟩&&r):=by
 rw[zJz ]at h ⊢;rw[zW];simp only[df hd,xi,J7,Zw,yN hS,yN hK,Bool.not_true,Bool.not_false,cf,ctQ,bsQ,yA,Int.reduceEq,Int.reduceLT,Int.reduceGE,Int.reduceLE,decide_true,decide_false,ge_iff_le];by_cases hs0:s=[]
 ·subst hs0
  by_cases hk0:k=[]
  ·subst hk0
   cases ha:decide (((az.length:Nat):Int)=1)<;>cases hb:decide (n=0)<;>(first|rfl|(rw[ha,hb]at h;rw[h rfl];cases r<;>rfl))
  ·rw[df hk0]at *
   cases ha:decide (((az.length:Nat):Int)=1)<;>cases hb:decide (n=0)<;>cases hc:zM k<;>(first|rfl|(rw[ha,hb,hc]at h;rw[h rfl];cases r<;>rfl))
 ·rw[df hs0]at *
  by_cases hk0:k=[]
  ·subst hk0
   cases ha:decide (((az.length:Nat):Int)=1)<;>cases hb:decide (n=0)<;>cases hc:zM s<;>(first|rfl|(rw[ha,hb,hc]at h;rw[h rfl];cases r<;>rfl)|(rw[ha,hb]at h;rw[h rfl];cases r<;>rfl))
  ·rw[df hk0]at *
   cases ha:decide (((az.length:Nat):Int)=1)<;>cases hb:decide (n=0)<;>cases hc:zM s<;>cases he:zM k<;>(first|rfl|(rw[ha,hb,hc,he]at h;rw[h rfl];cases r<;>rfl))
theorem zDb{n:Int}{s k:List UInt8}{az:List Expr} :yw ⟨15,n,s,k,az⟩=(decide (((az.length:Nat):Int)=1)&&(decide (n=0)&&(decide (s=[])&&decide (k=[])))):=by
 simp[yw,kd]
theorem r_15{RK:Nat}{d n:Int}{s k:List UInt8}{az:List Expr}{r:Bool}(hd:¬d=0)(hS:s.length<4611686018427387904)(hK:k.length<4611686018427387904)(h:yw ⟨15,n,s,k,az⟩=true→xn (yg RK) d az ((List.length az:Nat):Int) KK 0=some (bif r then Sum.inr ()else Sum.inl false)):yg (RK+1) ⟨15,n,s,k,az⟩ d=some (yw ⟨15,n,s,k,az⟩&&r):=by
 rw[zDb ]at h ⊢;rw[yg];simp only[df hd,J6,At,kP,y0 hS,y0 hK,Bool.not_true,Bool.not_false,cf,ctQ,bsQ,yA,Int.reduceEq,Int.reduceLT,Int.reduceGE,Int.reduceLE,decide_true,decide_false,ge_iff_le]
 cases ha:decide (((az.length:Nat):Int)=1)<;>cases hb:decide (n=0)<;>cases hc:decide (s=[])<;>cases he:decide (k=[])<;>(first|rfl|(rw[ha,hb,hc,he]at h;rw[h rfl];cases r<;>rfl))
theorem f_15{RK:Nat}{d n:Int}{s k:List UInt8}{az:List Expr}{r:Bool}(hd:¬d=0)(hS:s.length<4611686018427387904)(hK:k.length<4611686018427387904)(h:yw ⟨15,n,s,k,az⟩=true→yR (zW RK) d 15 n s k az KK 0=some (bif r then Sum.inr ()else Sum.inl false)):zW (RK+1) ⟨15,n,s,k,az⟩ d=some (yw ⟨15,n,s,k,az⟩&&r):=by
 rw[zDb ]at h ⊢;rw[zW];simp only[df hd,xi,J7,Zw,yN hS,yN hK,Bool.not_true,Bool.not_false,cf,ctQ,bsQ,yA,Int.reduceEq,Int.reduceLT,Int.reduceGE,Int.reduceLE,decide_true,decide_false,ge_iff_le];by_cases hs0:s=[]
 ·subst hs0
  by_cases hk0:k=[]
  ·subst hk0
   cases ha:decide (((az.length:Nat):Int)=1)<;>cases hb:decide (n=0)<;>(first|rfl|(rw[ha,hb]at h;rw[h rfl];cases r<;>rfl))
  ·rw[df hk0]at *
   cases ha:decide (((az.length:Nat):Int)=1)<;>cases hb:decide (n=0)<;>cases hc:zM k<;>(first|rfl|(rw[ha,hb,hc]at h;rw[h rfl];cases r<;>rfl))
 ·rw[df hs0]at *
  by_cases hk0:k=[]
  ·subst hk0
   cases ha:decide (((az.length:Nat):Int)=1)<;>cases hb:decide (n=0)<;>cases hc:zM s<;>(first|rfl|(rw[ha,hb,hc]at h;rw[h rfl];cases r<;>rfl)|(rw[ha,hb]at h;rw[h rfl];cases r<;>rfl))
  ·rw[df hk0]at *
   cases ha:decide (((az.length:Nat):Int)=1)<;>cases hb:decide (n=0)<;>cases hc:zM s<;>cases he:zM k<;>(first|rfl|(rw[ha,hb,hc,he]at h;rw[h rfl];cases r<;>rfl))
theorem zDc{n:Int}{s k:List UInt8}{az:List Expr} :yw ⟨16,n,s,k,az⟩=(decide (((az.length:Nat):Int)=3)&&(decide (n=0)&&(decide (s=[])&&decide (k=[])))):=by
 simp[yw,kd]
theorem r_16{RK:Nat}{d n:Int}{s k:List UInt8}{az:List Expr}{r:Bool}(hd:¬d=0)(hS:s.length<4611686018427387904)(hK:k.length<4611686018427387904)(h:yw ⟨16,n,s,k,az⟩=true→xn (yg RK) d az ((List.length az:Nat):Int) KK 0=some (bif r then Sum.inr ()else Sum.inl false)):yg (RK+1) ⟨16,n,s,k,az⟩ d=some (yw ⟨16,n,s,k,az⟩&&r):=by
 rw[zDc ]at h ⊢;rw[yg];simp only[df hd,J6,At,kP,y0 hS,y0 hK,Bool.not_true,Bool.not_false,cf,ctQ,bsQ,yA,Int.reduceEq,Int.reduceLT,Int.reduceGE,Int.reduceLE,decide_true,decide_false,ge_iff_le]
 cases ha:decide (((az.length:Nat):Int)=3)<;>cases hb:decide (n=0)<;>cases hc:decide (s=[])<;>cases he:decide (k=[])<;>(first|rfl|(rw[ha,hb,hc,he]at h;rw[h rfl];cases r<;>rfl))
theorem f_16{RK:Nat}{d n:Int}{s k:List UInt8}{az:List Expr}{r:Bool}(hd:¬d=0)(hS:s.length<4611686018427387904)(hK:k.length<4611686018427387904)(h:yw ⟨16,n,s,k,az⟩=true→yR (zW RK) d 16 n s k az KK 0=some (bif r then Sum.inr ()else Sum.inl false)):zW (RK+1) ⟨16,n,s,k,az⟩ d=some (yw ⟨16,n,s,k,az⟩&&r):=by
 rw[zDc ]at h ⊢;rw[zW];simp only[df hd,xi,J7,Zw,yN hS,yN hK,Bool.not_true,Bool.not_false,cf,ctQ,bsQ,yA,Int.reduceEq,Int.reduceLT,Int.reduceGE,Int.reduceLE,decide_true,decide_false,ge_iff_le];by_cases hs0:s=[]
 ·subst hs0
  by_cases hk0:k=[]
  ·subst hk0
   cases ha:decide (((az.length:Nat):Int)=3)<;>cases hb:decide (n=0)<;>(first|rfl|(rw[ha,hb]at h;rw[h rfl];cases r<;>rfl))
  ·rw[df hk0]at *
   cases ha:decide (((az.length:Nat):Int)=3)<;>cases hb:decide (n=0)<;>cases hc:zM k<;>(first|rfl|(rw[ha,hb,hc]at h;rw[h rfl];cases r<;>rfl))
 ·rw[df hs0]at *
  by_cases hk0:k=[]
  ·subst hk0
   cases ha:decide (((az.length:Nat):Int)=3)<;>cases hb:decide (n=0)<;>cases hc:zM s<;>(first|rfl|(rw[ha,hb,hc]at h;rw[h rfl];cases r<;>rfl)|(rw[ha,hb]at h;rw[h rfl];cases r<;>rfl))
  ·rw[df hk0]at *
   cases ha:decide (((az.length:Nat):Int)=3)<;>cases hb:decide (n=0)<;>cases hc:zM s<;>cases he:zM k<;>(first|rfl|(rw[ha,hb,hc,he]at h;rw[h rfl];cases r<;>rfl))
theorem zJ0{op n:Int}{s k:List UInt8}{az:List Expr}(hlo:0≤op)(hhi:op<17)(h0:¬op=0)(h1:¬op=1)(h2:¬op=2)(h3:¬op=3)(h9:¬op=9)(h15:¬op=15)(h16:¬op=16)(h3l:¬op≤3):yw ⟨op,n,s,k,az⟩=(decide (((az.length:Nat):Int)=2)&&(decide (n=0)&&(decide (s=[])&&decide (k=[])))):=by
 simp[yw,kd,h0,h1,h2,h3,h9,h15,h16,h3l,hlo,hhi]
theorem r_b{RK:Nat}{op d n:Int}{s k:List UInt8}{az:List Expr}{r:Bool}(hlo:0≤op)(hhi:op<17)(h0:¬op=0)(h1:¬op=1)(h2:¬op=2)(h3:¬op=3)(h9:¬op=9)(h15:¬op=15)(h16:¬op=16)(h3l:¬op≤3)(hd:¬d=0)(hS:s.length<4611686018427387904)(hK:k.length<4611686018427387904)(h:yw ⟨op,n,s,k,az⟩=true→xn (yg RK) d az ((List.length az:Nat):Int) KK 0=some (bif r then Sum.inr ()else Sum.inl false)):yg (RK+1) ⟨op,n,s,k,az⟩ d=some (yw ⟨op,n,s,k,az⟩&&r):=by
 rw[zJ0 hlo hhi h0 h1 h2 h3 h9 h15 h16 h3l]at h ⊢;rw[yg];simp only[df h0,df h1,df h2,df h3,df h9,df h15,df h16,df h3l,df (Int.not_lt.2 hlo),df (Int.not_le.2 hhi),df hd,J6,At,kP,y0 hS,y0 hK,Bool.not_true,Bool.not_false,cf,ctQ,bsQ,yA,Int.reduceEq,Int.reduceLT,Int.reduceGE,Int.reduceLE,decide_true,decide_false,ge_iff_le]
 cases ha:decide (((az.length:Nat):Int)=2)<;>cases hb:decide (n=0)<;>cases hc:decide (s=[])<;>cases he:decide (k=[])<;>(first|rfl|(rw[ha,hb,hc,he]at h;rw[h rfl];cases r<;>rfl))
theorem f_b{RK:Nat}{op d n:Int}{s k:List UInt8}{az:List Expr}{r:Bool}(hlo:0≤op)(hhi:op<17)(h0:¬op=0)(h1:¬op=1)(h2:¬op=2)(h3:¬op=3)(h9:¬op=9)(h15:¬op=15)(h16:¬op=16)(h3l:¬op≤3)(hd:¬d=0)(hS:s.length<4611686018427387904)(hK:k.length<4611686018427387904)(h:yw ⟨op,n,s,k,az⟩=true→yR (zW RK) d op n s k az KK 0=some (bif r then Sum.inr ()else Sum.inl false)):zW (RK+1) ⟨op,n,s,k,az⟩ d=some (yw ⟨op,n,s,k,az⟩&&r):=by
 rw[zJ0 hlo hhi h0 h1 h2 h3 h9 h15 h16 h3l]at h ⊢;rw[zW];simp only[df h0,df h1,df h2,df h3,df h9,df h15,df h16,df h3l,df (Int.not_lt.2 hlo),df (Int.not_le.2 hhi),df hd,xi,J7,Zw,yN hS,yN hK,Bool.not_true,Bool.not_false,cf,ctQ,bsQ,yA,Int.reduceEq,Int.reduceLT,Int.reduceGE,Int.reduceLE,decide_true,decide_false,ge_iff_le];by_cases hs0:s=[]
 ·subst hs0
  by_cases hk0:k=[]
  ·subst hk0
   cases ha:decide (((az.length:Nat):Int)=2)<;>cases hb:decide (n=0)<;>(first|rfl|(rw[ha,hb]at h;rw[h rfl];cases r<;>rfl))
  ·rw[df hk0]at *
   cases ha:decide (((az.length:Nat):Int)=2)<;>cases hb:decide (n=0)<;>cases hc:zM k<;>(first|rfl|(rw[ha,hb,hc]at h;rw[h rfl];cases r<;>rfl))
 ·rw[df hs0]at *
  by_cases hk0:k=[]
  ·subst hk0
   cases ha:decide (((az.length:Nat):Int)=2)<;>cases hb:decide (n=0)<;>cases hc:zM s<;>(first|rfl|(rw[ha,hb,hc]at h;rw[h rfl];cases r<;>rfl)|(rw[ha,hb]at h;rw[h rfl];cases r<;>rfl))
  ·rw[df hk0]at *
   cases ha:decide (((az.length:Nat):Int)=2)<;>cases hb:decide (n=0)<;>cases hc:zM s<;>cases he:zM k<;>(first|rfl|(rw[ha,hb,hc,he]at h;rw[h rfl];cases r<;>rfl))
theorem zSo{RK:Nat}{d:Int}{e:Expr}{r:Bool}(hd:¬d=0)(hS:e.S.length<4611686018427387904)(hK:e.Key.length<4611686018427387904)(h:yw e=true→xn (yg RK) d e.Args ((List.length e.Args:Nat):Int) KK 0=some (bif r then Sum.inr ()else Sum.inl false)):yg (RK+1) e d=some (yw e&&r):=by
 obtain⟨op,n,s,k,az⟩:=e;by_cases hlo:0≤op
 ·by_cases hhi:op<17
  ·obtain rfl|rfl|rfl|rfl|rfl|rfl|rfl|⟨h0,h1,h2,h3,h9,h15,h16,h3l⟩:=zuz hlo hhi
   ·exact r_0 hd hS hK h
   ·exact r_1 hd hS hK h
   ·exact r_2 hd hS hK h
   ·exact r_3 hd hS hK h
   ·exact r_9 hd hS hK h
   ·exact r_15 hd hS hK h
   ·exact r_16 hd hS hK h
   ·exact r_b hlo hhi h0 h1 h2 h3 h9 h15 h16 h3l hd hS hK h
  ·have:yw ⟨op,n,s,k,az⟩=false:=by simp[yw,hhi]
   rw[this,yg];simp only[df hd,df (show ¬op<0 by omega),dt (show op≥17 by omega)];rfl
 ·have:yw ⟨op,n,s,k,az⟩=false:=by simp[yw,hlo]
  rw[this,yg];simp only[df hd,dt (show op<0 by omega)];rfl
theorem zSp{RK:Nat}{d:Int}{e:Expr}{r:Bool}(hd:¬d=0)(hS:e.S.length<4611686018427387904)(hK:e.Key.length<4611686018427387904)(h:yw e=true→yR (zW RK) d e.Op e.N e.S e.Key e.Args KK 0=some (bif r then Sum.inr ()else Sum.inl false)):zW (RK+1) e d=some (yw e&&r):=by
 obtain⟨op,n,s,k,az⟩:=e;by_cases hlo:0≤op
 ·by_cases hhi:op<17
  ·obtain rfl|rfl|rfl|rfl|rfl|rfl|rfl|⟨h0,h1,h2,h3,h9,h15,h16,h3l⟩:=zuz hlo hhi
   ·exact f_0 hd hS hK h
   ·exact f_1 hd hS hK h
   ·exact f_2 hd hS hK h
   ·exact f_3 hd hS hK h
   ·exact f_9 hd hS hK h
   ·exact f_15 hd hS hK h
   ·exact f_16 hd hS hK h
   ·exact f_b hlo hhi h0 h1 h2 h3 h9 h15 h16 h3l hd hS hK h
  ·have:yw ⟨op,n,s,k,az⟩=false:=by simp[yw,hhi]
   rw[this,zW];simp only[df hd,df (show ¬op<0 by omega),dt (show op≥17 by omega)];rfl
 ·have:yw ⟨op,n,s,k,az⟩=false:=by simp[yw,hlo]
  rw[this,zW];simp only[df hd,dt (show op<0 by omega)];rfl
theorem zDd{e:Expr}(h:As e=true):e.S.length≤30∧e.Key.length≤30:=by
 obtain⟨op,n,s,k,az⟩:=e;rw[As]at h;simp only[bn,decide_eq_true_eq]at h;exact h.2
theorem zhs{e x:Expr}(h:As e=true)(hx:x∈e.Args):As x=true:=by
 obtain⟨op,n,s,k,az⟩:=e;rw[As,YM]at h;simp only[bn]at h;exact List.all_eq_true.1 h.1 x hx
theorem zu0{e:Expr}{n:Nat}(h:W4 e≤n):e.Args.length<n:=by
 obtain⟨op,m,s,k,az⟩:=e;rw[W4]at h;have:=WT az
 show az.length<n
 omega
theorem zu1{e x:Expr}{n:Nat}(h:W4 e≤n)(hx:x∈e.Args):W4 x≤n:=by
 obtain⟨op,m,s,k,az⟩:=e;rw[W4]at h;have:=WU (show x∈az from hx);omega
theorem zHn:∀(d:Nat)(e:Expr)(K:Nat),d<K→d≤1000→W4 e≤1000→As e=true→yg K e (d:Int)=some (okE d e):=by
 intro d
 induction d with
 |zero =>
  intro e K hK _ _ _
  obtain⟨K,rfl⟩:∃k,K=k+1:=⟨K-1,by omega⟩
  rw[yg];rfl
 |succ d ih =>
  intro e K hK hd hn hs
  obtain⟨K,rfl⟩:∃k,K=k+1:=⟨K-1,by omega⟩
  have h1:=zDd hs;have hz:=zu0 hn;rw[okE]
  refine zSo (by omega) (by omega) (by omega) fun _=>?_
  refine jc e.Args (okE d) _ (fun q=>(idx e.Args q).bind fun x1=>(yg K (Expr.mk x1.Op x1.N x1.S x1.Key x1.Args) (w64 (((d+1:Nat):Int)-1))).bind fun x2=>some (!x2)) (by omega) (fun K q=>?_) fun i x hx=>?_
  ·rw[xn]
   simp only[Option.bind_assoc,bsQ]
  ·have hx':=List.mem_of_getElem? hx
   rw[zy hx,bsQ,yd,kM (by omega) (by omega),show(((d+1:Nat):Int)-1)=(d:Int) by omega,ih x K (by omega) (by omega) (zu1 hn hx') (zhs hs hx')];rfl
theorem zNj:∀(d:Nat)(e:Expr)(K:Nat),d<K→d≤1000→W4 e≤1000→As e=true→zW K e (d:Int)=some (okE d e):=by
 intro d
 induction d with
 |zero =>
  intro e K hK _ _ _
  obtain⟨K,rfl⟩:∃k,K=k+1:=⟨K-1,by omega⟩
  rw[zW];rfl
 |succ d ih =>
  intro e K hK hd hn hs
  obtain⟨K,rfl⟩:∃k,K=k+1:=⟨K-1,by omega⟩
  have h1:=zDd hs;have hz:=zu0 hn;rw[okE]
  refine zSp (by omega) (by omega) (by omega) fun _=>?_
  refine jc e.Args (okE d) _ (fun q=>(idx e.Args q).bind fun x1=>(zW K x1 (w64 (((d+1:Nat):Int)-1))).bind fun x2=>some (!x2)) (by omega) (fun K q=>?_) fun i x hx=>?_
  ·rw[yR]
   simp only[Option.bind_assoc,bsQ]
  ·have hx':=List.mem_of_getElem? hx
   rw[zy hx,bsQ,kM (by omega) (by omega),show(((d+1:Nat):Int)-1)=(d:Int) by omega,ih x K (by omega) (by omega) (zu1 hn hx') (zhs hs hx')];rfl
theorem zkr{e:Expr}(h:zox e=true):W4 e≤200∧As e=true:=by
 unfold zox at h;rw[bn]at h;exact⟨of_decide_eq_true h.1,h.2⟩
theorem Au{e:Expr}(h:zox e=true):vr e=some (okE 12 e):=by
 unfold vr;obtain⟨h1,h2⟩:=zkr h;rw[yd,show(12:Int)=((12:Nat):Int) from rfl,zHn 12 e KK (ja (by omega)) (by omega) (by omega) h2];rfl
theorem qF{e:Expr}(h:zox e=true):xD e=some (okE 12 e):=by
 unfold xD;obtain⟨h1,h2⟩:=zkr h;rw[yd,show(12:Int)=((12:Nat):Int) from rfl,zNj 12 e KK (ja (by omega)) (by omega) (by omega) h2];rfl
theorem zeg{a b:Int}{l:List Int}(h:l.length<1000):yb a b l=some (l.all fun n=>decide (a≤n)&&decide (n≤b)):=by
 unfold yb;rw[jc l (fun n=>decide (a≤n)&&decide (n≤b)) (oE a b l (List.length l:Nat)) (fun q=>(idx l q).bind fun x1=>(bif (decide (x1<a))then some true else some (decide (x1>b)))) (by omega) (fun K q=>?_) fun i x hx=>?_]
 ·cases l.all fun n=>decide (a≤n)&&decide (n≤b)<;>rfl
 ·rw[oE]
  simp only[Option.bind_assoc]
 ·rw[zy hx,bsQ]
  by_cases h1:a≤x
  ·rw[df (show ¬x<a by omega),dt h1,cf,Bool.true_and]
   by_cases h2:x≤b
   ·rw[dt h2,df (show ¬x>b by omega)];rfl
   ·rw[df h2,dt (show x>b by omega)];rfl
  ·rw[dt (show x<a by omega),df h1];rfl
theorem oS{a b x:Int}:yb a b [x]=some (pd (a≤x∧x≤b)):=by
 rw[zeg (by simp)];exact congrArg some (kS (by simp))
theorem YO{a b x y:Int}:yb a b [x,y]=some (pd ((a≤x∧x≤b)∧(a≤y∧y≤b))):=by
 rw[zeg (by simp)];exact congrArg some (kS (by simp))
theorem zNk{a b x y z:Int}:yb a b [x,y,z]=some (pd ((a≤x∧x≤b)∧(a≤y∧y≤b)∧(a≤z∧z≤b))):=by
 rw[zeg (by simp)];exact congrArg some (kS (by simp))
theorem yI{n a b:Int}:zC n a b=some (pd (a≤n∧n≤b)):=by
 unfold zC;rw[zd6];exact congrArg some (kS (by simp))
def zeh:Expr:=⟨0,0,[],[],[]⟩
def Jw(r:zB):Prop :=
 (0≤r.Kind∧r.Kind≤3)∧(r.Kind=0→okE 12 r.Test=true)∧(¬r.Kind=0→r.Test=zeh) ∧
 (r.Kind=1→(0≤r.zt.Side∧r.zt.Side≤3)∧(0≤r.zt.Base∧r.zt.Base≤4096)∧(0≤r.zt.Num∧r.zt.Num≤4096)∧(1≤r.zt.Den∧r.zt.Den≤4096))∧(¬r.Kind=1→r.zt=⟨0,0,0,0⟩) ∧
 (r.Kind=2→1≤r.Uses∧r.Uses≤63)∧(r.Kind=3→(0≤r.Uses∧r.Uses≤5)∧(0≤r.Other∧r.Other≤5)∧(0≤r.N∧r.N≤1048576)) ∧
 (¬r.Kind=2→¬r.Kind=3→r.Uses=0)∧(¬r.Kind=3→r.Other=0∧r.N=0)
def zr5(r:zB):Prop:=(0≤r.From∧r.From≤1073741824)∧(0≤r.Grace∧r.Grace≤1073741824)∧(0≤r.Until∧r.Until≤1073741824)∧(r.Until=0∨r.From<r.Until)
def AO(r:zB):Prop:=((r.Zones.all zM=true∧r.Except.all zM=true)∧zr5 r)∧Jw r
theorem zo2{l:List (List UInt8)}(h:zOp l=true):l.length≤10∧∀s∈l,s.length≤30:=by
 unfold zOp at h;simp only[bn,decide_eq_true_eq,List.all_eq_true]at h;exact⟨h.2,h.1⟩
theorem Av{r:zB}(h:zr3 r=true):r.Name.length≤30∧(r.Zones.length≤10∧∀s∈r.Zones,s.length≤30)∧(r.Except.length≤10∧∀s∈r.Except,s.length≤30)∧zox r.Test=true:=by
 unfold zr3 at h;simp only[bn,decide_eq_true_eq]at h;exact⟨h.1,zo2 h.2.1,zo2 h.2.2.1,h.2.2.2⟩
theorem KH{e:Expr}(h:zox e=true):Hj e:=by
 have:=(zkr h).1;unfold Hj;omega
theorem zDe{A B C:Bool}{un fr:Int}:((bif (!A)then some true else(bif (!B)then some true else(bif (!C)then some true else(bif (!(decide (un=0)))then some (decide (un≤fr))else some false)))):Option Bool)=some (!(A&&(B&&(C&&pd (un=0∨fr<un))))):=by
 have:pd (un=0∨fr<un)=(decide (un=0)||decide (fr<un)):=(kS (by simp)).symm;rw[this]
 have lt:decide (un≤fr)=!(decide (fr<un)):=by
  by_cases h:un≤fr
  ·rw[dt h,df (by omega)];rfl
  ·rw[df h,dt (by omega)];rfl
 rw[lt];cases A<;>cases B<;>cases C<;>cases decide (un=0)<;>rfl
theorem zks{p:Prop}(h:p):pd p=true:=y7.2 h
theorem zDf{r:zB}(h:zr3 r=true):oF r=some (pd (AO r)):=by
 obtain⟨_,⟨z1,z2⟩,⟨x1,x2⟩,te⟩:=Av h;obtain⟨nm,zs,ex,fr,un,gr,va,ki,t,⟨ps,pb,pn,pdn⟩,us,ot,n⟩:=r;simp only at z1 z2 x1 x2 te;have n1:=zkq (u:=false) (l:=zs) (by omega) (fun s hs=>by have:=z2 s hs;omega);have n2:=zkq (u:=false) (l:=ex) (by omega) (fun s hs=>by have:=x2 s hs;omega);rw[Zv]at n1 n2
 have sm:∀x,qf ⟨nm,zs,ex,fr,un,gr,va,ki,t,⟨ps,pb,pn,pdn⟩,us,ot,n⟩ x=some (pd ((⟨nm,zs,ex,fr,un,gr,va,ki,t,⟨ps,pb,pn,pdn⟩,us,ot,n⟩:zB)=x)):=fun x=>zos (a:=⟨nm,zs,ex,fr,un,gr,va,ki,t,⟨ps,pb,pn,pdn⟩,us,ot,n⟩) (by show zs.length<_;omega) (by show ex.length<_;omega) (KH te)
 have hp:pd (AO ⟨nm,zs,ex,fr,un,gr,va,ki,t,⟨ps,pb,pn,pdn⟩,us,ot,n⟩)=((zs.all zM&&(ex.all zM&&(pd ((0≤fr∧fr≤1073741824)∧(0≤gr∧gr≤1073741824)∧(0≤un∧un≤1073741824))&&pd (un=0∨fr<un))))&&pd (Jw ⟨nm,zs,ex,fr,un,gr,va,ki,t,⟨ps,pb,pn,pdn⟩,us,ot,n⟩)):=by
  refine(kS ?_).symm;simp only[bn,y7,AO,zr5];constructor
  ·rintro⟨⟨a,b,⟨c,d,e⟩,f⟩,g⟩;exact⟨⟨⟨a,b⟩,c,d,e,f⟩,g⟩
  ·rintro⟨⟨⟨a,b⟩,c,d,e,f⟩,g⟩;exact⟨⟨a,b,⟨c,d,e⟩,f⟩,g⟩
 rw[hp];unfold oF;simp only[n1,n2,zNk,bsQ];rw[zDe,bsQ];cases hh:(zs.all zM&&(ex.all zM&&(pd ((0≤fr∧fr≤1073741824)∧(0≤gr∧gr≤1073741824)∧(0≤un∧un≤1073741824))&&pd (un=0∨fr<un))))
 ·rfl
 simp only[Bool.not_true,cf,Bool.true_and];by_cases k0:ki=0
 ·subst k0
  simp only[decide_true,ctQ,yd,Au te,bsQ]
  have hb:pd (Jw ⟨nm,zs,ex,fr,un,gr,va,0,t,⟨ps,pb,pn,pdn⟩,us,ot,n⟩)=(okE 12 t&&pd ((⟨nm,zs,ex,fr,un,gr,va,0,t,⟨ps,pb,pn,pdn⟩,us,ot,n⟩:zB)=⟨nm,zs,ex,fr,un,gr,va,0,t,⟨0,0,0,0⟩,0,0,0⟩)):=by
   refine(kS ?_).symm;simp only[bn,y7,Jw,zB.mk.injEq,zt.mk.injEq];simp
  rw[hb,sm];cases okE 12 t<;>rfl
 ·by_cases k1:ki=1
  ·subst k1
   simp only[df k0,decide_true,ctQ,cf,yd,oS,YO,bsQ]
   have hb:pd (Jw ⟨nm,zs,ex,fr,un,gr,va,1,t,⟨ps,pb,pn,pdn⟩,us,ot,n⟩)=(pd (0≤ps∧ps≤3)&&(pd ((0≤pb∧pb≤4096)∧(0≤pn∧pn≤4096))&&(pd (1≤pdn∧pdn≤4096)&&pd ((⟨nm,zs,ex,fr,un,gr,va,1,t,⟨ps,pb,pn,pdn⟩,us,ot,n⟩:zB)=⟨nm,zs,ex,fr,un,gr,va,1,⟨0,0,[],[],[]⟩,⟨ps,pb,pn,pdn⟩,0,0,0⟩)))):=by
    refine(kS ?_).symm;simp only[bn,y7,Jw,zB.mk.injEq,zt.mk.injEq,zeh];simp
    grind
   rw[hb];cases pd (0≤ps∧ps≤3)
   ·rfl
   cases pd ((0≤pb∧pb≤4096)∧(0≤pn∧pn≤4096))
   ·rfl
   cases pd (1≤pdn∧pdn≤4096)
   ·rfl
   simp only[ctQ,bsQ,sm,Bool.true_and]
  ·by_cases k2:ki=2
   ·subst k2
    simp only[df k0,df k1,decide_true,ctQ,cf,yd,oS,YO,bsQ]
    have hb:pd (Jw ⟨nm,zs,ex,fr,un,gr,va,2,t,⟨ps,pb,pn,pdn⟩,us,ot,n⟩)=(pd (1≤us∧us≤63)&&pd ((⟨nm,zs,ex,fr,un,gr,va,2,t,⟨ps,pb,pn,pdn⟩,us,ot,n⟩:zB)=⟨nm,zs,ex,fr,un,gr,va,2,⟨0,0,[],[],[]⟩,⟨0,0,0,0⟩,us,0,0⟩)):=by
     refine(kS ?_).symm;simp only[bn,y7,Jw,zB.mk.injEq,zt.mk.injEq,zeh];simp
     grind
    rw[hb];cases pd (1≤us∧us≤63)
    ·rfl
    simp only[ctQ,bsQ,sm,Bool.true_and]
   ·by_cases k3:ki=3
    ·subst k3
     simp only[df k0,df k1,df k2,decide_true,ctQ,cf,yd,oS,YO,bsQ]
     have hb:pd (Jw ⟨nm,zs,ex,fr,un,gr,va,3,t,⟨ps,pb,pn,pdn⟩,us,ot,n⟩)=(pd ((0≤us∧us≤5)∧(0≤ot∧ot≤5))&&(pd (0≤n∧n≤1048576)&&pd ((⟨nm,zs,ex,fr,un,gr,va,3,t,⟨ps,pb,pn,pdn⟩,us,ot,n⟩:zB)=⟨nm,zs,ex,fr,un,gr,va,3,⟨0,0,[],[],[]⟩,⟨0,0,0,0⟩,us,ot,n⟩))):=by
      refine(kS ?_).symm;simp only[bn,y7,Jw,zB.mk.injEq,zt.mk.injEq,zeh];simp
      grind
     rw[hb];cases pd ((0≤us∧us≤5)∧(0≤ot∧ot≤5))
     ·rfl
     cases pd (0≤n∧n≤1048576)
     ·rfl
     simp only[ctQ,bsQ,sm,Bool.true_and]
    ·simp only[df k0,df k1,df k2,df k3,cf,bsQ]
     have hb:pd (Jw ⟨nm,zs,ex,fr,un,gr,va,ki,t,⟨ps,pb,pn,pdn⟩,us,ot,n⟩)=false:=by
      refine(kS (b:=false) ⟨fun h=>(by cases h),fun h=>?_⟩).symm;obtain⟨⟨h1,h2⟩,_⟩:=h;simp only at h1 h2;omega
     rw[hb]
theorem zDg{e:Expr}(h:Hj e):KA e=some (pd (e=zeh)):=by
 unfold KA;rw[yd,zr1 h];rfl
theorem zHo{α:Type}(c:Bool)(a b:α):(bif c then some a else some b)=some (bif c then a else b):=by cases c<;>rfl
theorem zHp(c a:Bool):(bif c then a else false)=(c&&a):=by cases c<;>rfl
theorem zHq(c a:Bool):(bif c then true else a)=(c||a):=by cases c<;>rfl
theorem zHr{r:zB}(h:zr3 r=true):kD r=some (pd (AO r)):=by
 obtain⟨_,⟨z1,z2⟩,⟨x1,x2⟩,te⟩:=Av h;obtain⟨nm,zs,ex,fr,un,gr,va,ki,t,⟨ps,pb,pn,pdn⟩,us,ot,n⟩:=r;simp only at z1 z2 x1 x2 te;have n1:=WX (l:=zs) (by omega) (fun s hs=>by have:=z2 s hs;omega);have n2:=WX (l:=ex) (by omega) (fun s hs=>by have:=x2 s hs;omega);unfold kD;simp only[n1,n2,yI,bsQ,yd,qF te,zDg (KH te),zHo,zHp,zHq];refine congrArg some (kS ?_)
 have pdf:∀p:Prop,(pd p=false)↔¬p:=fun p=>⟨fun h hp=>Bool.noConfusion (h.symm.trans (zks hp)),zam⟩
 by_cases hf:0≤fr∧fr≤1073741824
 ·rw[kM (by omega) (by omega)]
  by_cases k0:ki=0
  ·subst k0
   simp[AO,zr5,Jw,y7,pdf,zeh,hf]
   grind
  ·by_cases k1:ki=1
   ·subst k1
    simp[AO,zr5,Jw,y7,pdf,zeh,hf]
    grind
   ·by_cases k2:ki=2
    ·subst k2
     simp[AO,zr5,Jw,y7,pdf,zeh,hf]
     grind
    ·by_cases k3:ki=3
     ·subst k3
      simp[AO,zr5,Jw,y7,pdf,zeh,hf]
      grind
     ·simp[AO,zr5,Jw,y7,pdf,zeh,hf,k0,k1,k2,k3]
      grind
 ·rw[zam hf]
  simp only[Bool.not_false,Bool.true_or,Bool.or_true,ctQ];exact⟨fun h=>(by cases h),fun h=>absurd h.1.2.1 hf⟩
theorem jH{α:Type}(l:List α)(P:α→Prop)(L:Nat→Int→Option (Bool⊕Unit))(B:Int→Option Bool)(hs:l.length<4611686018427387904)
  (hL:∀K q,L (K+1) q=(bif (decide (q<((List.length l:Nat):Int)))then(B q).bind fun r=>(bif r then some (Sum.inl false)else L K (w64 (q+1)))else some (Sum.inr ())))
  (hB:∀(i:Nat) x,l[i]?=some x→B (i:Int)=some (!(pd (P x)))):L KK 0=some (bif pd (∀x∈l,P x)then Sum.inr ()else Sum.inl false):=by
 rw[jc l (fun x=>pd (P x)) L B (by omega) hL hB];have:l.all (fun x=>pd (P x))=pd (∀x∈l,P x):=kS (by simp only[List.all_eq_true,y7]);rw[this]
def Qh(p:zf):Prop:=(0≤p.X∧p.X≤1048576)∧(0≤p.Y∧p.Y≤1048576)∧(0≤p.Z_∧p.Z_≤4096)
def zxo(p:zf):Prop:=(-4096≤p.X∧p.X≤4096)∧(-4096≤p.Y∧p.Y≤4096)∧(1≤p.Z_∧p.Z_≤4096)
def kT(t:Table):Prop:=(t.Rows.length≤60∧vD true [] (t.Rows.map Entry.Name)=true)∧(-1099511627776≤t.Else∧t.Else≤1099511627776)∧∀x∈t.Rows,-1099511627776≤x.N∧x.N≤1099511627776
def zEb(c:Cap):Prop:=(0≤c.Load∧c.Load≤2)∧(0≤c.Limit∧c.Limit≤1099511627776)∧Jv c.Corners
def KR(v:View):Prop:=(0≤v.Least∧v.Least≤20)∧(1≤((v.Targets.length:Nat):Int)∧((v.Targets.length:Nat):Int)≤20)∧Qh v.Eye∧∀x∈v.Targets,Qh x
def ke{α:Type}(l:List α)(g:α→List UInt8)(m:Nat):Prop:=l.length≤m∧vD true [] (l.map g)=true
def zNl(p:vg):Prop:=(∀d∈p.Defs,okE 12 d.Body=true)∧(∀t∈p.Tables,kT t)∧(∀z∈p.Zones,Jv z.Corners)∧(∀r∈p.Rules,AO r)∧(∀c∈p.Caps,zEb c)∧(∀v∈p.Views,KR v)∧(∀d∈p.Sun,zxo d)
def Qi(p:vg):Prop :=
 (ke p.Defs Def.Name 60∧ke p.Tables Table.Name 60∧ke p.Zones zY.Name 60∧ke p.Rules zB.Name 200∧ke p.Caps Cap.Name 30∧ke p.Views View.Name 60)∧zNl p∧(0≤p.Hours∧p.Hours≤24)∧p.Sun.length≤24
theorem Vt{α:Type}{l:List α}{g:α→List UInt8}{m:Nat}:(decide (l.length≤m)&&vD true [] (l.map g))=pd (ke l g m):=kS (by simp[ke])
theorem zNm{l:List Def}(hs:l.length≤1000)(hn:∀x∈l,x.Name.length<4611686018427387904):ZY l 60=some (pd (ke l Def.Name 60)):=by
 rw[← Vt];unfold ZY
 exact qu l Def.Name 60 (HZ l 60 (List.length l:Nat)) (fun x=>some x.Name) hs hn (fun K q=>rfl) fun x=>rfl
theorem zNn{l:List Table}(hs:l.length≤1000)(hn:∀x∈l,x.Name.length<4611686018427387904):Ks l 60=some (pd (ke l Table.Name 60)):=by
 rw[← Vt];unfold Ks
 exact qu l Table.Name 60 (uD l 60 (List.length l:Nat)) (fun x=>some x.Name) hs hn (fun K q=>rfl) fun x=>rfl
theorem zNo{l:List zY}(hs:l.length≤1000)(hn:∀x∈l,x.Name.length<4611686018427387904):Kt l 60=some (pd (ke l zY.Name 60)):=by
 rw[← Vt];unfold Kt
 exact qu l zY.Name 60 (uE l 60 (List.length l:Nat)) (fun x=>some x.Name) hs hn (fun K q=>rfl) fun x=>rfl
theorem zNp{l:List zB}(hs:l.length≤1000)(hn:∀x∈l,x.Name.length<4611686018427387904):Ku l 200=some (pd (ke l zB.Name 200)):=by
 rw[← Vt];unfold Ku
 exact qu l zB.Name 200 (uF l 200 (List.length l:Nat)) (fun x=>some x.Name) hs hn (fun K q=>rfl) fun x=>rfl
theorem zNq{l:List Cap}(hs:l.length≤1000)(hn:∀x∈l,x.Name.length<4611686018427387904):Kv l 30=some (pd (ke l Cap.Name 30)):=by
 rw[← Vt];unfold Kv
 exact qu l Cap.Name 30 (uG l 30 (List.length l:Nat)) (fun x=>some x.Name) hs hn (fun K q=>rfl) fun x=>rfl
theorem zNr{l:List View}(hs:l.length≤1000)(hn:∀x∈l,x.Name.length<4611686018427387904):Kw l 60=some (pd (ke l View.Name 60)):=by
 rw[← Vt];unfold Kw
 exact qu l View.Name 60 (uH l 60 (List.length l:Nat)) (fun x=>some x.Name) hs hn (fun K q=>rfl) fun x=>rfl
theorem zNs{l:List Entry}(hs:l.length≤1000)(hn:∀x∈l,x.Name.length<4611686018427387904):Kx l 60=some (pd (ke l Entry.Name 60)):=by
 rw[← Vt];unfold Kx
 exact qu l Entry.Name 60 (uI l 60 (List.length l:Nat)) (fun x=>some x.Name) hs hn (fun K q=>rfl) fun x=>rfl
def uf(p:vg):Nat→List (List UInt8)
 |0=>p.Defs.map Def.Name
 |1=>p.Tables.map Table.Name
 |2=>p.Zones.map zY.Name
 |3=>p.Rules.map zB.Name
 |4=>p.Caps.map Cap.Name
 |_=>p.Views.map View.Name
theorem zht{α:Type}[Inhabited α](l:List α)(g:α→List UInt8)(c j:Int)(L:Nat→(Int×List (List UInt8))→Option (List (List UInt8)))(hs:l.length≤1000)
  (hL:∀K q,L (K+1) q=((bif (decide (q.1<((List.length l:Nat):Int)))then some (decide (c=j))else some false)).bind fun x1=>(bif x1 then(idx l q.1).bind fun x2=>(grd (List.length (q.2++([g x2]:List (List UInt8)))*16≤140737488355328)).bind fun _=>L K ((w64 (q.1+1)),(q.2++([g x2]:List (List UInt8))))else some q.2)) (a:List (List UInt8)):
  (¬c=j→L KK (0,a)=some a)∧(c=j→a=[]→L KK (0,a)=some (l.map g)):=by
 constructor
 ·intro h
  obtain⟨K,hK⟩:∃k,KK=k+1:=⟨KK-1,by have:=ja (n:=1) (by omega);omega⟩
  rw[hK,hL,df h];cases decide ((0:Int)<((List.length l:Nat):Int))<;>rfl
 ·rintro h rfl
  refine zhr l g L some hs (fun K i x s hx h2=>?_) (fun K s=>by rw[hL];simp only[yZ];rfl);have:=jb hx;rw[hL];simp only[vk hx,ctQ,zy hx,bsQ,dt h];rw[zi (by rw[la,List.length_singleton];omega),bsQ,ya (by omega)]
theorem zxp{p:vg}(l1:p.Defs.length≤8)(l2:p.Tables.length≤8)(l3:p.Zones.length≤8)(l4:p.Rules.length≤8)(l5:p.Caps.length≤8)(l6:p.Views.length≤8):∀i:Nat,i<6→Wv p (i:Int)=some (uf p i):=by
 intro i hi;generalize hc:(i:Int)=c
 have h1:=fun a=>zht p.Defs Def.Name c 0 (Ae c p.Defs p.Tables p.Zones p.Rules p.Caps p.Views p.Sun p.Hours) (by omega) (fun K q=>rfl) a
 have h2:=fun a=>zht p.Tables Table.Name c 1 (Af c p.Defs p.Tables p.Zones p.Rules p.Caps p.Views p.Sun p.Hours) (by omega) (fun K q=>rfl) a
 have h3:=fun a=>zht p.Zones zY.Name c 2 (Ag c p.Defs p.Tables p.Zones p.Rules p.Caps p.Views p.Sun p.Hours) (by omega) (fun K q=>rfl) a
 have h4:=fun a=>zht p.Rules zB.Name c 3 (Ah c p.Defs p.Tables p.Zones p.Rules p.Caps p.Views p.Sun p.Hours) (by omega) (fun K q=>rfl) a
 have h5:=fun a=>zht p.Caps Cap.Name c 4 (Ai c p.Defs p.Tables p.Zones p.Rules p.Caps p.Views p.Sun p.Hours) (by omega) (fun K q=>rfl) a
 have h6:=fun a=>zht p.Views View.Name c 5 (Aj c p.Defs p.Tables p.Zones p.Rules p.Caps p.Views p.Sun p.Hours) (by omega) (fun K q=>rfl) a
 unfold Wv
 obtain rfl|rfl|rfl|rfl|rfl|rfl:i=0∨i=1∨i=2∨i=3∨i=4∨i=5:=by omega
 ·obtain rfl:c=0:=by omega
  rw[(h1 _).2 rfl rfl,bsQ,(h2 _).1 (by decide),bsQ,(h3 _).1 (by decide),bsQ,(h4 _).1 (by decide),bsQ,(h5 _).1 (by decide),bsQ,(h6 _).1 (by decide),bsQ];rfl
 ·obtain rfl:c=1:=by omega
  rw[(h1 _).1 (by decide),bsQ,(h2 _).2 rfl rfl,bsQ,(h3 _).1 (by decide),bsQ,(h4 _).1 (by decide),bsQ,(h5 _).1 (by decide),bsQ,(h6 _).1 (by decide),bsQ];rfl
 ·obtain rfl:c=2:=by omega
  rw[(h1 _).1 (by decide),bsQ,(h2 _).1 (by decide),bsQ,(h3 _).2 rfl rfl,bsQ,(h4 _).1 (by decide),bsQ,(h5 _).1 (by decide),bsQ,(h6 _).1 (by decide),bsQ];rfl
 ·obtain rfl:c=3:=by omega
  rw[(h1 _).1 (by decide),bsQ,(h2 _).1 (by decide),bsQ,(h3 _).1 (by decide),bsQ,(h4 _).2 rfl rfl,bsQ,(h5 _).1 (by decide),bsQ,(h6 _).1 (by decide),bsQ];rfl
 ·obtain rfl:c=4:=by omega
  rw[(h1 _).1 (by decide),bsQ,(h2 _).1 (by decide),bsQ,(h3 _).1 (by decide),bsQ,(h4 _).1 (by decide),bsQ,(h5 _).2 rfl rfl,bsQ,(h6 _).1 (by decide),bsQ];rfl
 ·obtain rfl:c=5:=by omega
  rw[(h1 _).1 (by decide),bsQ,(h2 _).1 (by decide),bsQ,(h3 _).1 (by decide),bsQ,(h4 _).1 (by decide),bsQ,(h5 _).1 (by decide),bsQ,(h6 _).2 rfl rfl,bsQ];rfl
structure zDh(p:vg):Prop where
 d:p.Defs.length≤8
 t:p.Tables.length≤8
 z:p.Zones.length≤8
 r:p.Rules.length≤8
 c:p.Caps.length≤8
 v:p.Views.length≤8
 s:p.Sun.length≤64
 ds:∀x∈p.Defs,x.Name.length≤30∧zox x.Body=true
 ts:∀x∈p.Tables,x.Name.length≤30∧x.Rows.length≤64∧∀y∈x.Rows,y.Name.length≤30
 zs:∀x∈p.Zones,x.Name.length≤30∧x.Corners.length≤64
 rs:∀x∈p.Rules,zr3 x=true
 cs:∀x∈p.Caps,x.Name.length≤30∧x.Corners.length≤64
 vs:∀x∈p.Views,x.Name.length≤30∧x.Targets.length≤64
theorem zDi{p:vg}(h:zOr p=true):zDh p:=by
 unfold zOr at h;simp only[bn,decide_eq_true_eq,List.all_eq_true,Bool.and_true,zOq]at h;obtain⟨⟨a1,a2,a3,a4,a5,a6,a7⟩,b1,b2,b3,b4,b5,b6⟩:=h;exact⟨a1,a2,a3,a4,a5,a6,a7,b1,b2,b3,b4,b5,b6⟩
theorem zDj{p:vg}(h:zDh p):FitP p:=by
 refine⟨⟨by have:=h.d;omega,fun x hx=>KH (h.ds x hx).2⟩,⟨by have:=h.t;omega,fun x hx=>by have:=(h.ts x hx).2.1;omega⟩,⟨by have:=h.z;omega,fun x hx=>by have:=(h.zs x hx).2;omega⟩,⟨by have:=h.r;omega,fun x hx=>?_⟩,⟨by have:=h.c;omega,fun x hx=>by have:=(h.cs x hx).2;omega⟩,⟨by have:=h.v;omega,fun x hx=>by have:=(h.vs x hx).2;omega⟩,by have:=h.s;omega⟩;obtain⟨_,h2,h3,h4⟩:=Av (h.rs x hx);exact⟨by have:=h2.1;omega,by have:=h3.1;omega,KH h4⟩
theorem oT{o:Option Bool}{f:Option Bool}{g r:Prop}(h:o=some (pd g))(hr:g→f=some (!(pd r))):(o.bind fun x=>bif (!x)then some true else f)=some (!(pd (g∧r))):=by
 rw[xm]
 exact zkn h fun hg=>hr (y7.1 hg)
theorem xg{o:Option Bool}{g:Prop}(h:o=some (pd g)):(o.bind fun x=>some (!x))=some (!(pd g)):=by rw[h];rfl
theorem pdb{b:Bool}:some b=some (pd (b=true)):=congrArg some (kS Iff.rfl)
section code
variable{c0:List Def}{c1:Int}{c2:List Table}{c3:List zY}{c4:List zB}{c5:List Cap}{c6:List View}{c7:List zf}{c8:Int}
theorem Rt_L1(hl:c0.length≤8)(h:∀x∈c0,x.Name.length≤30∧zox x.Body=true):uZ c0 (List.length c0:Nat) c2 c3 c4 c5 c6 c7 c8 KK 0=some (bif pd (∀d∈c0,okE 12 d.Body=true)then .inr ()else .inl false):=by
 refine jH c0 (fun d=>okE 12 d.Body=true) (uZ c0 (List.length c0:Nat) c2 c3 c4 c5 c6 c7 c8) (fun q=>(idx c0 q).bind fun x1=>(vr (Expr.mk x1.Body.Op x1.Body.N x1.Body.S x1.Body.Key x1.Body.Args)).bind fun x2=>some (!x2)) (by omega) (fun K q=>?_) fun i x hx=>?_
 ·rw[uZ]
  simp only[Option.bind_assoc,bsQ]
 ·rw[zy hx,bsQ,yd]
  exact xg ((Au (h x (List.mem_of_getElem? hx)).2).trans pdb)
theorem Rt_L2{c0:List Table}{c2:List Def}(hl:c0.length≤8)(h:∀x∈c0,x.Name.length≤30∧x.Rows.length≤64∧∀y∈x.Rows,y.Name.length≤30):qg c0 (List.length c0:Nat) c2 c3 c4 c5 c6 c7 c8 KK 0=some (bif pd (∀d∈c0,kT d)then .inr ()else .inl false):=by
 have key:=WV c0 (fun x=>pd (kT x)) (some (Sum.inr ())) (some (Sum.inl false)) (qg c0 (List.length c0:Nat) c2 c3 c4 c5 c6 c7 c8) (by omega) (fun K i x hx=>?_) (fun K=>by rw[qg,yZ];rfl)
 ·have:c0.all (fun x=>pd (kT x))=pd (∀x∈c0,kT x):=kS (by simp only[List.all_eq_true,y7])
  rw[key,this];cases pd (∀x∈c0,kT x)<;>rfl
 ·have hi:=jb hx
  obtain⟨_,h2,h3⟩:=h x (List.mem_of_getElem? hx);rw[qg,vk hx,ctQ,zy hx,bsQ,ya (by omega)];rw[oT (zNs (l:=x.Rows) (by omega) (fun y hy=>by have:=h3 y hy;omega)) (fun _=>xg oS),bsQ]
  have hp:pd (kT x)=(pd (ke x.Rows Entry.Name 60∧-1099511627776≤x.Else∧x.Else≤1099511627776)&&pd (∀y∈x.Rows,-1099511627776≤y.N∧y.N≤1099511627776)):=by
   rw[← xm];exact kN ⟨fun⟨a,b,c⟩=>⟨⟨a,b⟩,c⟩,fun⟨⟨a,b⟩,c⟩=>⟨a,b,c⟩⟩
  simp only[hp];cases pd (ke x.Rows Entry.Name 60∧-1099511627776≤x.Else∧x.Else≤1099511627776)
  ·rfl
  rw[Bool.not_true,cf,Bool.true_and];rw[jH x.Rows (fun y=>-1099511627776≤y.N∧y.N≤1099511627776) (A3 c0 (List.length c0:Nat) (i:Int) x.Rows (List.length x.Rows:Nat) c2 c3 c4 c5 c6 c7 c8) (fun q=>(idx x.Rows q).bind fun x1=>(yb (-1099511627776) 1099511627776 ([x1.N]:List Int)).bind fun x2=>some (!x2)) (by omega) (fun K q=>?_) fun j y hy=>?_]
  ·cases pd (∀y∈x.Rows,-1099511627776≤y.N∧y.N≤1099511627776)<;>rfl
  ·rw[A3]
   simp only[Option.bind_assoc,bsQ]
  ·rw[zy hy,bsQ]
   exact xg oS
theorem Rt_L4{c0:List zY}{c2:List Def}{c3:List Table}(hl:c0.length≤8):u0 c0 (List.length c0:Nat) c2 c3 c4 c5 c6 c7 c8 KK 0=some (bif pd (∀d∈c0,Jv d.Corners)then .inr ()else .inl false):=by
 refine jH c0 (fun d=>Jv d.Corners) (u0 c0 (List.length c0:Nat) c2 c3 c4 c5 c6 c7 c8) (fun q=>(idx c0 q).bind fun x1=>(wE x1.Corners).bind fun x2=>some (!x2)) (by omega) (fun K q=>?_) fun i x hx=>?_
 ·rw[u0]
  simp only[Option.bind_assoc,bsQ]
 ·rw[zy hx,bsQ]
  exact xg zC7
theorem Rt_L5{c0:List zB}{c2:List Def}{c3:List Table}{c4:List zY}(hl:c0.length≤8)(h:∀x∈c0,zr3 x=true):u5 c0 (List.length c0:Nat) c2 c3 c4 c5 c6 c7 c8 KK 0=some (bif pd (∀d∈c0,AO d)then .inr ()else .inl false):=by
 refine jH c0 AO (u5 c0 (List.length c0:Nat) c2 c3 c4 c5 c6 c7 c8) (fun q=>(idx c0 q).bind fun x1=>(oF (zB.mk x1.Name x1.Zones x1.Except x1.From x1.Until x1.Grace x1.Vary x1.Kind (Expr.mk x1.Test.Op x1.Test.N x1.Test.S x1.Test.Key x1.Test.Args) x1.zt x1.Uses x1.Other x1.N)).bind fun x2=>some (!x2)) (by omega) (fun K q=>?_) fun i x hx=>?_
 ·rw[u5]
  simp only[Option.bind_assoc,bsQ]
 ·rw[zy hx,bsQ,yd]
  exact xg (zDf (h x (List.mem_of_getElem? hx)))
theorem Rt_L6{c0:List Cap}{c2:List Def}{c3:List Table}{c4:List zY}{c5:List zB}(hl:c0.length≤8):u6 c0 (List.length c0:Nat) c2 c3 c4 c5 c6 c7 c8 KK 0=some (bif pd (∀d∈c0,zEb d)then .inr ()else .inl false):=by
 refine jH c0 zEb (u6 c0 (List.length c0:Nat) c2 c3 c4 c5 c6 c7 c8) (fun q=>(idx c0 q).bind fun x1=>((yb 0 2 ([x1.Load]:List Int)).bind fun x3=>(bif (!x3)then some true else(yb 0 1099511627776 ([x1.Limit]:List Int)).bind fun x4=>(bif (!x4)then some true else(wE x1.Corners).bind fun x5=>some (!x5))))) (by omega) (fun K q=>?_) fun i x hx=>?_
 ·rw[u6]
  simp only[Option.bind_assoc]
 ·rw[zy hx,bsQ]
  exact oT oS fun _=>oT oS fun _=>xg zC7
theorem Rt_L7{c0:List View}{c2:List Def}{c3:List Table}{c4:List zY}{c5:List zB}{c6:List Cap}(hl:c0.length≤8)(h:∀x∈c0,x.Name.length≤30∧x.Targets.length≤64):qh c0 (List.length c0:Nat) c2 c3 c4 c5 c6 c7 c8 KK 0=some (bif pd (∀d∈c0,KR d)then .inr ()else .inl false):=by
 have key:=WV c0 (fun x=>pd (KR x)) (some (Sum.inr ())) (some (Sum.inl false)) (qh c0 (List.length c0:Nat) c2 c3 c4 c5 c6 c7 c8) (by omega) (fun K i x hx=>?_) (fun K=>by rw[qh,yZ];rfl)
 ·have:c0.all (fun x=>pd (KR x))=pd (∀x∈c0,KR x):=kS (by simp only[List.all_eq_true,y7])
  rw[key,this];cases pd (∀x∈c0,KR x)<;>rfl
 ·have hi:=jb hx
  obtain⟨_,h2⟩:=h x (List.mem_of_getElem? hx);rw[qh,vk hx,ctQ,zy hx,bsQ,ya (by omega)];rw[oT oS (fun _=>xg oS),bsQ]
  have hp:pd (KR x)=(pd ((0≤x.Least∧x.Least≤20)∧(1≤((x.Targets.length:Nat):Int)∧((x.Targets.length:Nat):Int)≤20))&&pd (∀y∈([x.Eye]++x.Targets),Qh y)):=by
   rw[← xm]
   exact kN ⟨fun⟨a,b,c,d⟩=>⟨⟨a,b⟩,fun y hy=>by
    rcases List.mem_append.1 hy with h1|h1
    ·rw[msQ.1 h1];exact c
    ·exact d y h1⟩,fun⟨⟨a,b⟩,c⟩=>⟨a,b,c _ (by simp),fun y hy=>c y (by simp[hy])⟩⟩
  simp only[hp];cases pd ((0≤x.Least∧x.Least≤20)∧(1≤((x.Targets.length:Nat):Int)∧((x.Targets.length:Nat):Int)≤20))
  ·rfl
  have hlen:([x.Eye]++x.Targets).length≤65:=by simp;omega
  rw[Bool.not_true,cf,Bool.true_and,zi (by omega),bsQ];rw[jH ([x.Eye]++x.Targets) Qh (A4 c0 (List.length c0:Nat) (i:Int) (List.length ([x.Eye]++x.Targets):Nat) c2 c3 c4 c5 c6 c7 c8 ([x.Eye]++x.Targets)) (fun q=>(grd (0≤q∧q<(((List.length ([x.Eye]++x.Targets)):Nat):Int))).bind fun _=>((([x.Eye]++x.Targets))[(Int.toNat q)]?).bind fun x2=>((yb 0 1048576 ([x2.X,x2.Y]:List Int)).bind fun x4=>(bif (!x4)then some true else(yb 0 4096 ([x2.Z_]:List Int)).bind fun x5=>some (!x5)))) (by omega) (fun K q=>?_) fun j y hy=>?_]
  ·cases pd (∀y∈([x.Eye]++x.Targets),Qh y)<;>rfl
  ·rw[A4]
   simp only[Option.bind_assoc]
  ·have hj:=jb hy
   rw[zi (by omega),bsQ,Int.toNat_natCast,hy,bsQ,oT YO (fun _=>xg oS)];exact congrArg (fun b=>some (!b)) (kN ⟨fun⟨⟨a,b⟩,c⟩=>⟨a,b,c⟩,fun⟨a,b,c⟩=>⟨⟨a,b⟩,c⟩⟩)
theorem Rt_L9{c0:List zf}{c2:List Def}{c3:List Table}{c4:List zY}{c5:List zB}{c6:List Cap}{c7:List View}(hl:c0.length≤64):u7 c0 (List.length c0:Nat) c2 c3 c4 c5 c6 c7 c8 KK 0=some (bif pd (∀d∈c0,zxo d)then .inr ()else .inl false):=by
 refine jH c0 zxo (u7 c0 (List.length c0:Nat) c2 c3 c4 c5 c6 c7 c8) (fun q=>(idx c0 q).bind fun x1=>((yb (-4096) 4096 ([x1.X,x1.Y]:List Int)).bind fun x3=>(bif (!x3)then some true else(yb 1 4096 ([x1.Z_]:List Int)).bind fun x4=>some (!x4)))) (by omega) (fun K q=>?_) fun i x hx=>?_
 ·rw[u7]
  simp only[Option.bind_assoc]
 ·rw[zy hx,bsQ,oT YO (fun _=>xg oS)]
  exact congrArg (fun b=>some (!b)) (kN ⟨fun⟨⟨a,b⟩,c⟩=>⟨a,b,c⟩,fun⟨a,b,c⟩=>⟨⟨a,b⟩,c⟩⟩)
end code
theorem zu2{p:vg}(h:zDh p):Vd p=some (pd (Qi p)):=by
 unfold Vd;have hd:=h.d;have ht:=h.t;have hz:=h.z;have hr:=h.r;have hc:=h.c;have hv:=h.v;have hs:=h.s;rw[oT (zNm (l:=p.Defs) (by omega) (fun x hx=>by have:=(h.ds x hx).1;omega)) fun _=>oT (zNn (l:=p.Tables) (by omega) (fun x hx=>by have:=(h.ts x hx).1;omega)) fun _=>oT (zNo (l:=p.Zones) (by omega) (fun x hx=>by have:=(h.zs x hx).1;omega)) fun _=>oT (zNp (l:=p.Rules) (by omega) (fun x hx=>by have:=(Av (h.rs x hx)).1;omega)) fun _=>oT (zNq (l:=p.Caps) (by omega) (fun x hx=>by have:=(h.cs x hx).1;omega)) fun _=>xg (zNr (l:=p.Views) (by omega) (fun x hx=>by have:=(h.vs x hx).1;omega)),bsQ]
 have hp:pd (Qi p)=(pd (ke p.Defs Def.Name 60∧ke p.Tables Table.Name 60∧ke p.Zones zY.Name 60∧ke p.Rules zB.Name 200∧ke p.Caps Cap.Name 30∧ke p.Views View.Name 60)&&pd ((∀d∈p.Defs,okE 12 d.Body=true)∧(∀t∈p.Tables,kT t)∧(∀z∈p.Zones,Jv z.Corners)∧(∀r∈p.Rules,AO r)∧(∀c∈p.Caps,zEb c)∧(∀v∈p.Views,KR v)∧(∀d∈p.Sun,zxo d)∧(0≤p.Hours∧p.Hours≤24)∧(0≤((p.Sun.length:Nat):Int)∧((p.Sun.length:Nat):Int)≤24))):=by
  rw[← xm];exact kN ⟨fun⟨a,⟨b1,b2,b3,b4,b5,b6,b7⟩,c,d⟩=>⟨a,b1,b2,b3,b4,b5,b6,b7,c,by omega⟩,fun⟨a,b1,b2,b3,b4,b5,b6,b7,c,d⟩=>⟨a,⟨b1,b2,b3,b4,b5,b6,b7⟩,c,by omega⟩⟩
 rw[hp];cases pd (ke p.Defs Def.Name 60∧ke p.Tables Table.Name 60∧ke p.Zones zY.Name 60∧ke p.Rules zB.Name 200∧ke p.Caps Cap.Name 30∧ke p.Views View.Name 60)
 ·rfl
 rw[Bool.not_true,cf,Bool.true_and]
 exact kO (Rt_L1 hd h.ds) fun _=>kO (Rt_L2 ht h.ts) fun _=>kO (Rt_L4 hz) fun _=>kO (Rt_L5 hr h.rs) fun _=>kO (Rt_L6 hc) fun _=>kO (Rt_L7 hv h.vs) fun _=>kO (Rt_L9 hs) fun _=>by rw[YO];rfl
theorem zkt{o:Option Bool}{f:Option Bool}{g r:Prop}(h:o=some (pd g))(hr:g→f=some (pd r)):(o.bind fun x=>bif x then f else some false)=some (pd (g∧r)):=by
 rw[h,bsQ,xm]
 cases hg:pd g with
 |false=>rfl
 |true=>rw[ctQ,hr (y7.1 hg),Bool.true_and]
theorem zDk{o:Option Bool}{g:Prop}(h:o=some (pd g)):(o.bind fun x=>some x)=some (pd g):=by rw[h];rfl
theorem zDl{p:zf}:wZ p=some (pd (Qh p)):=by
 unfold wZ
 exact zkt yI fun _=>zkt yI fun _=>zDk yI
theorem zSq{v:View}(h:v.Targets.length≤64):kE v=some (pd (KR v)):=by
 have hp:pd (KR v)=pd ((∀x∈v.Targets,Qh x)∧Qh v.Eye∧(0≤v.Least∧v.Least≤20)∧(1≤((v.Targets.length:Nat):Int)∧((v.Targets.length:Nat):Int)≤20)):=kN ⟨fun⟨a,b,c,d⟩=>⟨d,c,a,b⟩,fun⟨d,c,a,b⟩=>⟨a,b,c,d⟩⟩;rw[hp];unfold kE
 refine kO ?_ fun _=>zkt zDl fun _=>zkt yI fun _=>zDk yI
 refine jH v.Targets Qh (wP v.Name v.Eye.X v.Eye.Y v.Eye.Z_ v.Least v.Targets) (fun q=>(idx v.Targets q).bind fun x1=>(wZ x1).bind fun x2=>some (!x2)) (by omega) (fun K q=>?_) fun i x hx=>?_
 ·rw[wP]
  simp only[Option.bind_assoc,bsQ]
 ·rw[zy hx,bsQ]
  exact xg zDl
theorem zJ1{n:List UInt8}{l:List Entry}{e:Int}(hl:l.length≤64):∀(r:List Entry)(i K:Nat)(s:List (List UInt8)),l.drop i=r→i≤l.length→r.length<K→s.length=i →
  xo n l e K ((i:Int),s)=some (bif pd (∀x∈r,-1099511627776≤x.N∧x.N≤1099511627776)then .inr (s++r.map Entry.Name)else .inl false)
 |[],i,K,s,hr,hi,hK,hs=>by
  obtain⟨K,rfl⟩:∃k,K=k+1:=⟨K-1,by simp at hK;omega⟩
  have:=drop_nil hr hi;subst this;rw[xo,yZ,zks (fun x hx=>by cases hx)];simp
 |x::r,i,K,s,hr,hi,hK,hs=>by
  obtain⟨K,rfl⟩:∃k,K=k+1:=⟨K-1,by simp at hK;omega⟩
  obtain⟨h1,h2,h3⟩:=y6 hr;simp only[lc]at hK;rw[xo,vk h1,ctQ,zy h1,bsQ,yI,bsQ,bsQ]
  have hp:pd (∀y∈x::r,-1099511627776≤y.N∧y.N≤1099511627776)=(pd (-1099511627776≤x.N∧x.N≤1099511627776)&&pd (∀y∈r,-1099511627776≤y.N∧y.N≤1099511627776)):=by
   rw[← xm];exact kN (by simp)
  rw[hp];cases pd (-1099511627776≤x.N∧x.N≤1099511627776)
  ·rfl
  rw[Bool.not_true,cf,Bool.true_and,zi (by show(s++[x.Name]).length*16≤_;rw[la,List.length_singleton];omega),bsQ,ya (by omega),zJ1 hl r (i+1) K _ h2 (by omega) (by omega) (by simp;omega)];simp
theorem zNt{t:Table}(h:t.Rows.length≤64)(hn:∀y∈t.Rows,y.Name.length≤30):jt t=some (pd (kT t)):=by
 have hp:pd (kT t)=(pd (∀x∈t.Rows,-1099511627776≤x.N∧x.N≤1099511627776)&&(decide (t.Rows.length≤60)&&(vD true [] (t.Rows.map Entry.Name)&&pd (-1099511627776≤t.Else∧t.Else≤1099511627776)))):=by
  refine(kS ?_).symm;simp only[bn,y7,kT,decide_eq_true_eq];exact⟨fun⟨a,b,c,d⟩=>⟨⟨b,c⟩,d,a⟩,fun⟨⟨b,c⟩,d,a⟩=>⟨a,b,c,d⟩⟩
 unfold jt;rw[hp,show(0:Int)=((0:Nat):Int) from rfl,zJ1 h t.Rows 0 KK [] rfl (Nat.zero_le _) (ja (by omega)) rfl,bsQ];cases pd (∀x∈t.Rows,-1099511627776≤x.N∧x.N≤1099511627776)
 ·rfl
 simp only[ctQ,yA,List.nil_append,Bool.true_and,List.length_map];rw[zd7 t.Rows.length 60 (a:=60) rfl];cases decide (t.Rows.length≤60)
 ·rfl
 rw[ctQ,zef (by simp;omega) (fun s hs=>by
  obtain⟨y,h1,rfl⟩:=List.mem_map.1 hs
  have:=hn y h1;omega),bsQ]
 cases vD true [] (t.Rows.map Entry.Name)
 ·rfl
 rw[ctQ,yI];rfl
section ref
variable{c0:List Def}{c1:List Table}{c2:List zY}{c3:List zB}{c4:List Cap}{c5:List View}{c6:List zf}{c7:Int}
theorem RR_L2(hl:c0.length≤8)(h:∀x∈c0,x.Name.length≤30∧zox x.Body=true):jW c0 c1 c2 c3 c4 c5 c6 c7 KK 0=some (bif pd (∀d∈c0,okE 12 d.Body=true)then .inr ()else .inl false):=by
 refine jH c0 (fun d=>okE 12 d.Body=true) (jW c0 c1 c2 c3 c4 c5 c6 c7) (fun q=>(idx c0 q).bind fun x1=>(xD x1.Body).bind fun x2=>some (!x2)) (by omega) (fun K q=>?_) fun i x hx=>?_
 ·rw[jW]
  simp only[Option.bind_assoc,bsQ]
 ·rw[zy hx,bsQ]
  exact xg ((qF (h x (List.mem_of_getElem? hx)).2).trans pdb)
theorem RR_L3(hl:c1.length≤8)(h:∀x∈c1,x.Name.length≤30∧x.Rows.length≤64∧∀y∈x.Rows,y.Name.length≤30):jX c0 c1 c2 c3 c4 c5 c6 c7 KK 0=some (bif pd (∀d∈c1,kT d)then .inr ()else .inl false):=by
 refine jH c1 kT (jX c0 c1 c2 c3 c4 c5 c6 c7) (fun q=>(idx c1 q).bind fun x1=>(jt x1).bind fun x2=>some (!x2)) (by omega) (fun K q=>?_) fun i x hx=>?_
 ·rw[jX]
  simp only[Option.bind_assoc,bsQ]
 ·obtain⟨_,h2,h3⟩:=h x (List.mem_of_getElem? hx)
  rw[zy hx,bsQ];exact xg (zNt h2 h3)
theorem RR_L4(hl:c2.length≤8):jY c0 c1 c2 c3 c4 c5 c6 c7 KK 0=some (bif pd (∀d∈c2,Jv d.Corners)then .inr ()else .inl false):=by
 refine jH c2 (fun d=>Jv d.Corners) (jY c0 c1 c2 c3 c4 c5 c6 c7) (fun q=>(idx c2 q).bind fun x1=>(oH x1.Corners).bind fun x2=>some (!x2)) (by omega) (fun K q=>?_) fun i x hx=>?_
 ·rw[jY]
  simp only[Option.bind_assoc,bsQ]
 ·rw[zy hx,bsQ]
  exact xg zC9
theorem RR_L5(hl:c3.length≤8)(h:∀x∈c3,zr3 x=true):jZ c0 c1 c2 c3 c4 c5 c6 c7 KK 0=some (bif pd (∀d∈c3,AO d)then .inr ()else .inl false):=by
 refine jH c3 AO (jZ c0 c1 c2 c3 c4 c5 c6 c7) (fun q=>(idx c3 q).bind fun x1=>(kD x1).bind fun x2=>some (!x2)) (by omega) (fun K q=>?_) fun i x hx=>?_
 ·rw[jZ]
  simp only[Option.bind_assoc,bsQ]
 ·rw[zy hx,bsQ]
  exact xg (zHr (h x (List.mem_of_getElem? hx)))
theorem RR_L6(hl:c4.length≤8):j3 c0 c1 c2 c3 c4 c5 c6 c7 KK 0=some (bif pd (∀d∈c4,zEb d)then .inr ()else .inl false):=by
 refine jH c4 zEb (j3 c0 c1 c2 c3 c4 c5 c6 c7) (fun q=>(idx c4 q).bind fun x1=>((zC x1.Load 0 2).bind fun x3=>(bif (!x3)then some true else(zC x1.Limit 0 1099511627776).bind fun x4=>(bif (!x4)then some true else(oH x1.Corners).bind fun x5=>some (!x5))))) (by omega) (fun K q=>?_) fun i x hx=>?_
 ·rw[j3]
  simp only[Option.bind_assoc]
 ·rw[zy hx,bsQ]
  exact oT yI fun _=>oT yI fun _=>xg zC9
theorem RR_L7(hl:c5.length≤8)(h:∀x∈c5,x.Name.length≤30∧x.Targets.length≤64):j4 c0 c1 c2 c3 c4 c5 c6 c7 KK 0=some (bif pd (∀d∈c5,KR d)then .inr ()else .inl false):=by
 refine jH c5 KR (j4 c0 c1 c2 c3 c4 c5 c6 c7) (fun q=>(idx c5 q).bind fun x1=>(kE x1).bind fun x2=>some (!x2)) (by omega) (fun K q=>?_) fun i x hx=>?_
 ·rw[j4]
  simp only[Option.bind_assoc,bsQ]
 ·rw[zy hx,bsQ]
  exact xg (zSq (h x (List.mem_of_getElem? hx)).2)
theorem RR_L8(hl:c6.length≤64):j5 c0 c1 c2 c3 c4 c5 c6 c7 KK 0=some (bif pd (∀d∈c6,zxo d)then .inr ()else .inl false):=by
 refine jH c6 zxo (j5 c0 c1 c2 c3 c4 c5 c6 c7) (fun q=>(idx c6 q).bind fun x1=>((zC x1.X (-4096) 4096).bind fun x3=>(bif (!x3)then some true else(zC x1.Y (-4096) 4096).bind fun x4=>(bif (!x4)then some true else(zC x1.Z_ 1 4096).bind fun x5=>some (!x5))))) (by omega) (fun K q=>?_) fun i x hx=>?_
 ·rw[j5]
  simp only[Option.bind_assoc]
 ·rw[zy hx,bsQ]
  exact oT yI fun _=>oT yI fun _=>xg yI
end ref
theorem zr6{a:Nat}{m:Int}(n:Nat){f:Option Bool}{r:Prop}(hm:m=(n:Int))(hr:a≤n→f=some (!(pd r))):(bif decide ((a:Int)>m)then some true else f)=some (!(pd (a≤n∧r))):=by
 rw[qt n hm hr,xm,q8]
theorem zr7{p:vg}(h:zDh p){i:Nat}(hi:i<6):(uf p i).length≤8∧∀s∈uf p i,s.length≤30:=by
 obtain rfl|rfl|rfl|rfl|rfl|rfl:i=0∨i=1∨i=2∨i=3∨i=4∨i=5:=by omega
 ·exact⟨by rw[uf,List.length_map];exact h.d,fun s hs=>by obtain⟨y,h1,rfl⟩:=List.mem_map.1 hs;exact(h.ds y h1).1⟩
 ·exact⟨by rw[uf,List.length_map];exact h.t,fun s hs=>by obtain⟨y,h1,rfl⟩:=List.mem_map.1 hs;exact(h.ts y h1).1⟩
 ·exact⟨by rw[uf,List.length_map];exact h.z,fun s hs=>by obtain⟨y,h1,rfl⟩:=List.mem_map.1 hs;exact(h.zs y h1).1⟩
 ·exact⟨by rw[uf,List.length_map];exact h.r,fun s hs=>by obtain⟨y,h1,rfl⟩:=List.mem_map.1 hs;exact(Av (h.rs y h1)).1⟩
 ·exact⟨by rw[uf,List.length_map];exact h.c,fun s hs=>by obtain⟨y,h1,rfl⟩:=List.mem_map.1 hs;exact(h.cs y h1).1⟩
 ·refine⟨by show(p.Views.map View.Name).length≤8;rw[List.length_map];exact h.v,fun s hs=>?_⟩
  obtain⟨y,h1,rfl⟩:=List.mem_map.1 (show s∈p.Views.map View.Name from hs);exact(h.vs y h1).1
theorem RR_L1{p:vg}(h:zDh p):vy p.Defs p.Tables p.Zones p.Rules p.Caps p.Views p.Sun p.Hours KK 0=some (bif pd (∀i,0≤i→i<6→vD true [] (uf p i)=true)then .inr ()else .inl false):=by
 refine Vs 6 (fun i=>vD true [] (uf p i)) (vy p.Defs p.Tables p.Zones p.Rules p.Caps p.Views p.Sun p.Hours) 0 (by omega) (fun K i _ hi=>?_) (fun K i hi=>?_)
 ·obtain⟨h1,h2⟩:=zr7 h hi
  rw[vy,dt (show(i:Int)<6 by omega),ctQ]
  have e:vg.mk p.Defs p.Tables p.Zones p.Rules p.Caps p.Views p.Sun p.Hours=p:=by cases p;rfl
  rw[e,zxp h.d h.t h.z h.r h.c h.v i hi,bsQ,zef (by omega) (fun s hs=>by have:=h2 s hs;omega),bsQ,ya (by omega)];cases vD true [] (uf p i)<;>rfl
 ·rw[vy,df (by omega)];rfl
theorem zhu{p:vg}(h:zDh p):JV p=some (pd (Qi p)):=by
 unfold JV;rw[zr6 (m:=60) 60 rfl fun _=>zr6 (m:=60) 60 rfl fun _=>zr6 (m:=60) 60 rfl fun _=>zr6 (m:=200) 200 rfl fun _=>zr6 (m:=30) 30 rfl fun _=>zr6 (m:=60) 60 rfl fun _=>zr6 (m:=24) 24 rfl fun _=>xg yI,bsQ]
 have hp:pd (Qi p)=(pd (p.Defs.length≤60∧p.Tables.length≤60∧p.Zones.length≤60∧p.Rules.length≤200∧p.Caps.length≤30∧p.Views.length≤60∧p.Sun.length≤24∧(0≤p.Hours∧p.Hours≤24))&&pd ((∀i,0≤i→i<6→vD true [] (uf p i)=true)∧(∀d∈p.Defs,okE 12 d.Body=true)∧(∀t∈p.Tables,kT t)∧(∀z∈p.Zones,Jv z.Corners)∧(∀r∈p.Rules,AO r)∧(∀c∈p.Caps,zEb c)∧(∀v∈p.Views,KR v)∧(∀d∈p.Sun,zxo d)∧True)):=by
  rw[← xm];refine kN ⟨?_,?_⟩
  ·rintro⟨⟨⟨a1,n1⟩,⟨a2,n2⟩,⟨a3,n3⟩,⟨a4,n4⟩,⟨a5,n5⟩,⟨a6,n6⟩⟩,⟨b1,b2,b3,b4,b5,b6,b7⟩,c,d⟩
   refine⟨⟨a1,a2,a3,a4,a5,a6,d,c⟩,fun i _ hi=>?_,b1,b2,b3,b4,b5,b6,b7,trivial⟩
   obtain rfl|rfl|rfl|rfl|rfl|rfl:i=0∨i=1∨i=2∨i=3∨i=4∨i=5:=by omega
   ·exact n1
   ·exact n2
   ·exact n3
   ·exact n4
   ·exact n5
   ·exact n6
  ·rintro⟨⟨a1,a2,a3,a4,a5,a6,d,c⟩,n,b1,b2,b3,b4,b5,b6,b7,_⟩
   exact⟨⟨⟨a1,n 0 (by omega) (by omega)⟩,⟨a2,n 1 (by omega) (by omega)⟩,⟨a3,n 2 (by omega) (by omega)⟩,⟨a4,n 3 (by omega) (by omega)⟩,⟨a5,n 4 (by omega) (by omega)⟩,⟨a6,n 5 (by omega) (by omega)⟩⟩,⟨b1,b2,b3,b4,b5,b6,b7⟩,c,d⟩
 rw[hp];cases pd (p.Defs.length≤60∧p.Tables.length≤60∧p.Zones.length≤60∧p.Rules.length≤200∧p.Caps.length≤30∧p.Views.length≤60∧p.Sun.length≤24∧(0≤p.Hours∧p.Hours≤24))
 ·rfl
 rw[Bool.not_true,cf,Bool.true_and]
 exact kO (RR_L1 h) fun _=>kO (RR_L2 h.d h.ds) fun _=>kO (RR_L3 h.t h.ts) fun _=>kO (RR_L4 h.z) fun _=>kO (RR_L5 h.r h.rs) fun _=>kO (RR_L6 h.c) fun _=>kO (RR_L7 h.v h.vs) fun _=>kO (RR_L8 h.s) fun _=>by rw[zks trivial]
theorem zu3:∀(k n:Nat),n<10 ^ (k+1)→(Lib.decDigits n).length≤k+1
 |k,n,h=>by
  rw[Lib.decDigits];by_cases h10:n<10
  ·rw[dif_pos h10,List.length_singleton];omega
  ·cases k with
   |zero=>omega
   |succ k =>
    have:=zu3 k (n / 10) (by rw[Nat.pow_succ]at h;omega);rw[dif_neg h10,la,List.length_singleton];omega
theorem Vu{n:Nat}(h:n≤9223372036854775807):(Lib.decDigits n).length≤21:=by
 have:=zu3 19 n (by omega);omega
theorem zu4:∀m<10,bytesOf [(IntKind.u8.wrap (w64 (48+(m:Nat))))]=[UInt8.ofNat (48+m)]:=by decide +kernel
theorem zei:∀(K n:Nat),n<10 ^ (K+1)→n≤9223372036854775807→j6 (K+1) (n:Int)=some (Lib.decDigits n)
 |K,n,h,hn=>by
  rw[j6];by_cases h10:n<10
  ·rw[dt (show(n:Int)<10 by omega),ctQ,zu4 n h10,Lib.decDigits,dif_pos h10]
  ·cases K with
   |zero=>omega
   |succ K =>
    have hd:Int.tdiv (n:Int) 10=((n / 10:Nat):Int):=rfl;have hm:Int.tmod (n:Int) 10=((n % 10:Nat):Int):=rfl;have hl:=Vu (n:=n / 10) (by omega)
    rw[df (show ¬(n:Int)<10 by omega),cf,hd,kM (n:=((n / 10:Nat):Int)) (by omega) (by omega),zei K (n / 10) (by rw[Nat.pow_succ]at h;omega) (by omega),bsQ,hm,zu4 (n % 10) (by omega),
     zi (by rw[List.length_singleton];omega),bsQ]
    conv=>rhs;rw[Lib.decDigits,dif_neg h10]
theorem zej{n:Int}(h0:0≤n)(h1:n≤9223372036854775807):j6 KK n=some (Lib.decDigits n.toNat):=by
 obtain⟨m,rfl⟩:=Int.eq_ofNat_of_zero_le h0
 obtain⟨k,hk⟩:∃k,KK=(k+19)+1:=⟨KK-20,by have:=ja (n:=100) (by omega);omega⟩
 rw[hk,zei (k+19) m ?_ (by omega),Int.toNat_natCast];have:10 ^ 20≤10 ^ (k+19+1):=Nat.pow_le_pow_right (by omega) (by omega);omega
def jd(n:Int):Prop:=-9223372036854775807≤n∧n≤9223372036854775807
theorem YP{n:Int}:uw (.inl n)=if n<0 then 45::32::Lib.decDigits n.natAbs else Lib.decDigits n.toNat:=rfl
theorem wM{n:Int}(h:jd n):(uw (.inl n)).length≤23:=by
 obtain⟨h0,h1⟩:=h;rw[YP];split
 ·have:=Vu (n:=n.natAbs) (by omega)
  simp only[lc];omega
 ·have:=Vu (n:=n.toNat) (by omega)
  omega
theorem xZ{n:Int}(h:jd n):wi n=some (32::uw (.inl n)):=by
 obtain⟨h0,h1⟩:=h;unfold wi;rw[YP];by_cases hn:n<0
 ·have:=Vu (n:=(0-n).toNat) (by omega)
  rw[dt hn,if_pos hn,ctQ,kM (by omega) (by omega),zej (by omega) (by omega),bsQ,zi (by rw[show zqv.length=3 from rfl];omega),bsQ,show(0-n).toNat=n.natAbs by omega];rfl
 ·have:=Vu (n:=n.toNat) (by omega)
  rw[df hn,if_neg hn,cf,zej (by omega) (by omega),bsQ,zi (by rw[show t__.length=1 from rfl];omega),bsQ];rfl
theorem zku{n:Int}(h0:0≤n)(h1:n≤9223372036854775807):Y2 n=some (Lib.decDigits n.toNat):=by
 unfold Y2 zti;rw[zi (by omega),bsQ,Lib.itoa,if_neg (by omega)]
theorem yf{a b:List UInt8}(h:a.length+b.length≤140737488355328):yM a b=some (((b.length:Nat):Int),a++b):=by
 unfold yM;rw[zi h];rfl
theorem zan{a b:List UInt8}(h:a.length+b.length≤140737488355328):oG a b=some (((b.length:Nat):Int),a++b):=by
 unfold oG;rw[zi h];rfl
theorem J8{a:List UInt8}(h:a.length+2≤140737488355328):zx0 a=some (a++[32,41]):=by
 unfold zx0;rw[zi h];rfl
-- forms
def lvO(op:Int):Int:=if op=16 then 0 else if op=14 then 1 else if op=13 then 2 else if op=15 then 3 else if op=10∨op=11∨op=12 then 4 else if op=4∨op=5 then 5 else if op=6∨op=7∨op=8 then 6 else if op=9 then 7 else 8
def sgO(op:Int):List UInt8:=if op=14 then zOj else if op=13 then zws else if op=10 then Wk else if op=11 then zBb else if op=12 then Wj else if op=4 then zA9 else if op=5 then Yn else if op=6 then zA8 else if op=7 then zBa else zA6
theorem op17{n:Int}(h0:0≤n)(h1:n<17):n=0∨n=1∨n=2∨n=3∨n=4∨n=5∨n=6∨n=7∨n=8∨n=9∨n=10∨n=11∨n=12∨n=13∨n=14∨n=15∨n=16:=by omega
theorem zu5{e:Expr}(h0:0≤e.Op)(h1:e.Op<17):Wy e=some (lvO e.Op):=by
 obtain⟨op,n,s,k,az⟩:=e;simp only at h0 h1
 obtain rfl|rfl|rfl|rfl|rfl|rfl|rfl|rfl|rfl|rfl|rfl|rfl|rfl|rfl|rfl|rfl|rfl:=op17 h0 h1<;>rfl
theorem sign_eq{op:Int}(h0:0≤op)(h1:op<17):Z7 op=some (sgO op):=by
 obtain rfl|rfl|rfl|rfl|rfl|rfl|rfl|rfl|rfl|rfl|rfl|rfl|rfl|rfl|rfl|rfl|rfl:=op17 h0 h1<;>rfl
def zTm(op:Int):Bool:=decide (4≤op∧op≤14∧¬op=9)
theorem zHs(k:Nat){c2 n:Int}{s ky:List UInt8}{az:List Expr}(h0:0≤c2)(h1:c2<17):((HP ([(zj.mk zOj 14 1),(zj.mk zws 13 2),(zj.mk Wk 10 4),(zj.mk zBb 11 4),(zj.mk Wj 12 4),(zj.mk zA9 4 5),(zj.mk Yn 5 5),(zj.mk zA8 6 6),(zj.mk zBa 7 6),(zj.mk zA6 8 6)]:List zj) (10:Nat) c2 n s ky az (k+11) 0).bind (yA some fun _=>(bif (decide (c2=16))then some (0,([]:List UInt8))else(bif (decide (c2=15))then some (3,([]:List UInt8))else(bif (decide (c2=9))then some (7,([]:List UInt8))else some (8,([]:List UInt8)))))))=some (lvO c2,bif zTm c2 then sgO c2 else[]):=by
 obtain rfl|rfl|rfl|rfl|rfl|rfl|rfl|rfl|rfl|rfl|rfl|rfl|rfl|rfl|rfl|rfl|rfl:=op17 h0 h1<;>rfl
theorem zDm{e:Expr}(h0:0≤e.Op)(h1:e.Op<17):ZW e=some (lvO e.Op,bif zTm e.Op then sgO e.Op else[]):=by
 unfold ZW jA
 obtain⟨k,hk⟩:∃k,KK=k+11:=⟨KK-11,by have:=ja (n:=100) (by omega);omega⟩
 rw[bsQ,hk];exact zHs k h0 h1
theorem zNu(op:Int):0≤lvO op∧lvO op≤8:=by unfold lvO;(repeat' split)<;>omega
theorem zDn(op:Int):(sgO op).length≤3:=by unfold sgO;(repeat' split)<;>decide
def atS(t:List UInt8)(lv form:Int):List UInt8:=if lv<form then Wi++(t++Y0)else t
def yL(e:Expr)(i:Nat):Expr:=e.Args.getD i zeh
def zN:Nat→Expr→List UInt8
 |0,_=>[]
 |d+1,e =>
  if e.Op=0 then Lib.decDigits e.N.toNat else if e.Op=1 then e.S else if e.Op=2 then yG++(e.S++(t__++e.Key))else if e.Op=3 then we++e.S
  else if e.Op=16 then kX++(atS (zN d (yL e 0)) (lvO (yL e 0).Op) 0++(yr++(atS (zN d (yL e 1)) (lvO (yL e 1).Op) 0++(yD++atS (zN d (yL e 2)) (lvO (yL e 2).Op) 0))))
  else if e.Op=15 then Wg++atS (zN d (yL e 0)) (lvO (yL e 0).Op) 3
  else if e.Op=9 then Jo++atS (zN d (yL e 0)) (lvO (yL e 0).Op) 7
  else atS (zN d (yL e 0)) (lvO (yL e 0).Op) (if lvO e.Op=4 then 5 else lvO e.Op)++(t__++(sgO e.Op++(t__++atS (zN d (yL e 1)) (lvO (yL e 1).Op) (lvO e.Op+1))))
theorem Aw(t:List UInt8)(a b:Int):(atS t a b).length≤t.length+4:=by
 unfold atS;split
 ·simp only[la,show Wi.length=2 from rfl,show Y0.length=2 from rfl];omega
 ·omega
theorem kQ{s:List UInt8}(h:zM s=true):s.length≤20∧s≠[]:=by
 unfold zM at h;simp only[bn]at h;exact zux h.1
theorem Hl{e:Expr}(h:yw e=true):(0≤e.Op∧e.Op<17∧((e.Args.length:Nat):Int)=kd e.Op)∧(0≤e.N∧e.N≤1099511627776)∧e.S.length≤20∧e.Key.length≤20∧((e.Op=1∨e.Op=2∨e.Op=3)→zM e.S=true)∧(e.Op=2→zM e.Key=true):=by
 unfold yw at h;simp only[bn,decide_eq_true_eq]at h;obtain⟨h1,h2,h3,h4⟩:=h;refine⟨h1,?_,?_,?_,fun ho=>by rwa [if_pos ho]at h3,fun ho=>by rwa [if_pos ho]at h4⟩
 ·split at h2
  ·exact h2
  ·omega
 ·split at h3
  ·exact(kQ h3).1
  ·rw[of_decide_eq_true h3];decide
 ·split at h4
  ·exact(kQ h4).1
  ·rw[of_decide_eq_true h4];decide
theorem WY:∀(d:Nat)(e:Expr),okE d e=true→(zN d e).length≤100*4 ^ d
 |0,e,h=>by cases h
 |d+1,e,h=>by
  rw[okE,bn]at h;obtain⟨hh,ha⟩:=h;obtain⟨⟨h0,h1,hl⟩,⟨n0,n1⟩,hs,hk,_⟩:=Hl hh;have hp:0<4 ^ d:=Nat.pow_pos (by omega)
  have arg:∀i,i<e.Args.length→(zN d (yL e i)).length≤100*4 ^ d:=fun i hi=>by
   refine WY d _ (List.all_eq_true.1 ha _ ?_);unfold yL;rw[List.getD_eq_getElem?_getD,List.getElem?_eq_getElem hi];exact List.getElem_mem hi
  rw[Nat.pow_succ,zN];by_cases o0:e.Op=0
  ·rw[if_pos o0];have:=Vu (n:=e.N.toNat) (by omega);omega
  rw[if_neg o0];by_cases o1:e.Op=1
  ·rw[if_pos o1];omega
  rw[if_neg o1];by_cases o2:e.Op=2
  ·rw[if_pos o2];simp only[la,show yG.length=6 from rfl,show t__.length=1 from rfl];omega
  rw[if_neg o2];by_cases o3:e.Op=3
  ·rw[if_pos o3];simp only[la,show we.length=5 from rfl];omega
  rw[if_neg o3];by_cases o16:e.Op=16
  ·rw[if_pos o16]
   have:e.Args.length=3:=by rw[o16]at hl;have:kd 16=3:=rfl;omega
   have a0:=arg 0 (by omega);have a1:=arg 1 (by omega);have a2:=arg 2 (by omega);have b0:=Aw (zN d (yL e 0)) (lvO (yL e 0).Op) 0;have b1:=Aw (zN d (yL e 1)) (lvO (yL e 1).Op) 0;have b2:=Aw (zN d (yL e 2)) (lvO (yL e 2).Op) 0;simp only[la,show kX.length=3 from rfl,show yr.length=6 from rfl,show yD.length=6 from rfl];omega
  rw[if_neg o16];by_cases o15:e.Op=15
  ·rw[if_pos o15]
   have:e.Args.length=1:=by rw[o15]at hl;have:kd 15=1:=rfl;omega
   have a0:=arg 0 (by omega);have b0:=Aw (zN d (yL e 0)) (lvO (yL e 0).Op) 3;simp only[la,show Wg.length=4 from rfl];omega
  rw[if_neg o15];by_cases o9:e.Op=9
  ·rw[if_pos o9]
   have:e.Args.length=1:=by rw[o9]at hl;have:kd 9=1:=rfl;omega
   have a0:=arg 0 (by omega);have b0:=Aw (zN d (yL e 0)) (lvO (yL e 0).Op) 7;simp only[la,show Jo.length=2 from rfl];omega
  rw[if_neg o9]
  have:e.Args.length=2:=by
   have:kd e.Op=2:=by unfold kd;rw[if_neg (by omega),if_neg (by omega),if_neg o16]
   omega
  have a0:=arg 0 (by omega);have a1:=arg 1 (by omega);have b0:=Aw (zN d (yL e 0)) (lvO (yL e 0).Op) (if lvO e.Op=4 then 5 else lvO e.Op);have b1:=Aw (zN d (yL e 1)) (lvO (yL e 1).Op) (lvO e.Op+1);have:=zDn e.Op;simp only[la,show t__.length=1 from rfl];omega
theorem lzQ:(∀a b:List UInt8,(a++b).length=a.length+b.length)∧Wi.length=2∧Y0.length=2∧t__.length=1∧yG.length=6∧we.length=5∧kX.length=3∧yr.length=6∧yD.length=6∧Wg.length=4∧Jo.length=2:=⟨fun _ _=>List.length_append,rfl,rfl,rfl,rfl,rfl,rfl,rfl,rfl,rfl,rfl⟩
theorem uP{t:List UInt8}{a b:Int}(h:a<b):atS t a b=Wi++(t++Y0):=if_pos h
theorem qG{t:List UInt8}{a b:Int}(h:¬a<b):atS t a b=t:=if_neg h
theorem l28:Wi.length=2:=rfl
theorem l29:Y0.length=2:=rfl
theorem lsp:t__.length=1:=rfl
theorem ltb:yG.length=6:=rfl
theorem lzn:we.length=5:=rfl
theorem lif:kX.length=3:=rfl
theorem lth:yr.length=6:=rfl
theorem lel:yD.length=6:=rfl
theorem lnt:Wg.length=4:=rfl
theorem lmi:Jo.length=2:=rfl
theorem i29:Y0=[32,41]:=rfl
theorem wk{e:Expr}{i:Nat}(h:i<e.Args.length):idx e.Args (i:Int)=some (yL e i):=by
 refine zy ?_;unfold yL;rw[List.getD_eq_getElem?_getD,List.getElem?_eq_getElem h];rfl
theorem zr8{e:Expr}{i:Nat}(h:i<e.Args.length):yL e i∈e.Args:=by
 unfold yL;rw[List.getD_eq_getElem?_getD,List.getElem?_eq_getElem h];exact List.getElem_mem h
def WrOK(RK:Nat)(d:Nat)(e:Expr):Prop:=∀i,i<e.Args.length→∀(b:List UInt8)(f:Int),b.length+(atS (zN d (yL e i)) (lvO (yL e i).Op) f).length≤140737488355328→xz RK b (yL e i) f=some (b++atS (zN d (yL e i)) (lvO (yL e i).Op) f)
theorem zHt{RK d:Nat}{e:Expr}(ih:WrOK RK d e)(hl:e.Args.length=3){b:List UInt8}(hb:b.length+(kX++(atS (zN d (yL e 0)) (lvO (yL e 0).Op) 0++(yr++(atS (zN d (yL e 1)) (lvO (yL e 1).Op) 0++(yD++atS (zN d (yL e 2)) (lvO (yL e 2).Op) 0))))).length≤140737488355328)(c1 c2:Int)(c3 c4:List UInt8):
  jN (xz RK) ((3:Nat):Int) c1 c2 c3 c4 e.Args ([kX,yr,yD]:List (List UInt8)) KK (b,0)=some (b++(kX++(atS (zN d (yL e 0)) (lvO (yL e 0).Op) 0++(yr++(atS (zN d (yL e 1)) (lvO (yL e 1).Op) 0++(yD++atS (zN d (yL e 2)) (lvO (yL e 2).Op) 0)))))):=by
 obtain⟨k,hk⟩:∃k,KK=k+4:=⟨KK-4,by have:=ja (n:=100) (by omega);omega⟩
 simp only[la,lif,lth,lel]at hb;have i0:idx e.Args 0=some (yL e 0):=wk (i:=0) (by omega);have i1:idx e.Args 1=some (yL e 1):=wk (i:=1) (by omega);have i2:idx e.Args 2=some (yL e 2):=wk (i:=2) (by omega);rw[hk,jN];simp only[show decide ((0:Int)<((3:Nat):Int))=true from rfl,ctQ];rw[zi (by decide),bsQ,show(([kX,yr,yD]:List (List UInt8)))[(Int.toNat 0)]?=some kX from rfl,bsQ,yf (by rw[lif];omega),bsQ,i0,bsQ];simp only[];rw[ih 0 (by omega) _ _ (by simp only[la,lif];omega),bsQ,show w64 (0+1)=1 from rfl,jN];simp only[show decide ((1:Int)<((3:Nat):Int))=true from rfl,ctQ];rw[zi (by decide),bsQ,show(([kX,yr,yD]:List (List UInt8)))[(Int.toNat 1)]?=some yr from rfl,bsQ,yf (by simp only[la,lif,lth];omega),bsQ,i1,bsQ];simp only[];rw[ih 1 (by omega) _ _ (by simp only[la,lif,lth];omega),bsQ,show w64 (1+1)=2 from rfl,jN];simp only[show decide ((2:Int)<((3:Nat):Int))=true from rfl,ctQ];rw[zi (by decide),bsQ,show(([kX,yr,yD]:List (List UInt8)))[(Int.toNat 2)]?=some yD from rfl,bsQ,yf (by simp only[la,lif,lth,lel];omega),bsQ,i2,bsQ];simp only[];rw[ih 2 (by omega) _ _ (by simp only[la,lif,lth,lel];omega),bsQ,show w64 (2+1)=3 from rfl,jN];simp only[show decide ((3:Int)<((3:Nat):Int))=false from rfl,cf,asc]
theorem zHu{RK d:Nat}{e:Expr}(ih:WrOK RK d e)(hl:e.Args.length=3){b:List UInt8}(hb:b.length+(kX++(atS (zN d (yL e 0)) (lvO (yL e 0).Op) 0++(yr++(atS (zN d (yL e 1)) (lvO (yL e 1).Op) 0++(yD++atS (zN d (yL e 2)) (lvO (yL e 2).Op) 0))))).length≤140737488355328)(c1 c2:Int)(c3 c4:List UInt8):
  jO (xz RK) ((3:Nat):Int) c1 c2 c3 c4 e.Args ([kX,yr,yD]:List (List UInt8)) KK (b,0)=some (b++(kX++(atS (zN d (yL e 0)) (lvO (yL e 0).Op) 0++(yr++(atS (zN d (yL e 1)) (lvO (yL e 1).Op) 0++(yD++atS (zN d (yL e 2)) (lvO (yL e 2).Op) 0)))))):=by
 obtain⟨k,hk⟩:∃k,KK=k+4:=⟨KK-4,by have:=ja (n:=100) (by omega);omega⟩
 simp only[la,lif,lth,lel]at hb;have i0:idx e.Args 0=some (yL e 0):=wk (i:=0) (by omega);have i1:idx e.Args 1=some (yL e 1):=wk (i:=1) (by omega);have i2:idx e.Args 2=some (yL e 2):=wk (i:=2) (by omega);rw[hk,jO];simp only[show decide ((0:Int)<((3:Nat):Int))=true from rfl,ctQ];rw[zi (by decide),bsQ,show(([kX,yr,yD]:List (List UInt8)))[(Int.toNat 0)]?=some kX from rfl,bsQ,yf (by rw[lif];omega),bsQ,i0,bsQ];simp only[];rw[ih 0 (by omega) _ _ (by simp only[la,lif];omega),bsQ,show w64 (0+1)=1 from rfl,jO];simp only[show decide ((1:Int)<((3:Nat):Int))=true from rfl,ctQ];rw[zi (by decide),bsQ,show(([kX,yr,yD]:List (List UInt8)))[(Int.toNat 1)]?=some yr from rfl,bsQ,yf (by simp only[la,lif,lth];omega),bsQ,i1,bsQ];simp only[];rw[ih 1 (by omega) _ _ (by simp only[la,lif,lth];omega),bsQ,show w64 (1+1)=2 from rfl,jO];simp only[show decide ((2:Int)<((3:Nat):Int))=true from rfl,ctQ];rw[zi (by decide),bsQ,show(([kX,yr,yD]:List (List UInt8)))[(Int.toNat 2)]?=some yD from rfl,bsQ,yf (by simp only[la,lif,lth,lel];omega),bsQ,i2,bsQ];simp only[];rw[ih 2 (by omega) _ _ (by simp only[la,lif,lth,lel];omega),bsQ,show w64 (2+1)=3 from rfl,jO];simp only[show decide ((3:Int)<((3:Nat):Int))=false from rfl,cf,asc]
theorem zxq{RK d:Nat}{e:Expr}{b:List UInt8}{f:Int}(hh:yw e=true)(ih:WrOK RK d e)(hb:b.length+(atS (zN (d+1) e) (lvO e.Op) f).length≤140737488355328):xz (RK+1) b e f=some (b++atS (zN (d+1) e) (lvO e.Op) f):=by
 obtain⟨⟨h0,h1,hl⟩,⟨n0,n1⟩,hs,hk,_⟩:=Hl hh;have hsg:=zDn e.Op;have hlv:=zNu e.Op;rw[xz,yd,zDm h0 h1];simp only[bsQ];by_cases o0:e.Op=0
 ·have hT:zN (d+1) e=Lib.decDigits e.N.toNat:=by rw[zN,if_pos o0]
  rw[hT]at hb ⊢;have hd:=Vu (n:=e.N.toNat) (by omega);by_cases hf:lvO e.Op<f
  ·rw[uP hf]at hb ⊢
   try simp only[lzQ]at hb
   simp only[dt hf,ctQ,cf,dt o0,];rw[yf (by (try simp only[lzQ]);omega),bsQ]
   try simp only[]
   rw[zku n0 (by omega),bsQ]
   try simp only[]
   rw[yf (by (try simp only[lzQ]);omega),bsQ]
   try simp only[]
   rw[J8 (by (try simp only[lzQ]);omega),bsQ]
   try simp only[]
   try simp only[asc,i29]
  ·rw[qG hf]at hb ⊢
   try simp only[lzQ]at hb
   simp only[df hf,ctQ,cf,dt o0,];rw[zku n0 (by omega),bsQ]
   try simp only[]
   rw[yf (by (try simp only[lzQ]);omega),bsQ]
   try simp only[]
   try simp only[asc,i29]
 by_cases o1:e.Op=1
 ·have hT:zN (d+1) e=e.S:=by rw[zN,if_neg o0,if_pos o1]
  rw[hT]at hb ⊢;by_cases hf:lvO e.Op<f
  ·rw[uP hf]at hb ⊢
   try simp only[lzQ]at hb
   simp only[dt hf,ctQ,cf,df o0,dt o1,];rw[yf (by (try simp only[lzQ]);omega),bsQ]
   try simp only[]
   rw[yf (by (try simp only[lzQ]);omega),bsQ]
   try simp only[]
   rw[J8 (by (try simp only[lzQ]);omega),bsQ]
   try simp only[]
   try simp only[asc,i29]
  ·rw[qG hf]at hb ⊢
   try simp only[lzQ]at hb
   simp only[df hf,ctQ,cf,df o0,dt o1,];rw[yf (by (try simp only[lzQ]);omega),bsQ]
   try simp only[]
   try simp only[asc,i29]
 by_cases o2:e.Op=2
 ·have hT:zN (d+1) e=yG++(e.S++(t__++e.Key)):=by rw[zN,if_neg o0,if_neg o1,if_pos o2]
  rw[hT]at hb ⊢;by_cases hf:lvO e.Op<f
  ·rw[uP hf]at hb ⊢
   try simp only[lzQ]at hb
   simp only[dt hf,ctQ,cf,df o0,df o1,dt o2,];rw[yf (by (try simp only[lzQ]);omega),bsQ]
   try simp only[]
   rw[zi (by (try simp only[lzQ]);omega),bsQ]
   try simp only[]
   rw[zi (by (try simp only[lzQ]);omega),bsQ]
   try simp only[]
   rw[zi (by (try simp only[lzQ]);omega),bsQ]
   try simp only[]
   rw[yf (by (try simp only[lzQ]);omega),bsQ]
   try simp only[]
   rw[J8 (by (try simp only[lzQ]);omega),bsQ]
   try simp only[]
   try simp only[asc,i29]
  ·rw[qG hf]at hb ⊢
   try simp only[lzQ]at hb
   simp only[df hf,ctQ,cf,df o0,df o1,dt o2,];rw[zi (by (try simp only[lzQ]);omega),bsQ]
   try simp only[]
   rw[zi (by (try simp only[lzQ]);omega),bsQ]
   try simp only[]
   rw[zi (by (try simp only[lzQ]);omega),bsQ]
   try simp only[]
   rw[yf (by (try simp only[lzQ]);omega),bsQ]
   try simp only[]
   try simp only[asc,i29]
 by_cases o3:e.Op=3
 ·have hT:zN (d+1) e=we++e.S:=by rw[zN,if_neg o0,if_neg o1,if_neg o2,if_pos o3]
  rw[hT]at hb ⊢;by_cases hf:lvO e.Op<f
  ·rw[uP hf]at hb ⊢
   try simp only[lzQ]at hb
   simp only[dt hf,ctQ,cf,df o0,df o1,df o2,dt o3,];rw[yf (by (try simp only[lzQ]);omega),bsQ]
   try simp only[]
   rw[zi (by (try simp only[lzQ]);omega),bsQ]
   try simp only[]
   rw[yf (by (try simp only[lzQ]);omega),bsQ]
   try simp only[]
   rw[J8 (by (try simp only[lzQ]);omega),bsQ]
   try simp only[]
   try simp only[asc,i29]
  ·rw[qG hf]at hb ⊢
   try simp only[lzQ]at hb
   simp only[df hf,ctQ,cf,df o0,df o1,df o2,dt o3,];rw[zi (by (try simp only[lzQ]);omega),bsQ]
   try simp only[]
   rw[yf (by (try simp only[lzQ]);omega),bsQ]
   try simp only[]
   try simp only[asc,i29]
 by_cases o16:e.Op=16
 ·have hT:zN (d+1) e=kX++(atS (zN d (yL e 0)) (lvO (yL e 0).Op) 0++(yr++(atS (zN d (yL e 1)) (lvO (yL e 1).Op) 0++(yD++atS (zN d (yL e 2)) (lvO (yL e 2).Op) 0)))):=by rw[zN,if_neg o0,if_neg o1,if_neg o2,if_neg o3,if_pos o16]
  rw[hT]at hb ⊢
  have hn:e.Args.length=3:=by rw[o16]at hl;have:kd 16=3:=rfl;omega
  have i0:idx e.Args 0=some (yL e 0):=wk (i:=0) (by omega);have i1:idx e.Args 1=some (yL e 1):=wk (i:=1) (by omega);have i2:idx e.Args 2=some (yL e 2):=wk (i:=2) (by omega);by_cases hf:lvO e.Op<f
  ·rw[uP hf]at hb ⊢
   try simp only[lzQ]at hb
   simp only[dt hf,ctQ,cf,df o0,df o1,df o2,df o3,dt o16,];rw[yf (by (try simp only[lzQ]);omega),bsQ]
   try simp only[]
   rw[zHt ih hn (by (try simp only[lzQ]);omega),bsQ]
   try simp only[]
   rw[J8 (by (try simp only[lzQ]);omega),bsQ]
   try simp only[]
   try simp only[asc,i29]
  ·rw[qG hf]at hb ⊢
   try simp only[lzQ]at hb
   simp only[df hf,ctQ,cf,df o0,df o1,df o2,df o3,dt o16,];rw[zHu ih hn (by (try simp only[lzQ]);omega),bsQ]
   try simp only[]
   try simp only[asc,i29]
 by_cases o15:e.Op=15
 ·have hT:zN (d+1) e=Wg++atS (zN d (yL e 0)) (lvO (yL e 0).Op) 3:=by rw[zN,if_neg o0,if_neg o1,if_neg o2,if_neg o3,if_neg o16,if_pos o15]
  rw[hT]at hb ⊢
  have hn:e.Args.length=1:=by rw[o15]at hl;have:kd 15=1:=rfl;omega
  have i0:idx e.Args 0=some (yL e 0):=wk (i:=0) (by omega)
  have hv:lvO e.Op=3:=by rw[o15];rfl
  by_cases hf:lvO e.Op<f
  ·rw[uP hf]at hb ⊢
   try simp only[lzQ]at hb
   simp only[dt hf,ctQ,cf,df o0,df o1,df o2,df o3,df o16,dt o15,];rw[yf (by (try simp only[lzQ]);omega),bsQ]
   try simp only[]
   rw[yf (by (try simp only[lzQ]);omega),bsQ]
   try simp only[]
   rw[i0,bsQ]
   try simp only[]
   simp only[hv];rw[ih 0 (by omega) _ _ (by (try simp only[lzQ]);omega),bsQ]
   try simp only[]
   rw[J8 (by (try simp only[lzQ]);omega),bsQ]
   try simp only[]
   try simp only[asc,i29]
  ·rw[qG hf]at hb ⊢
   try simp only[lzQ]at hb
   simp only[df hf,ctQ,cf,df o0,df o1,df o2,df o3,df o16,dt o15,];rw[yf (by (try simp only[lzQ]);omega),bsQ]
   try simp only[]
   rw[i0,bsQ]
   try simp only[]
   simp only[hv];rw[ih 0 (by omega) _ _ (by (try simp only[lzQ]);omega),bsQ]
   try simp only[]
   try simp only[asc,i29]
 by_cases o9:e.Op=9
 ·have hT:zN (d+1) e=Jo++atS (zN d (yL e 0)) (lvO (yL e 0).Op) 7:=by rw[zN,if_neg o0,if_neg o1,if_neg o2,if_neg o3,if_neg o16,if_neg o15,if_pos o9]
  rw[hT]at hb ⊢
  have hn:e.Args.length=1:=by rw[o9]at hl;have:kd 9=1:=rfl;omega
  have i0:idx e.Args 0=some (yL e 0):=wk (i:=0) (by omega)
  have hv:lvO e.Op=7:=by rw[o9];rfl
  by_cases hf:lvO e.Op<f
  ·rw[uP hf]at hb ⊢
   try simp only[lzQ]at hb
   simp only[dt hf,ctQ,cf,df o0,df o1,df o2,df o3,df o16,df o15,dt o9,];rw[yf (by (try simp only[lzQ]);omega),bsQ]
   try simp only[]
   rw[yf (by (try simp only[lzQ]);omega),bsQ]
   try simp only[]
   rw[i0,bsQ]
   try simp only[]
   simp only[hv];rw[ih 0 (by omega) _ _ (by (try simp only[lzQ]);omega),bsQ]
   try simp only[]
   rw[J8 (by (try simp only[lzQ]);omega),bsQ]
   try simp only[]
   try simp only[asc,i29]
  ·rw[qG hf]at hb ⊢
   try simp only[lzQ]at hb
   simp only[df hf,ctQ,cf,df o0,df o1,df o2,df o3,df o16,df o15,dt o9,];rw[yf (by (try simp only[lzQ]);omega),bsQ]
   try simp only[]
   rw[i0,bsQ]
   try simp only[]
   simp only[hv];rw[ih 0 (by omega) _ _ (by (try simp only[lzQ]);omega),bsQ]
   try simp only[]
   try simp only[asc,i29]
 ·have hT:zN (d+1) e=atS (zN d (yL e 0)) (lvO (yL e 0).Op) (if lvO e.Op=4 then 5 else lvO e.Op)++(t__++(sgO e.Op++(t__++atS (zN d (yL e 1)) (lvO (yL e 1).Op) (lvO e.Op+1)))):=by rw[zN,if_neg o0,if_neg o1,if_neg o2,if_neg o3,if_neg o16,if_neg o15,if_neg o9]
  rw[hT]at hb ⊢
  have hn:e.Args.length=2:=by
   have:kd e.Op=2:=by unfold kd;rw[if_neg (by omega),if_neg (by omega),if_neg o16]
   omega
  have hbin:zTm e.Op=true:=by unfold zTm;exact dt (by omega)
  have i0:idx e.Args 0=some (yL e 0):=wk (i:=0) (by omega);have i1:idx e.Args 1=some (yL e 1):=wk (i:=1) (by omega)
  have hx:(bif (decide (lvO e.Op=4))then some (lvO e.Op+1)else some (lvO e.Op))=some (if lvO e.Op=4 then 5 else lvO e.Op):=by
   by_cases h4:lvO e.Op=4
   ·rw[dt h4,if_pos h4,h4];rfl
   ·rw[df h4,if_neg h4];rfl
  have hw:w64 (lvO e.Op+1)=lvO e.Op+1:=kM (by omega) (by omega);by_cases hf:lvO e.Op<f
  ·rw[uP hf]at hb ⊢
   try simp only[lzQ]at hb
   simp only[dt hf,ctQ,cf,df o0,df o1,df o2,df o3,df o16,df o15,df o9,hbin,hx,hw,bsQ];rw[yf (by (try simp only[lzQ]);omega),bsQ]
   try simp only[]
   rw[i0,bsQ]
   try simp only[]
   rw[ih 0 (by omega) _ _ (by (try simp only[lzQ]);omega),bsQ]
   try simp only[]
   rw[zi (by (try simp only[lzQ]);omega),bsQ]
   try simp only[]
   rw[zi (by (try simp only[lzQ]);omega),bsQ]
   try simp only[]
   rw[yf (by (try simp only[lzQ]);omega),bsQ]
   try simp only[]
   rw[i1,bsQ]
   try simp only[]
   rw[ih 1 (by omega) _ _ (by (try simp only[lzQ]);omega),bsQ]
   try simp only[]
   rw[J8 (by (try simp only[lzQ]);omega),bsQ]
   try simp only[]
   try simp only[asc,i29]
  ·rw[qG hf]at hb ⊢
   try simp only[lzQ]at hb
   simp only[df hf,ctQ,cf,df o0,df o1,df o2,df o3,df o16,df o15,df o9,hbin,hx,hw,bsQ];rw[i0,bsQ]
   try simp only[]
   rw[ih 0 (by omega) _ _ (by (try simp only[lzQ]);omega),bsQ]
   try simp only[]
   rw[zi (by (try simp only[lzQ]);omega),bsQ]
   try simp only[]
   rw[zi (by (try simp only[lzQ]);omega),bsQ]
   try simp only[]
   rw[yf (by (try simp only[lzQ]);omega),bsQ]
   try simp only[]
   rw[i1,bsQ]
   try simp only[]
   rw[ih 1 (by omega) _ _ (by (try simp only[lzQ]);omega),bsQ]
   try simp only[]
   try simp only[asc,i29]
theorem zu6:∀(d:Nat)(e:Expr)(K:Nat)(b:List UInt8)(f:Int),okE d e=true→d<K→b.length+(atS (zN d e) (lvO e.Op) f).length≤140737488355328→xz K b e f=some (b++atS (zN d e) (lvO e.Op) f)
 |0,e,K,b,f,h,_,_=>by cases h
 |d+1,e,K,b,f,h,hK,hb=>by
  obtain⟨K,rfl⟩:∃k,K=k+1:=⟨K-1,by omega⟩
  rw[okE,bn]at h;exact zxq h.1 (fun i hi b f hb=>zu6 d _ K b f (List.all_eq_true.1 h.2 _ (zr8 hi)) (by omega) hb) hb
def TxOK(RK:Nat)(d:Nat)(e:Expr):Prop:=∀i,i<e.Args.length→∀(f:Int),(zN d (yL e i)).length≤1000000000000∧A8 RK (yL e i) f=some (atS (zN d (yL e i)) (lvO (yL e i).Op) f)
theorem zDo{RK d:Nat}{e:Expr}(hh:yw e=true)(ih:TxOK RK d e):kG (RK+1) e=some (zN (d+1) e):=by
 obtain⟨⟨h0,h1,hl⟩,⟨n0,n1⟩,hs,hk,_⟩:=Hl hh;have hsg:=zDn e.Op;have hlv:=zNu e.Op;rw[kG,yd,zu5 h0 h1];simp only[bsQ];by_cases o0:e.Op=0
 ·rw[zN,if_pos o0]
  simp only[ctQ,cf,dt o0,zej n0 (by omega:e.N≤9223372036854775807),bsQ]
 by_cases o1:e.Op=1
 ·rw[zN,if_neg o0,if_pos o1]
  simp only[ctQ,cf,df o0,dt o1]
 by_cases o2:e.Op=2
 ·rw[zN,if_neg o0,if_neg o1,if_pos o2]
  simp only[ctQ,cf,df o0,df o1,dt o2];rw[zi (by (try simp only[lzQ]);omega),bsQ]
  try simp only[]
  rw[zi (by (try simp only[lzQ]);omega),bsQ]
  try simp only[]
  rw[zi (by (try simp only[lzQ]);omega),bsQ]
  try simp only[]
  simp only[asc]
 by_cases o3:e.Op=3
 ·rw[zN,if_neg o0,if_neg o1,if_neg o2,if_pos o3]
  simp only[ctQ,cf,df o0,df o1,df o2,dt o3];rw[zi (by (try simp only[lzQ]);omega),bsQ]
  try simp only[]
 by_cases o16:e.Op=16
 ·rw[zN,if_neg o0,if_neg o1,if_neg o2,if_neg o3,if_pos o16]
  have hn:e.Args.length=3:=by rw[o16]at hl;have:kd 16=3:=rfl;omega
  have i0:idx e.Args 0=some (yL e 0):=wk (i:=0) (by omega);obtain⟨a0,x0⟩:=ih 0 (by omega) 0;have b0:=Aw (zN d (yL e 0)) (lvO (yL e 0).Op) 0;have i1:idx e.Args 1=some (yL e 1):=wk (i:=1) (by omega);obtain⟨a1,x1⟩:=ih 1 (by omega) 0;have b1:=Aw (zN d (yL e 1)) (lvO (yL e 1).Op) 0;have i2:idx e.Args 2=some (yL e 2):=wk (i:=2) (by omega);obtain⟨a2,x2⟩:=ih 2 (by omega) 0;have b2:=Aw (zN d (yL e 2)) (lvO (yL e 2).Op) 0;simp only[ctQ,cf,df o0,df o1,df o2,df o3,dt o16];rw[i0,bsQ]
  try simp only[]
  rw[x0,bsQ]
  try simp only[]
  rw[zi (by (try simp only[lzQ]);omega),bsQ]
  try simp only[]
  rw[zi (by (try simp only[lzQ]);omega),bsQ]
  try simp only[]
  rw[i1,bsQ]
  try simp only[]
  rw[x1,bsQ]
  try simp only[]
  rw[zi (by (try simp only[lzQ]);omega),bsQ]
  try simp only[]
  rw[zi (by (try simp only[lzQ]);omega),bsQ]
  try simp only[]
  rw[i2,bsQ]
  try simp only[]
  rw[x2,bsQ]
  try simp only[]
  rw[zi (by (try simp only[lzQ]);omega),bsQ]
  try simp only[]
  simp only[asc]
 by_cases o15:e.Op=15
 ·rw[zN,if_neg o0,if_neg o1,if_neg o2,if_neg o3,if_neg o16,if_pos o15]
  have hn:e.Args.length=1:=by rw[o15]at hl;have:kd 15=1:=rfl;omega
  have i0:idx e.Args 0=some (yL e 0):=wk (i:=0) (by omega);obtain⟨a0,x0⟩:=ih 0 (by omega) 3;have b0:=Aw (zN d (yL e 0)) (lvO (yL e 0).Op) 3
  have hv:lvO e.Op=3:=by rw[o15];rfl
  simp only[ctQ,cf,df o0,df o1,df o2,df o3,df o16,dt o15,hv];rw[i0,bsQ]
  try simp only[]
  rw[x0,bsQ]
  try simp only[]
  rw[zi (by (try simp only[lzQ]);omega),bsQ]
  try simp only[]
 by_cases o9:e.Op=9
 ·rw[zN,if_neg o0,if_neg o1,if_neg o2,if_neg o3,if_neg o16,if_neg o15,if_pos o9]
  have hn:e.Args.length=1:=by rw[o9]at hl;have:kd 9=1:=rfl;omega
  have i0:idx e.Args 0=some (yL e 0):=wk (i:=0) (by omega);obtain⟨a0,x0⟩:=ih 0 (by omega) 7;have b0:=Aw (zN d (yL e 0)) (lvO (yL e 0).Op) 7
  have hv:lvO e.Op=7:=by rw[o9];rfl
  simp only[ctQ,cf,df o0,df o1,df o2,df o3,df o16,df o15,dt o9,hv];rw[i0,bsQ]
  try simp only[]
  rw[x0,bsQ]
  try simp only[]
  rw[zi (by (try simp only[lzQ]);omega),bsQ]
  try simp only[]
 ·rw[zN,if_neg o0,if_neg o1,if_neg o2,if_neg o3,if_neg o16,if_neg o15,if_neg o9]
  have hn:e.Args.length=2:=by
   have:kd e.Op=2:=by unfold kd;rw[if_neg (by omega),if_neg (by omega),if_neg o16]
   omega
  have i0:idx e.Args 0=some (yL e 0):=wk (i:=0) (by omega);obtain⟨a0,x0⟩:=ih 0 (by omega) (if lvO e.Op=4 then 5 else lvO e.Op);have b0:=Aw (zN d (yL e 0)) (lvO (yL e 0).Op) (if lvO e.Op=4 then 5 else lvO e.Op);have i1:idx e.Args 1=some (yL e 1):=wk (i:=1) (by omega);obtain⟨a1,x1⟩:=ih 1 (by omega) (lvO e.Op+1);have b1:=Aw (zN d (yL e 1)) (lvO (yL e 1).Op) (lvO e.Op+1);have hw:w64 (lvO e.Op+1)=lvO e.Op+1:=kM (by omega) (by omega)
  have h4:((bif (decide (e.Op=10))then some (decide (e.Op=10))else(bif (decide (e.Op=11))then some (decide (e.Op=11))else some (decide (e.Op=12)))):Option Bool)=some (decide (lvO e.Op=4)):=by
   obtain h|h|h|h|h|h|h|h|h|h:e.Op=4∨e.Op=5∨e.Op=6∨e.Op=7∨e.Op=8∨e.Op=10∨e.Op=11∨e.Op=12∨e.Op=13∨e.Op=14:=by omega
   all_goals rw[h];rfl
  simp only[ctQ,cf,df o0,df o1,df o2,df o3,df o16,df o15,df o9];rw[h4,bsQ];by_cases hf:lvO e.Op=4
  ·rw[if_pos hf]at x0 b0 ⊢
   simp only[dt hf,ctQ,cf,hw];rw[show lvO e.Op+1=5 by omega]at *;rw[i0,bsQ]
   try simp only[]
   rw[x0,bsQ]
   try simp only[]
   rw[zi (by (try simp only[lzQ]);omega),bsQ]
   try simp only[]
   rw[sign_eq h0 h1,bsQ]
   try simp only[]
   rw[zi (by (try simp only[lzQ]);omega),bsQ]
   try simp only[]
   rw[zi (by (try simp only[lzQ]);omega),bsQ]
   try simp only[]
   rw[i1,bsQ]
   try simp only[]
   rw[x1,bsQ]
   try simp only[]
   rw[zi (by (try simp only[lzQ]);omega),bsQ]
   try simp only[]
   simp only[asc]
  ·rw[if_neg hf]at x0 b0 ⊢
   simp only[df hf,ctQ,cf,hw];rw[i0,bsQ]
   try simp only[]
   rw[x0,bsQ]
   try simp only[]
   rw[zi (by (try simp only[lzQ]);omega),bsQ]
   try simp only[]
   rw[sign_eq h0 h1,bsQ]
   try simp only[]
   rw[zi (by (try simp only[lzQ]);omega),bsQ]
   try simp only[]
   rw[zi (by (try simp only[lzQ]);omega),bsQ]
   try simp only[]
   rw[i1,bsQ]
   try simp only[]
   rw[x1,bsQ]
   try simp only[]
   rw[zi (by (try simp only[lzQ]);omega),bsQ]
   try simp only[]
   simp only[asc]
theorem zSr{d:Nat}{e:Expr}(h:okE d e=true):0≤e.Op∧e.Op<17:=by
 cases d with
 |zero=>cases h
 |succ d =>
  rw[okE,bn]at h;have:=(Hl h.1).1;exact⟨this.1,this.2.1⟩
theorem zNv{K:Nat}{e:Expr}{t:List UInt8}{f:Int}(h0:0≤e.Op)(h1:e.Op<17)(hl:t.length≤1000000000000)(h:kG K e=some t):A8 (K+1) e f=some (atS t (lvO e.Op) f):=by
 rw[A8,yd,zu5 h0 h1,bsQ];by_cases hf:lvO e.Op<f
 ·rw[dt hf,ctQ,uP hf,h,bsQ,zi (by rw[l28];omega),bsQ,zi (by rw[la,l28,l29];omega),bsQ,asc]
 ·rw[df hf,cf,qG hf,h];rfl
theorem zao{d:Nat}(h:d≤12):100*4 ^ d≤1677721600:=by
 have:4 ^ d≤4 ^ 12:=Nat.pow_le_pow_right (by omega) h;have:(4:Nat) ^ 12=16777216:=rfl;omega
theorem zDp:∀(d:Nat)(e:Expr)(K:Nat),okE d e=true→2*d≤K→d≤12→kG K e=some (zN d e)
 |0,e,K,h,_,_=>by cases h
 |d+1,e,K,h,hK,hd=>by
  obtain⟨K,rfl⟩:∃k,K=k+2:=⟨K-2,by omega⟩
  rw[okE,bn]at h
  refine zDo h.1 fun i hi f=>?_
  have ha:=List.all_eq_true.1 h.2 _ (zr8 hi);have hb:=WY d _ ha;have hp:=zao (d:=d) (by omega);obtain⟨o0,o1⟩:=zSr ha;exact⟨by omega,zNv o0 o1 (by omega) (zDp d _ K ha (by omega) (by omega))⟩
theorem at_root{d:Nat}{e:Expr}:atS (zN d e) (lvO e.Op) 0=zN d e:=qG (by have:=zNu e.Op;omega)
theorem zhv{e:Expr}(h:okE 12 e=true):xz KK [] e 0=some (zN 12 e):=by
 have hl:=WY 12 e h;have hp:=zao (d:=12) (by omega);have:=zu6 12 e KK [] 0 h (ja (by omega)) (by rw[at_root];simp only[List.length_nil];omega);rw[at_root,List.nil_append]at this;exact this
theorem zek{e:Expr}(h:okE 12 e=true):kG KK e=some (zN 12 e):=zDp 12 e KK h (Nat.le_of_lt (ja (by omega))) (by omega)
def zu7(e:Expr):List UInt8×Int:=if okE 12 e=true then(if(zN 12 e).length≤8000 then(zN 12 e,0)else([],6))else([],1)
theorem zo3{e:Expr}(h:zox e=true):kZ e=some (zu7 e):=by
 unfold kZ zu7;rw[yd,Au h,bsQ]
 cases hk:okE 12 e with
 |false=>rfl
 |true =>
  rw[if_pos rfl,Bool.not_true,cf,zhv hk,bsQ];unfold zqy jL;rw[bsQ];by_cases hl:(zN 12 e).length≤8000
  ·rw[if_pos hl,df (by omega)];rfl
  ·rw[if_neg hl,dt (by omega)];rfl
theorem zfh{e:Expr}(h:zox e=true):uK e=some (zu7 e):=by
 unfold uK zu7;rw[yd,qF h,bsQ]
 cases hk:okE 12 e with
 |false=>rfl
 |true =>
  rw[if_pos rfl,Bool.not_true,cf,zek hk,bsQ];by_cases hl:(zN 12 e).length≤8000
  ·rw[if_pos hl,df (by omega)];rfl
  ·rw[if_neg hl,dt (by omega)];rfl
def TokN:Int⊕List UInt8→Prop
 |.inl n=>jd n
 |.inr _=>True
theorem zHv{s:List UInt8}(h:s.length≤140737488355328):(((bif (!(decide (s=([]:List UInt8))))then(idx s (w64 (((List.length s:Nat):Int)-1))).bind fun x6=>some (!(decide (((x6.toNat:Nat):Int)=10)))else some false)).bind fun x5=>(bif x5 then(H0 s 32).bind fun x7=>some x7 else some s))=(grd ((zr2 s).length≤140737488355328)).bind fun _=>some (zr2 s):=by
 cases s with
 |nil=>rfl
 |cons c r =>
  have hn:¬(c::r)=[]:=by simp
  rw[df hn,Bool.not_false,ctQ,kM (by simp only[lc];omega) (by omega),show((((c::r).length:Nat):Int)-1)=(((c::r).length-1:Nat):Int) by simp only[lc];omega];have hg:(c::r)[(c::r).length-1]?=(c::r).getLast?:=(List.getLast?_eq_getElem? ..).symm
  obtain⟨a,ha⟩:∃a,(c::r).getLast?=some a:=by
   cases h:(c::r).getLast? with
   |none=>exact absurd (List.getLast?_eq_none_iff.1 h) hn
   |some a=>exact⟨a,rfl⟩
  rw[zy (hg.trans ha),bsQ,bsQ];unfold zr2;rw[show(c::r).isEmpty=false from rfl,Bool.false_or,ha]
  have e:decide (((a.toNat:Nat):Int)=10)=decide (some a=some (10:UInt8)):=wS (by
   constructor
   ·intro h;rw[UInt8.toNat_inj.1 (show a.toNat=(10:UInt8).toNat by show a.toNat=10;omega)]
   ·intro h;cases h;rfl)
  rw[e]
  cases hd:decide (some a=some (10:UInt8))with
  |true =>
   simp only[Bool.not_true,cf,ctQ];rw[zi h];rfl
  |false =>
   simp only[Bool.not_false,cf,ctQ];unfold H0 ztm
   have:((0:Int)≤32∧(32:Int)<256∧(c::r).length+1≤140737488355328)↔((c::r)++[32]).length≤140737488355328:=by simp only[la,List.length_singleton];omega
   by_cases hl:((c::r)++[32]).length≤140737488355328
   ·rw[zi (this.2 hl),zi hl];rfl
   ·unfold grd
    rw[if_neg hl,if_neg (fun h=>hl (this.1 h))];rfl
theorem zNw(s:List UInt8):s.length≤(zr2 s).length:=by
 unfold zr2
 cases s.isEmpty||decide (s.getLast?=some 10)
 ·simp only[cf,la];omega
 ·exact Nat.le_refl _
theorem zDq(s:List UInt8)(x:Int⊕List UInt8):s.length≤(zkm s x).length:=by
 unfold zkm;have:=zNw s;rw[la];omega
theorem zu8:∀(l:List (Int⊕List UInt8))(s:List UInt8),s.length≤(l.foldl zkm s).length
 |[],s=>Nat.le_refl _
 |x::l,s=>by
  rw[List.foldl_cons];have:=zDq s x;have:=zu8 l (zkm s x);omega
theorem zSs(l:List (Int⊕List UInt8))(hs:l.length<4611686018427387904)(hN:∀x∈l,TokN x):∀(r:List (Int⊕List UInt8))(i K:Nat)(s:List UInt8),l.drop i=r→i≤l.length→r.length<K→(r.foldl zkm s).length≤140737488355328 →
  u9 l (List.length l:Nat) K (s,(i:Int))=some (r.foldl zkm s)
 |[],i,K,s,hr,hi,hK,hb=>by
  obtain⟨K,rfl⟩:∃k,K=k+1:=⟨K-1,by simp at hK;omega⟩
  have:=drop_nil hr hi;subst this;rw[u9];simp only[yZ,cf,List.foldl_nil]
 |x::r,i,K,s,hr,hi,hK,hb=>by
  obtain⟨K,rfl⟩:∃k,K=k+1:=⟨K-1,by simp at hK;omega⟩
  obtain⟨h1,h2,h3⟩:=y6 hr;simp only[lc]at hK;rw[List.foldl_cons]at hb ⊢;have l1:=zu8 r (zkm s x);have l2:=zDq s x
  have l3:(zr2 s).length+(uw x).length≤140737488355328:=by
   have:(zkm s x).length=(zr2 s).length+(uw x).length:=by unfold zkm;rw[la]
   omega
  have hx:=hN x (List.mem_of_getElem? h1)
  have key:((((bif (!(decide (s=([]:List UInt8))))then(idx s (w64 (((List.length s:Nat):Int)-1))).bind fun x6=>some (!(decide (((x6.toNat:Nat):Int)=10)))else some false)).bind fun x5=>(bif x5 then(H0 s 32).bind fun x7=>some x7 else some s))).bind (fun x3=>(bif (zLi x)then(oG x3 (anyS x)).bind fun x8=>some x8.2 else(bif (!(zLi x))then((bif (decide ((anyI x)<0))then(oG x3 Jo).bind fun x10=>some (x10.2,(w64 (0-(anyI x))))else some (x3,(anyI x)))).bind fun x9=>(Y2 x9.2).bind fun x11=>(oG x9.1 x11).bind fun x12=>some x12.2 else some x3)))=some (zkm s x):=by
   rw[zHv (by omega),zi (by omega),bsQ,bsQ]
   cases x with
   |inr t =>
    simp only[zLi,anyS,ctQ];rw[zan (show(zr2 s).length+t.length≤_ from l3)];rfl
   |inl n =>
    obtain⟨g0,g1⟩:-9223372036854775807≤n∧n≤9223372036854775807:=hx
    show((bif (decide (n<0))then(oG (zr2 s) Jo).bind fun x10=>some (x10.2,(w64 (0-n)))else some ((zr2 s),n)).bind fun x9=>(Y2 x9.2).bind fun x11=>(oG x9.1 x11).bind fun x12=>some x12.2)=_
    rw[YP]at l3;by_cases hn:n<0
    ·rw[if_pos hn]at l3
     simp only[lc]at l3;rw[dt hn,ctQ,zan (by rw[lmi];omega),bsQ,bsQ,kM (by omega) (by omega)];simp only[];rw[zku (by omega) (by omega),bsQ,show(0-n).toNat=n.natAbs by omega,zan (by rw[la,lmi];omega),bsQ];unfold zkm;rw[YP,if_pos hn,asc];rfl
    ·rw[if_neg hn]at l3
     rw[df hn,cf,bsQ];simp only[];rw[zku (by omega) (by omega),bsQ,zan (by omega),bsQ];unfold zkm;rw[YP,if_neg hn]
  rw[u9];simp only[vk h1,ctQ,zy h1,A5,bsQ];rw[key,bsQ,ya (by omega)];exact zSs l hs hN r (i+1) K _ h2 (by omega) (by omega) hb
theorem put_eq{l:List (Int⊕List UInt8)}{s:List UInt8}(hs:l.length<4611686018427387904)(hN:∀x∈l,TokN x)(hb:(l.foldl zkm s).length≤140737488355328):yk s l=some (l.foldl zkm s):=by
 unfold yk;rw[show(0:Int)=((0:Nat):Int) from rfl,zSs l hs hN l 0 KK s rfl (Nat.zero_le _) (ja (by omega)) hb];rfl
def Vz(s:List UInt8):Prop:=s=[]∨s.getLast?=some 10
theorem zDr{s:List UInt8}(h:Vz s):zr2 s=s:=by
 unfold zr2
 rcases h with rfl|h
 ·rfl
 ·rw[dt h,Bool.or_true];rfl
theorem zHw{s:List UInt8}:Vz (s++[10]):=.inr (by rw[List.getLast?_append];rfl)
def zOs(x:Int⊕List UInt8):Prop:=TokN x∧Good (uw x)
theorem vE(a b:List (Int⊕List UInt8)):spT (a++b)=spT a++spT b:=List.flatMap_append
theorem zap(x:Int⊕List UInt8)(b:List (Int⊕List UInt8)):spT (x::b)=32::uw x++spT b:=rfl
theorem wN{l:List (Int⊕List UInt8)}{s:List UInt8}(hg:Good s)(hl:∀x∈l,zOs x)(hs:l.length<4611686018427387904)(hb:(s++spT l).length≤140737488355328):yk s l=some (s++spT l)∧Good (s++spT l):=by
 obtain⟨h1,h2⟩:=zec hg (fun x hx=>(hl x hx).2);rw[← h1]at hb ⊢;exact⟨put_eq hs (fun x hx=>(hl x hx).1) hb,h1▸h2⟩
theorem Ax{x:Int⊕List UInt8}{l:List (Int⊕List UInt8)}{s:List UInt8}(hg:Vz s)(hl:∀y∈x::l,zOs y)(hs:l.length<1000)(hb:(s++(uw x++spT l)).length≤140737488355328):yk s (x::l)=some (s++(uw x++spT l))∧Good (s++(uw x++spT l)):=by
 have e:zkm s x=s++uw x:=by unfold zkm;rw[zDr hg]
 have hg2:Good (s++uw x):=yV (hl x (List.mem_cons_self ..)).2;obtain⟨h1,h2⟩:=zec hg2 (fun y hy=>(hl y (mcQ _ hy)).2);rw[asc]at h1 h2;refine⟨?_,h2⟩;have:=put_eq (l:=x::l) (s:=s) (by simp only[lc];omega) (fun y hy=>(hl y hy).1) (by rw[List.foldl_cons,e,h1];exact hb);rw[this,List.foldl_cons,e,h1]
theorem zDs:Good jg:=⟨by decide,by decide⟩
theorem WZ{s:List UInt8}(hg:Good s)(hb:(s++[32,59,10]).length≤140737488355328):qi s=some (s++[32,59,10])∧Vz (s++[32,59,10]):=by
 simp only[la,lc,List.length_nil]at hb;unfold qi;rw[(wN (l:=[Sum.inr jg]) hg (fun x hx=>by rw[msQ.1 hx];exact⟨trivial,zDs⟩) (by decide) (by simp only[la,show(spT [Sum.inr jg]).length=2 from rfl];omega)).1,bsQ];unfold H0 ztm;rw[zi ⟨by decide,by decide,by simp only[la,show(spT [Sum.inr jg]).length=2 from rfl];omega⟩,bsQ,bsQ]
 have e:s++spT [Sum.inr jg]++[UInt8.ofNat (Int.toNat 10)]=s++[32,59,10]:=by rw[asc];rfl
 rw[e];refine⟨rfl,?_⟩;have:=zHw (s:=s++[32,59]);simpa using this
theorem zo4{α:Type}(l:List α)(g:α→List UInt8)(L:Nat→Int→List UInt8→Option (List UInt8))(M:Nat)(Inv:List UInt8→Prop)
  (hL:∀K (i:Nat) x s,l[i]?=some x→Inv s→(s++g x).length≤M→L (K+1) (i:Int) s=L K ((i+1:Nat):Int) (s++g x)∧Inv (s++g x)) (hE:∀K s,L (K+1) (l.length:Int) s=some s):
  ∀(r:List α)(i K:Nat)(s:List UInt8),l.drop i=r→i≤l.length→r.length<K→Inv s→(s++r.flatMap g).length≤M→L K (i:Int) s=some (s++r.flatMap g)∧Inv (s++r.flatMap g)
 |[],i,K,s,hr,hi,hK,hI,hM=>by
  obtain⟨K,rfl⟩:∃k,K=k+1:=⟨K-1,by simp at hK;omega⟩
  have:=drop_nil hr hi;subst this;rw[hE];simp only[List.flatMap_nil,List.append_nil,true_and];exact hI
 |x::r,i,K,s,hr,hi,hK,hI,hM=>by
  obtain⟨K,rfl⟩:∃k,K=k+1:=⟨K-1,by simp at hK;omega⟩
  obtain⟨h1,h2,h3⟩:=y6 hr;simp only[lc]at hK;rw[List.flatMap_cons,← asc]at hM ⊢;obtain⟨e1,e2⟩:=hL K i x s h1 hI (by rw[la]at hM;omega);rw[e1];exact zo4 l g L M Inv hL hE r (i+1) K _ h2 (by omega) (by omega) e2 hM
theorem yn{α:Type}(l:List α)(g:α→List UInt8)(L:Nat→Int→List UInt8→Option (List UInt8))(M:Nat)(Inv:List UInt8→Prop){s:List UInt8}(hs:l.length<4611686018427387904)(h0:Inv s)(hM:(s++l.flatMap g).length≤M)
  (hL:∀K (i:Nat) x s,l[i]?=some x→Inv s→(s++g x).length≤M→L (K+1) (i:Int) s=L K ((i+1:Nat):Int) (s++g x)∧Inv (s++g x)) (hE:∀K s,L (K+1) (l.length:Int) s=some s):
  L KK 0 s=some (s++l.flatMap g)∧Inv (s++l.flatMap g):=zo4 l g L M Inv hL hE l 0 KK s rfl (Nat.zero_le _) (ja (by omega)) h0 hM
theorem qH{α:Type}(l:List α)(f:α→List (Int⊕List UInt8)):spT (l.flatMap f)=l.flatMap fun x=>spT (f x):=by
 unfold spT;rw[List.flatMap_assoc]
-- what tokens look like
theorem zkv:∀n:Nat,Good (Lib.decDigits n)
 |n=>by
  have hb:∀m<10,UInt8.ofNat (48+m)≠10:=by decide
  rw[Lib.decDigits];by_cases h:n<10
  ·rw[dif_pos h];exact⟨by simp,by simpa using hb n h⟩
  ·rw[dif_neg h]
   exact yV ⟨by simp,by simpa using hb (n % 10) (by omega)⟩
theorem zHx(n:Int):Good (uw (.inl n)):=by
 rw[YP];split
 ·exact yV (s:=[45,32]) (zkv _)
 ·exact zkv _
theorem oU{s:List UInt8}(h:zM s=true):Good s:=by
 have hn:=kQ h;unfold zM at h;simp only[bn]at h;have ha:=List.all_eq_true.1 (zhp h.1);refine⟨hn.2,fun hl=>?_⟩;have:=ha 10 (List.mem_of_getLast? hl);revert this;decide
theorem zkw{t:List UInt8}{a b:Int}(h:Good t):Good (atS t a b):=by
 unfold atS;split
 ·rw[← asc]
  exact yV ⟨by decide,by decide⟩
 ·exact h
theorem zel:∀(d:Nat)(e:Expr),okE d e=true→Good (zN d e)
 |0,e,h=>by cases h
 |d+1,e,h=>by
  rw[okE,bn]at h;obtain⟨hh,ha⟩:=h;obtain⟨⟨h0,h1,hl⟩,_,_,_,hs,hk⟩:=Hl hh
  have arg:∀i,i<e.Args.length→Good (zN d (yL e i)):=fun i hi=>zel d _ (List.all_eq_true.1 ha _ (zr8 hi))
  rw[zN];by_cases o0:e.Op=0
  ·rw[if_pos o0];exact zkv _
  rw[if_neg o0];by_cases o1:e.Op=1
  ·rw[if_pos o1];exact oU (hs (.inl o1))
  rw[if_neg o1];by_cases o2:e.Op=2
  ·rw[if_pos o2];exact yV (yV (yV (oU (hk o2))))
  rw[if_neg o2];by_cases o3:e.Op=3
  ·rw[if_pos o3];exact yV (oU (hs (.inr (.inr o3))))
  rw[if_neg o3];by_cases o16:e.Op=16
  ·rw[if_pos o16]
   have:e.Args.length=3:=by rw[o16]at hl;have:kd 16=3:=rfl;omega
   exact yV (yV (yV (yV (yV (zkw (arg 2 (by omega)))))))
  rw[if_neg o16];by_cases o15:e.Op=15
  ·rw[if_pos o15]
   have:e.Args.length=1:=by rw[o15]at hl;have:kd 15=1:=rfl;omega
   exact yV (zkw (arg 0 (by omega)))
  rw[if_neg o15];by_cases o9:e.Op=9
  ·rw[if_pos o9]
   have:e.Args.length=1:=by rw[o9]at hl;have:kd 9=1:=rfl;omega
   exact yV (zkw (arg 0 (by omega)))
  rw[if_neg o9]
  have:e.Args.length=2:=by
   have:kd e.Op=2:=by unfold kd;rw[if_neg (by omega),if_neg (by omega),if_neg o16]
   omega
  exact yV (yV (yV (yV (zkw (arg 1 (by omega))))))
abbrev Tok:=Int⊕List UInt8
def KS:List (List UInt8):=[zb0,zb2,zb3,zb1,QT,zbz]
def W1:List (List UInt8):=[zjl,Wh,ZU]
theorem zr9:Ad zm=some KS:=by
 unfold Ad V1;rw[zi (by decide +kernel),bsQ];exact congrArg some (by decide +kernel)
theorem zo5:Ad zZ=some W1:=by
 unfold Ad V1;rw[zi (by decide +kernel),bsQ];exact congrArg some (by decide +kernel)
def zkx(d:Def):List Tok:=[.inr uz,.inr d.Name,.inr zjn,.inr (zN 12 d.Body)]
def zem(x:Entry):List Tok:=[.inr x.Name,.inl x.N]
def oV(t:Table):List Tok:=[.inr wC,.inr t.Name]++(t.Rows.flatMap zem++[.inr kp,.inl t.Else])
def ptT(p:zG):List Tok:=[.inl p.X,.inl p.Y]
def Vv(z:zY):List Tok:=[.inr (bif z.Overlay then yX else kq),.inr z.Name]++z.Corners.flatMap ptT
def oW(p:zf):List Tok:=[.inl p.X,.inl p.Y,.inl p.Z_]
def zsa(c:Cap):List Tok:=[.inr zby,.inr c.Name,.inr (W1.getD c.Load.toNat []),.inl c.Limit]++c.Corners.flatMap ptT
def Vw(v:View):List Tok:=[.inr JN,.inr v.Name,.inl v.Eye.X,.inl v.Eye.Y,.inl v.Eye.Z_,.inr AL,.inl v.Least,.inr o5]++v.Targets.flatMap oW
def yO(w:List UInt8)(l:List (List UInt8)):List Tok:=bif l.isEmpty then[]else .inr w::l.map .inr
def xx(w:List UInt8)(n:Int):List Tok:=if n=0 then[]else[.inr w,.inl n]
def zen(u:Int)(i:Nat):List Tok:=bif Nat.testBit u.toNat i then[.inr (KS.getD i [])]else[]
def Ji(r:zB):List Tok :=
 if r.Kind=0 then[.inr (zN 12 r.Test)]
 else if r.Kind=1 then[.inr HI,.inl r.zt.Side,.inr K1,.inl r.zt.Base,.inr AM,.inl r.zt.Num,.inl r.zt.Den]
 else if r.Kind=3 then[.inr HH,.inr (KS.getD r.Uses.toNat []),.inr (KS.getD r.Other.toNat []),.inl r.N]
 else .inr JM::(List.range 6).flatMap (zen r.Uses)
def oX(r:zB):List Tok:=[.inr qQ,.inr r.Name]++(yO ZA r.Zones++(yO yy r.Except++(xx wc r.From++(xx yQ r.Until++(xx yW r.Grace++((bif r.Vary then[.inr K2]else[])++(.inr o5::Ji r)))))))
def zDt:List zf→List Tok
 |[]=>[]
 |p::r=>(.inr oB::oW p)++r.flatMap fun p=>.inr zb4::oW p
def Qj(n:Int):List Tok:=[.inr xO,.inl n]
def Ay(p:vg):List UInt8 :=
 p.Defs.flatMap (fun x=>zE (zkx x))++(p.Tables.flatMap (fun x=>zE (oV x))++(p.Zones.flatMap (fun x=>zE (Vv x))++(p.Rules.flatMap (fun x=>zE (oX x))++(p.Caps.flatMap (fun x=>zE (zsa x))++(p.Views.flatMap (fun x=>zE (Vw x)) ++
 ((bif p.Sun.isEmpty then[]else zE (zDt p.Sun))++(if p.Hours=0 then[]else zE (Qj p.Hours))))))))
theorem wT(x:Tok)(l:List Tok):zE (x::l)=uw x++(spT l++[32,59,10]):=by rw[zE,asc]
-- names joined
def zsb:List (List UInt8)→List UInt8
 |[]=>[]
 |n::r=>n++r.flatMap fun x=>32::x
theorem zNx:∀{l:List (List UInt8)},l≠[]→32::zsb l=spT (l.map Sum.inr)
 |n::r,_=>by
  rw[zsb,mk9,zap]
  have:∀r:List (List UInt8),r.flatMap (fun x=>32::x)=spT (r.map Sum.inr):=fun r=>by
   unfold spT;rw[List.flatMap_map];rfl
  rw[this];rfl
theorem zHy:∀m<11,2≤m→((grd ((w64 (((m:Nat):Int)-1))≠0)).bind fun _=>(bif (decide (((1:Nat):Int)≥(w64 (Int.tdiv 9223372036854775807 (w64 (((m:Nat):Int)-1))))))then none else some (w64 (0+(w64 (((1:Nat):Int)*(w64 (((m:Nat):Int)-1))))))))=some ((m:Int)-1):=by decide +kernel
theorem join_eq{l:List (List UInt8)}(h0:l≠[])(h1:l.length≤10)(h2:∀s∈l,s.length≤30):zna l t__=some (zsb l):=by
 unfold zna J.qx
 obtain⟨n,r,rfl⟩:∃n r,l=n::r:=by
  cases l with
  |nil=>exact absurd rfl h0
  |cons n r=>exact⟨n,r,rfl⟩
 rw[df (show ¬(((n::r).length:Nat):Int)=0 by simp only[lc];omega),cf];by_cases hr:r=[]
 ·subst hr
  rw[dt (show((([n]:List (List UInt8)).length:Nat):Int)=1 from rfl),ctQ,show idx [n] 0=some n from rfl];simp[zsb]
 ·have hr1:1≤r.length:=by
   cases r with
   |nil=>exact absurd rfl hr
   |cons=>simp
  have hlen:(n::r).length=r.length+1:=rfl;rw[df (show ¬(((n::r).length:Nat):Int)=1 by omega),cf,dt (show((List.length t__:Nat):Int)>0 by decide),ctQ];have:=zHy (n::r).length (by omega) (by omega);rw[show(List.length t__:Nat)=1 from rfl,this,bsQ]
  have hsum:=zeb (n::r) (fun(s:Int) x=>s+((x.length:Nat):Int)) (fun s=>some s) (fun i s=>0≤s∧s≤10+30*(i:Int)) (fun K q s=>J.yB (n::r) t__ (List.length (n::r):Nat) K (s,q)) ((((n::r).length:Nat):Int)-1) (by omega) ⟨by omega,by omega⟩ (fun K i x s hx hs=>by
   have hi:=jb hx;have h30:=h2 x (List.mem_of_getElem? hx);refine⟨?_,by omega,by omega⟩
   show J.yB _ _ _ (K+1) (s,(i:Int))=_
   rw[J.yB];simp only[vk hx,ctQ,zy hx,bsQ]
   rw[kM (n:=9223372036854775807-s) (by omega) (by omega),df (by omega),cf,kM (by omega) (by omega),ya (by omega)]) (fun K s hs=>by
   show J.yB _ _ _ (K+1) (s,_)=_
   rw[J.yB]
   simp only[yZ,cf])
  obtain⟨e1,e2,e3⟩:=hsum;rw[e1,bsQ]
  have hg:J.ztl (List.foldl (fun(s:Int) x=>s+((x.length:Nat):Int)) ((((n::r).length:Nat):Int)-1) (n::r))=some []:=by
   unfold J.ztl J.zA2;rw[zi (by omega)];rfl
  have hn:=h2 n (List.mem_cons_self ..)
  have hb:J.yM [] n=some (((n.length:Nat):Int),n):=by
   unfold J.yM;rw[zi (by simp only[List.length_nil];omega)];rfl
  have hc:cut (n::r) 1 (((n::r).length:Nat):Int)=some r:=by
   have:=zHc (l:=n::r) (a:=1) (by omega);simpa using this
  have hi0:idx (n::r) 0=some n:=zy (i:=0) rfl;rw[hg,bsQ,hi0,bsQ,hb,bsQ,hc,bsQ]
  have ht:=yn r (fun x=>32::x) (fun K q s=>J.yC t__ r (List.length r:Nat) K (q,s)) 1000000 (fun _=>True) (s:=n) (by omega) trivial (by
    have:∀r:List (List UInt8),(∀s∈r,s.length≤30)→(r.flatMap fun x=>32::x).length≤31*r.length:=fun r=>by
     induction r with
     |nil=>intro _;simp
     |cons a r ih=>intro h;have:=ih (fun s hs=>h s (mcQ _ hs));have:=h a (List.mem_cons_self ..);simp only[List.flatMap_cons,la,lc];omega
    have:=this r (fun s hs=>h2 s (mcQ _ hs))
    rw[la];omega) (fun K i x s hx _ hM=>by
   have hi:=jb hx;refine⟨?_,trivial⟩
   show J.yC _ _ _ (K+1) ((i:Int),s)=_
   simp only[la,lc]at hM;rw[J.yC];simp only[vk hx,ctQ,zy hx,bsQ,J.yM]
   rw[zi (by rw[lsp];omega),bsQ,bsQ,zi (by rw[la,lsp];omega),bsQ,bsQ,ya (by omega),asc];rfl) (fun K s=>by
   show J.yC _ _ _ (K+1) (_,s)=_
   rw[J.yC]
   simp only[yZ,cf])
  rw[ht.1];rfl
theorem uQ{n:Int}(h:jd n):zOs (.inl n):=⟨h,zHx n⟩
theorem xh{s:List UInt8}(h:Good s):zOs (.inr s):=⟨trivial,h⟩
theorem oY{c:UInt8}{r:List UInt8}(h:∀x∈c::r,x≠10):Good (c::r):=⟨by simp,fun hl=>h 10 (List.mem_of_getLast? hl) rfl⟩
theorem Jj{α:Type}{a x:α}(h:x∈[a]):x=a:=msQ.1 h
theorem zo6{s:List UInt8}{e:Expr}(hg:Good s)(hk:okE 12 e=true)(hb:(s++(spT [.inr (zN 12 e)]++[32,59,10])).length≤140737488355328):Ky s e=some (s++(spT [.inr (zN 12 e)]++[32,59,10]))∧Vz (s++(spT [.inr (zN 12 e)]++[32,59,10])):=by
 have hb2:(s++spT [.inr (zN 12 e)]++[32,59,10]).length≤140737488355328:=by rw[asc];exact hb
 obtain⟨h1,h2⟩:=wN (l:=[.inr (zN 12 e)]) hg (fun x hx=>by rw[Jj hx];exact xh (zel 12 e hk)) (by simp) (by rw[la]at hb2;omega);obtain⟨h3,h4⟩:=WZ h2 hb2;rw[asc]at h3 h4;unfold Ky;rw[yd,zhv hk,bsQ];unfold jL;rw[bsQ,h1,bsQ,h3];exact⟨rfl,h4⟩
theorem zeo{s:List UInt8}{l:List zG}(hg:Good s)(hn:∀p∈l,jd p.X∧jd p.Y)(hl:l.length≤64)(hb:(s++(spT (l.flatMap ptT)++[32,59,10])).length≤140737488355328):A6 s l=some (s++(spT (l.flatMap ptT)++[32,59,10]))∧Vz (s++(spT (l.flatMap ptT)++[32,59,10])):=by
 have hb2:(s++spT (l.flatMap ptT)++[32,59,10]).length≤140737488355328:=by rw[asc];exact hb
 rw[qH]at hb2 ⊢
 have ht:=yn l (fun p=>spT (ptT p)) (fun K q s=>xC l (List.length l:Nat) K (s,q)) 140737488355328 Good (s:=s) (by omega) hg (by rw[la]at hb2;omega) (fun K i x s hx hI hM=>by
  have hi:=jb hx;obtain⟨n1,n2⟩:=hn x (List.mem_of_getElem? hx)
  obtain⟨p1,p2⟩:=wN (l:=ptT x) hI (fun y hy=>by
   rcases List.mem_cons.1 hy with rfl|hy
   ·exact uQ n1
   ·rw[Jj hy];exact uQ n2) (by simp[ptT]) hM
  refine⟨?_,p2⟩
  show xC _ _ (K+1) (s,(i:Int))=_
  rw[xC];simp only[vk hx,ctQ,zy hx,bsQ]
  rw[show([(Sum.inl x.X),(Sum.inl x.Y)]:List (Int⊕List UInt8))=ptT x from rfl,p1,bsQ,ya (by omega)]) (fun K s=>by
  show xC _ _ (K+1) (s,_)=_
  rw[xC]
  simp only[yZ,cf])
 obtain⟨h3,h4⟩:=WZ ht.2 hb2;rw[asc]at h3 h4;unfold A6;rw[ht.1,bsQ,h3];exact⟨rfl,h4⟩
theorem zDu{l:List (List UInt8)}(h0:l≠[])(hn:∀s∈l,zM s=true):Good (zsb l):=by
 have key:∀(r:List (List UInt8))(n:List UInt8),Good n→(∀s∈r,zM s=true)→Good (n++r.flatMap fun x=>32::x):=fun r=>by
  induction r with
  |nil=>intro n hg _;simpa using hg
  |cons a r ih =>
   intro n hg h
   have:=ih (n++32::a) (by
    have:=yV (s:=n++[32]) (oU (h a (List.mem_cons_self ..)))
    simpa using this) (fun s hs=>h s (mcQ _ hs))
   simpa using this
 cases l with
 |nil=>exact absurd rfl h0
 |cons n r=>exact key r n (oU (hn n (List.mem_cons_self ..))) (fun s hs=>hn s (mcQ _ hs))
theorem zo7{s w:List UInt8}{l:List (List UInt8)}(hg:Good s)(hw:Good w)(hn:∀s∈l,zM s=true)(h1:l.length≤10)(h2:∀s∈l,s.length≤30)(hb:(s++spT (yO w l)).length≤140737488355328):
  (bif (decide (((List.length l:Nat):Int)>0))then(zna l t__).bind fun x6=>(yk s ([(Sum.inr w),(Sum.inr x6)]:List (Int⊕List UInt8))).bind fun x7=>some x7 else some s)=some (s++spT (yO w l))∧Good (s++spT (yO w l)):=by
 by_cases h0:l=[]
 ·subst h0
  simp only[yO,List.isEmpty_nil,ctQ,spT,List.flatMap_nil,List.append_nil];exact⟨rfl,hg⟩
 ·have hlen:0<l.length:=List.length_pos_iff.2 h0
  have he:l.isEmpty=false:=by
   cases l with
   |nil=>exact absurd rfl h0
   |cons=>rfl
  have e:spT (yO w l)=spT [.inr w,.inr (zsb l)]:=by
   unfold yO;rw[he,cf,zap,zap,← zNx h0];simp[uw,spT]
  rw[e]at hb ⊢;rw[dt (show((List.length l:Nat):Int)>0 by omega),ctQ,join_eq h0 h1 h2,bsQ]
  obtain⟨p1,p2⟩:=wN (l:=[.inr w,.inr (zsb l)]) hg (fun y hy=>by
   rcases List.mem_cons.1 hy with rfl|hy
   ·exact xh hw
   ·rw[Jj hy];exact xh (zDu h0 hn)) (by simp) hb
  rw[p1];exact⟨rfl,p2⟩
theorem zky{s w:List UInt8}{n:Int}(hg:Good s)(hw:Good w)(hn:jd n)(hb:(s++spT (xx w n)).length≤140737488355328):
  (bif (!(decide (n=0)))then(yk s ([(Sum.inr w),(Sum.inl n)]:List (Int⊕List UInt8))).bind fun x6=>some x6 else some s)=some (s++spT (xx w n))∧Good (s++spT (xx w n)):=by
 unfold xx at hb ⊢;by_cases h0:n=0
 ·rw[if_pos h0,dt h0]
  simp only[spT,List.flatMap_nil,List.append_nil];exact⟨rfl,hg⟩
 ·rw[if_neg h0]at hb ⊢
  rw[df h0,Bool.not_false,ctQ]
  obtain⟨p1,p2⟩:=wN (l:=[.inr w,.inl n]) hg (fun y hy=>by
   rcases List.mem_cons.1 hy with rfl|hy
   ·exact xh hw
   ·rw[Jj hy];exact uQ hn) (by simp) hb
  rw[p1];exact⟨rfl,p2⟩
theorem zNy:Good ZA:=oY (by decide)
theorem zsc:Good yy:=oY (by decide)
theorem zDv:Good wc:=oY (by decide)
theorem zxr:Good yQ:=oY (by decide)
theorem zxs:Good yW:=oY (by decide)
section rule
variable{c1:List UInt8}{c2 c3:List (List UInt8)}{c4 c5 c6:Int}{c7:Bool}{c8 c9 c10:Int}{c11 c12:List UInt8}{c13:List Expr}{c14 c15 c16 c17 c18 c19 c20:Int}{s:List UInt8}
theorem zNz{zs ex:List (List UInt8)}(hg:Good s)(hn:∀s∈zs,zM s=true)(h1:zs.length≤10)(h2:∀s∈zs,s.length≤30)(hn':∀s∈ex,zM s=true)(h1':ex.length≤10)(h2':∀s∈ex,s.length≤30)(hb:(s++(spT (yO ZA zs)++spT (yO yy ex))).length≤140737488355328):
  jB ((2:Nat):Int) c1 c2 c3 c4 c5 c6 c7 c8 c9 c10 c11 c12 c13 c14 c15 c16 c17 c18 c19 c20 [zs,ex] KK (s,0)=some (s++(spT (yO ZA zs)++spT (yO yy ex)))∧Good (s++(spT (yO ZA zs)++spT (yO yy ex))):=by
 obtain⟨k,hk⟩:∃k,KK=k+3:=⟨KK-3,by have:=ja (n:=100) (by omega);omega⟩
 rw[← asc]at hb ⊢;obtain⟨a1,a2⟩:=zo7 hg zNy hn h1 h2 (by rw[la]at hb;omega);obtain⟨b1,b2⟩:=zo7 a2 zsc hn' h1' h2' hb;refine⟨?_,b2⟩;rw[hk,jB];simp only[show decide ((0:Int)<((2:Nat):Int))=true from rfl,ctQ];rw[zi (show(0:Int)≤0∧(0:Int)<((List.length [zs,ex]:Nat):Int) from by simp),bsQ,show([zs,ex])[(Int.toNat 0)]?=some zs from rfl,bsQ,zi (show(0:Int)≤0∧(0:Int)<((2:Nat):Int) by decide),bsQ,show(([ZA,yy]:List (List UInt8)))[(Int.toNat 0)]?=some ZA from rfl,bsQ,a1,bsQ,show w64 (0+1)=1 from rfl,jB];simp only[show decide ((1:Int)<((2:Nat):Int))=true from rfl,ctQ];rw[zi (show(0:Int)≤1∧(1:Int)<((List.length [zs,ex]:Nat):Int) from by simp),bsQ,show([zs,ex])[(Int.toNat 1)]?=some ex from rfl,bsQ,zi (show(0:Int)≤1∧(1:Int)<((2:Nat):Int) by decide),bsQ,show(([ZA,yy]:List (List UInt8)))[(Int.toNat 1)]?=some yy from rfl,bsQ,b1,bsQ,show w64 (1+1)=2 from rfl,jB];rfl
theorem zN0{fr un gr:Int}(hg:Good s)(n1:jd fr)(n2:jd un)(n3:jd gr)(hb:(s++(spT (xx wc fr)++(spT (xx yQ un)++spT (xx yW gr)))).length≤140737488355328):
  vu ((3:Nat):Int) c1 c2 c3 c4 c5 c6 c7 c8 c9 c10 c11 c12 c13 c14 c15 c16 c17 c18 c19 c20 [fr,un,gr] KK (s,0)=some (s++(spT (xx wc fr)++(spT (xx yQ un)++spT (xx yW gr))))∧Good (s++(spT (xx wc fr)++(spT (xx yQ un)++spT (xx yW gr)))):=by
 obtain⟨k,hk⟩:∃k,KK=k+4:=⟨KK-4,by have:=ja (n:=100) (by omega);omega⟩
 rw[← asc,← asc]at hb ⊢;have hb1:=hb;rw[la]at hb1
 have hb2:(s++spT (xx wc fr)++spT (xx yQ un)).length≤140737488355328:=by omega
 rw[la]at hb2;obtain⟨a1,a2⟩:=zky hg zDv n1 (by omega);obtain⟨b1,b2⟩:=zky a2 zxr n2 (by omega);obtain⟨d1,d2⟩:=zky b2 zxs n3 hb;refine⟨?_,d2⟩;rw[hk,vu];simp only[show decide ((0:Int)<((3:Nat):Int))=true from rfl,ctQ];rw[zi (show(0:Int)≤0∧(0:Int)<((List.length [fr,un,gr]:Nat):Int) from by simp),bsQ,show([fr,un,gr])[(Int.toNat 0)]?=some fr from rfl,bsQ,zi (show(0:Int)≤0∧(0:Int)<((3:Nat):Int) by decide),bsQ,show(([wc,yQ,yW]:List (List UInt8)))[(Int.toNat 0)]?=some wc from rfl,bsQ,a1,bsQ,show w64 (0+1)=1 from rfl,vu];simp only[show decide ((1:Int)<((3:Nat):Int))=true from rfl,ctQ];rw[zi (show(0:Int)≤1∧(1:Int)<((List.length [fr,un,gr]:Nat):Int) from by simp),bsQ,show([fr,un,gr])[(Int.toNat 1)]?=some un from rfl,bsQ,zi (show(0:Int)≤1∧(1:Int)<((3:Nat):Int) by decide),bsQ,show(([wc,yQ,yW]:List (List UInt8)))[(Int.toNat 1)]?=some yQ from rfl,bsQ,b1,bsQ,show w64 (1+1)=2 from rfl,vu];simp only[show decide ((2:Int)<((3:Nat):Int))=true from rfl,ctQ];rw[zi (show(0:Int)≤2∧(2:Int)<((List.length [fr,un,gr]:Nat):Int) from by simp),bsQ,show([fr,un,gr])[(Int.toNat 2)]?=some gr from rfl,bsQ,zi (show(0:Int)≤2∧(2:Int)<((3:Nat):Int) by decide),bsQ,show(([wc,yQ,yW]:List (List UInt8)))[(Int.toNat 2)]?=some yW from rfl,bsQ,d1,bsQ,show w64 (2+1)=3 from rfl,vu];rfl
theorem zN1:∀s<64,∀k<6,decide ((IntKind.i64.wrap ((BitVec.ofInt IntKind.i64.bits (Int.fdiv (s:Nat) (2 ^ (min (Int.toNat (k:Nat)) IntKind.i64.bits))) &&& BitVec.ofInt IntKind.i64.bits 1).toNat:Int))=1)=Nat.testBit s k:=by decide +kernel
theorem zep:∀i<6,Good (KS.getD i []):=by
 intro i hi
 obtain rfl|rfl|rfl|rfl|rfl|rfl:i=0∨i=1∨i=2∨i=3∨i=4∨i=5:=by omega
 all_goals exact oY (by decide)
theorem KI{i:Nat}(h:i<6):KS[i]?=some (KS.getD i []):=by
 rw[List.getD_eq_getElem?_getD,List.getElem?_eq_getElem (show i<KS.length from h)];rfl
theorem zN2(hg:Good s)(hu:0≤c18∧c18<64)(hb:(s++spT ((List.range 6).flatMap (zen c18))).length≤140737488355328):
  xP (((List.length KS):Nat):Int) c1 c2 c3 c4 c5 c6 c7 c8 c9 c10 c11 c12 c13 c14 c15 c16 c17 c18 c19 c20 KS KK (s,0)=some (s++spT ((List.range 6).flatMap (zen c18)))∧Good (s++spT ((List.range 6).flatMap (zen c18))):=by
 rw[qH]at hb ⊢;refine yn (List.range 6) (fun i=>spT (zen c18 i)) (fun K q s=>xP (((List.length KS):Nat):Int) c1 c2 c3 c4 c5 c6 c7 c8 c9 c10 c11 c12 c13 c14 c15 c16 c17 c18 c19 c20 KS K (s,q)) 140737488355328 Good (by decide) hg hb (fun K i x s hx hI hM=>?_) (fun K s=>?_)
 ·have hi:=jb hx
  rw[List.length_range]at hi
  have hxi:x=i:=by simpa[List.getElem?_range,hi]using hx.symm
  subst hxi;obtain⟨u,rfl⟩:=Int.eq_ofNat_of_zero_le hu.1;have hbit:=zN1 u (by omega) x hi
  show xP _ _ _ _ _ _ _ _ _ _ _ _ _ _ _ _ _ _ _ _ _ _ (K+1) (s,(x:Int))=_∧_
  rw[xP];simp only[dt (show(x:Int)<((List.length KS:Nat):Int) by rw[show KS.length=6 from rfl];omega),ctQ];rw[zi (show(0:Int)≤(x:Int)∧(x:Int)<((List.length KS:Nat):Int) by rw[show KS.length=6 from rfl];omega),bsQ,Int.toNat_natCast,KI hi,bsQ,zi (show(0:Int)≤(x:Int) by omega),bsQ];rw[Int.toNat_natCast]at hbit;rw[hbit,ya (by omega)];unfold zen at hM ⊢;rw[show(((u:Nat):Int)).toNat=u from rfl]at *
  cases hbb:Nat.testBit u x with
  |false =>
   simp only[cf,spT,List.flatMap_nil,List.append_nil,bsQ,true_and];exact hI
  |true =>
   rw[hbb]at hM;simp only[ctQ]at hM ⊢;obtain⟨p1,p2⟩:=wN (l:=[.inr (KS.getD x [])]) hI (fun y hy=>by rw[Jj hy];exact xh (zep x hi)) (by simp) hM;rw[p1];exact⟨rfl,p2⟩
 ·show xP _ _ _ _ _ _ _ _ _ _ _ _ _ _ _ _ _ _ _ _ _ _ (K+1) (s,_)=_
  rw[xP];rfl
end rule
def Vx(b:Bool):List Tok:=bif b then[.inr K2]else[]
theorem zDw(r:zB):zE (oX r)=uw (.inr qQ)++(spT [.inr r.Name]++((spT (yO ZA r.Zones)++spT (yO yy r.Except))++((spT (xx wc r.From)++(spT (xx yQ r.Until)++spT (xx yW r.Grace)))++(spT (Vx r.Vary)++(spT [.inr o5]++(spT (Ji r)++[32,59,10])))))):=by
 show zE (.inr qQ::([.inr r.Name]++(yO ZA r.Zones++(yO yy r.Except++(xx wc r.From++(xx yQ r.Until++(xx yW r.Grace++(Vx r.Vary++([.inr o5]++Ji r)))))))))=_
 rw[wT];simp only[vE,asc]
theorem yx{n a b:Int}(h:a≤n∧n≤b)(ha:-9223372036854775807≤a)(hb:b≤9223372036854775807):jd n:=⟨by omega,by omega⟩
theorem zN3{s:List UInt8}{r:zB}(hg:Good s)(hb:Jw r)(hf:zox r.Test=true)(hl:(s++(spT (Ji r)++[32,59,10])).length≤140737488355328){c1:List UInt8}{c2 c3:List (List UInt8)}{c4 c5 c6:Int}{c7:Bool}:
  (((bif (decide (r.Kind=0))then(Ky s (Expr.mk r.Test.Op r.Test.N r.Test.S r.Test.Key r.Test.Args)).bind fun x9=>some (Sum.inl x9)else(bif (decide (r.Kind=1))then(yk s ([(Sum.inr HI),(Sum.inl r.zt.Side),(Sum.inr K1),(Sum.inl r.zt.Base),(Sum.inr AM),(Sum.inl r.zt.Num),(Sum.inl r.zt.Den)]:List (Int⊕List UInt8))).bind fun x10=>some (Sum.inr x10)else(bif (decide (r.Kind=3))then(grd (0≤r.Uses∧r.Uses<(((List.length KS):Nat):Int))).bind fun _=>((KS)[(Int.toNat r.Uses)]?).bind fun x12=>(grd (0≤r.Other∧r.Other<(((List.length KS):Nat):Int))).bind fun _=>((KS)[(Int.toNat r.Other)]?).bind fun x14=>(yk s ([(Sum.inr HH),(Sum.inr x12),(Sum.inr x14),(Sum.inl r.N)]:List (Int⊕List UInt8))).bind fun x15=>some (Sum.inr x15)else(bif (decide (r.Kind=2))then(yk s ([(Sum.inr JM)]:List (Int⊕List UInt8))).bind fun x16=>(xP (((List.length KS):Nat):Int) c1 c2 c3 c4 c5 c6 c7 r.Kind r.Test.Op r.Test.N r.Test.S r.Test.Key r.Test.Args r.zt.Side r.zt.Base r.zt.Num r.zt.Den r.Uses r.Other r.N KS KK (x16,0)).bind fun x17=>some (Sum.inr x17)else some (Sum.inr s)))))).bind (yA some fun x8=>(qi x8).bind fun x18=>some x18))=some (s++(spT (Ji r)++[32,59,10]))∧Vz (s++(spT (Ji r)++[32,59,10])):=by
 obtain⟨⟨k0,k3⟩,b1,b2,b3,b4,b5,b6,b7,b8⟩:=hb
 have hl2:(s++spT (Ji r)++[32,59,10]).length≤140737488355328:=by rw[asc];exact hl
 have hl3:=hl2;rw[la]at hl3;unfold Ji at hl hl2 hl3 ⊢;by_cases h0:r.Kind=0
 ·rw[if_pos h0]at hl hl2 hl3 ⊢
  obtain⟨p1,p2⟩:=zo6 hg (b1 h0) hl;rw[dt h0,ctQ,yd,p1];exact⟨rfl,p2⟩
 rw[if_neg h0]at hl hl2 hl3 ⊢;rw[df h0,cf];by_cases h1:r.Kind=1
 ·rw[if_pos h1]at hl hl2 hl3 ⊢
  obtain⟨n1,n2,n3,n4⟩:=b3 h1;rw[dt h1,ctQ]
  obtain⟨p1,p2⟩:=wN hg (fun y hy=>by
   simp only[List.mem_cons,List.not_mem_nil,or_false]at hy
   rcases hy with rfl|rfl|rfl|rfl|rfl|rfl|rfl
   ·exact xh (oY (by decide))
   ·exact uQ (yx n1 (by omega) (by omega))
   ·exact xh (oY (by decide))
   ·exact uQ (yx n2 (by omega) (by omega))
   ·exact xh (oY (by decide))
   ·exact uQ (yx n3 (by omega) (by omega))
   ·exact uQ (yx n4 (by omega) (by omega))) (by simp) (show(s++spT [.inr HI,.inl r.zt.Side,.inr K1,.inl r.zt.Base,.inr AM,.inl r.zt.Num,.inl r.zt.Den]).length≤_ by omega)
  obtain⟨q1,q2⟩:=WZ p2 hl2;rw[p1,bsQ,bsQ,yA,q1,← asc];exact⟨rfl,q2⟩
 rw[if_neg h1]at hl hl2 hl3 ⊢;rw[df h1,cf];by_cases h3:r.Kind=3
 ·rw[if_pos h3]at hl hl2 hl3 ⊢
  obtain⟨n1,n2,n3⟩:=b6 h3;rw[dt h3,ctQ,zi (show 0≤r.Uses∧r.Uses<((List.length KS:Nat):Int) by rw[show KS.length=6 from rfl];omega),bsQ,KI (show r.Uses.toNat<6 by omega),bsQ,zi (show 0≤r.Other∧r.Other<((List.length KS:Nat):Int) by rw[show KS.length=6 from rfl];omega),bsQ,KI (show r.Other.toNat<6 by omega),bsQ]
  obtain⟨p1,p2⟩:=wN hg (fun y hy=>by
   simp only[List.mem_cons,List.not_mem_nil,or_false]at hy
   rcases hy with rfl|rfl|rfl|rfl
   ·exact xh (oY (by decide))
   ·exact xh (zep _ (by omega))
   ·exact xh (zep _ (by omega))
   ·exact uQ (yx n3 (by omega) (by omega))) (by simp) (show(s++spT [.inr HH,.inr (KS.getD r.Uses.toNat []),.inr (KS.getD r.Other.toNat []),.inl r.N]).length≤_ by omega)
  obtain⟨q1,q2⟩:=WZ p2 hl2;rw[p1,bsQ,bsQ,yA,q1,← asc];exact⟨rfl,q2⟩
 have h2:r.Kind=2:=by omega
 rw[if_neg h3]at hl hl2 hl3 ⊢;obtain⟨n1,n2⟩:=b5 h2;rw[df h3,cf,dt h2,ctQ]
 have es:spT (.inr JM::(List.range 6).flatMap (zen r.Uses))=spT [.inr JM]++spT ((List.range 6).flatMap (zen r.Uses)):=by rw[← vE];rfl
 rw[es,← asc]at hl2 hl3;rw[es];obtain⟨p1,p2⟩:=wN (l:=[.inr JM]) hg (fun y hy=>by rw[Jj hy];exact xh (oY (by decide))) (by simp) (by rw[la]at hl3;omega);obtain⟨u1,u2⟩:=zN2 (c1:=c1) (c2:=c2) (c3:=c3) (c4:=c4) (c5:=c5) (c6:=c6) (c7:=c7) (c8:=r.Kind) (c9:=r.Test.Op) (c10:=r.Test.N) (c11:=r.Test.S) (c12:=r.Test.Key) (c13:=r.Test.Args) (c14:=r.zt.Side) (c15:=r.zt.Base) (c16:=r.zt.Num) (c17:=r.zt.Den) (c18:=r.Uses) (c19:=r.Other) (c20:=r.N) p2 (by omega) (by omega);obtain⟨q1,q2⟩:=WZ u2 hl2;rw[p1,bsQ,u1,bsQ,bsQ,yA,q1];simp only[asc]at q2 ⊢;exact⟨rfl,q2⟩
theorem zDx{s:List UInt8}{r:zB}(hs:Vz s)(hr:AO r)(hn:zM r.Name=true)(hf:zr3 r=true)(hb:(s++zE (oX r)).length≤140737488355328):ZZ s r=some (s++zE (oX r))∧Vz (s++zE (oX r)):=by
 obtain⟨⟨⟨z0,x0⟩,d1,d2,d3,_⟩,hbody⟩:=hr;obtain⟨_,⟨z1,z2⟩,⟨x1,x2⟩,te⟩:=Av hf;rw[zDw]at hb ⊢;have hb0:=hb;simp only[la]at hb0
 obtain⟨p1,g1⟩:=Ax (x:=.inr qQ) (l:=[.inr r.Name]) hs (fun y hy=>by
  rcases List.mem_cons.1 hy with rfl|hy
  ·exact xh (oY (by decide))
  ·rw[Jj hy];exact xh (oU hn)) (by simp) (by simp only[la];omega)
 generalize hs1:s++(uw (.inr qQ)++spT [.inr r.Name])=s1 at p1 g1;have l1:=congrArg List.length hs1;simp only[la]at l1;obtain⟨p2,g2⟩:=zNz (c1:=r.Name) (c2:=r.Zones) (c3:=r.Except) (c4:=r.From) (c5:=r.Until) (c6:=r.Grace) (c7:=r.Vary) (c8:=r.Kind) (c9:=r.Test.Op) (c10:=r.Test.N) (c11:=r.Test.S) (c12:=r.Test.Key) (c13:=r.Test.Args) (c14:=r.zt.Side) (c15:=r.zt.Base) (c16:=r.zt.Num) (c17:=r.zt.Den) (c18:=r.Uses) (c19:=r.Other) (c20:=r.N) g1 (List.all_eq_true.1 z0) z1 z2 (List.all_eq_true.1 x0) x1 x2 (by simp only[la];omega);generalize hs2:s1++(spT (yO ZA r.Zones)++spT (yO yy r.Except))=s2 at p2 g2;have l2:=congrArg List.length hs2;simp only[la]at l2;obtain⟨p3,g3⟩:=zN0 (c1:=r.Name) (c2:=r.Zones) (c3:=r.Except) (c4:=r.From) (c5:=r.Until) (c6:=r.Grace) (c7:=r.Vary) (c8:=r.Kind) (c9:=r.Test.Op) (c10:=r.Test.N) (c11:=r.Test.S) (c12:=r.Test.Key) (c13:=r.Test.Args) (c14:=r.zt.Side) (c15:=r.zt.Base) (c16:=r.zt.Num) (c17:=r.zt.Den) (c18:=r.Uses) (c19:=r.Other) (c20:=r.N) g2 (yx d1 (by omega) (by omega)) (yx d3 (by omega) (by omega)) (yx d2 (by omega) (by omega)) (by simp only[la];omega);generalize hs3:s2++(spT (xx wc r.From)++(spT (xx yQ r.Until)++spT (xx yW r.Grace)))=s3 at p3 g3;have l3:=congrArg List.length hs3;simp only[la]at l3
 have hv:(bif r.Vary then(yk s3 ([(Sum.inr K2)]:List (Int⊕List UInt8))).bind fun x5=>some x5 else some s3)=some (s3++spT (Vx r.Vary))∧Good (s3++spT (Vx r.Vary)):=by
  cases hv:r.Vary with
  |false =>
   simp only[Vx,cf,spT,List.flatMap_nil,List.append_nil,true_and];exact g3
  |true =>
   rw[hv]at hb0;obtain⟨a1,a2⟩:=wN (l:=Vx true) g3 (fun y hy=>by rw[Jj hy];exact xh (oY (by decide))) (by decide) (by simp only[la];omega);rw[ctQ,show([(Sum.inr K2)]:List (Int⊕List UInt8))=Vx true from rfl,a1];exact⟨rfl,a2⟩
 obtain⟨p4,g4⟩:=hv;generalize hs4:s3++spT (Vx r.Vary)=s4 at p4 g4;have l4:=congrArg List.length hs4;simp only[la]at l4;obtain⟨p5,g5⟩:=wN (l:=[.inr o5]) g4 (fun y hy=>by rw[Jj hy];exact xh (oY (by decide))) (by simp) (by simp only[la];omega);generalize hs5:s4++spT [.inr o5]=s5 at p5 g5;have l5:=congrArg List.length hs5;simp only[la]at l5;have h6:=zN3 (c1:=r.Name) (c2:=r.Zones) (c3:=r.Except) (c4:=r.From) (c5:=r.Until) (c6:=r.Grace) (c7:=r.Vary) g5 hbody te (by simp only[la];omega)
 have e:s++(uw (.inr qQ)++(spT [.inr r.Name]++((spT (yO ZA r.Zones)++spT (yO yy r.Except))++((spT (xx wc r.From)++(spT (xx yQ r.Until)++spT (xx yW r.Grace)))++(spT (Vx r.Vary)++(spT [.inr o5]++(spT (Ji r)++[32,59,10])))))))=s5++(spT (Ji r)++[32,59,10]):=by
  rw[← hs5,← hs4,← hs3,← hs2,← hs1];simp only[asc]
 rw[e];refine⟨?_,h6.2⟩;unfold ZZ;rw[p1,bsQ,p2,bsQ,p3,bsQ,p4,bsQ,p5,bsQ,zr9,bsQ];exact h6.1
def zDy(x:Tok):Prop:=zOs x∧(uw x).length≤2000000000
def W5(l:List Tok):Prop:=∀x∈l,zDy x
theorem W5.g{l:List Tok}(h:W5 l):∀x∈l,zOs x:=fun x hx=>(h x hx).1
theorem ym:W5 []:=fun x hx=>by cases hx
theorem zk{x:Tok}{l:List Tok}(h:zDy x)(hl:W5 l):W5 (x::l):=fun y hy=>by
 rcases List.mem_cons.1 hy with rfl|hy
 ·exact h
 ·exact hl y hy
theorem je{a b:List Tok}(ha:W5 a)(hb:W5 b):W5 (a++b):=fun y hy=>by
 rcases List.mem_append.1 hy with h|h
 ·exact ha y h
 ·exact hb y h
theorem J9{α:Type}{l:List α}{f:α→List Tok}(h:∀x∈l,W5 (f x)):W5 (l.flatMap f):=fun y hy=>by
 obtain⟨x,hx,hy⟩:=List.mem_flatMap.1 hy;exact h x hx y hy
theorem yT{c:UInt8}{r:List UInt8}(h:(∀x∈c::r,x≠10)∧(c::r).length≤2000000000):zDy (.inr (c::r)):=⟨xh (oY h.1),h.2⟩
theorem wU{s:List UInt8}(h:zM s=true):zDy (.inr s):=⟨xh (oU h),by have:=(kQ h).1;show s.length≤_;omega⟩
theorem yz{n:Int}(h:jd n):zDy (.inl n):=⟨uQ h,by have:=wM h;omega⟩
theorem zo8{e:Expr}(h:okE 12 e=true):zDy (.inr (zN 12 e)):=⟨xh (zel 12 e h),by
 have:=WY 12 e h;have:=zao (d:=12) (by omega)
 show(zN 12 e).length≤_;omega⟩
theorem zkz{i:Nat}(h:i<6):zDy (.inr (KS.getD i [])):=by
 obtain rfl|rfl|rfl|rfl|rfl|rfl:i=0∨i=1∨i=2∨i=3∨i=4∨i=5:=by omega
 all_goals exact yT (by decide)
theorem zo9{i:Nat}(h:i<3):zDy (.inr (W1.getD i [])):=by
 obtain rfl|rfl|rfl:i=0∨i=1∨i=2:=by omega
 all_goals exact yT (by decide)
theorem KJ{l:List zG}(h:Jv l):∀p∈l,jd p.X∧jd p.Y:=fun p hp=>by
 obtain⟨i,hi⟩:=List.mem_iff_getElem?.1 hp;have hlt:=jb hi;have hc:=h.2.1 i (Nat.zero_le _) hlt
 have e:ptA l i=p:=by
  unfold ptA;rw[Nat.mod_eq_of_lt hlt,List.getD_eq_getElem?_getD,hi];rfl
 simp only[bn,KQ,zko,decide_eq_true_eq,e]at hc;exact⟨⟨by omega,by omega⟩,⟨by omega,by omega⟩⟩
theorem zSt{l:List zG}(h:Jv l):W5 (l.flatMap ptT):=J9 fun p hp=>zk (yz (KJ h p hp).1) (zk (yz (KJ h p hp).2) ym)
theorem Hm{p:zf}(h:Qh p):jd p.X∧jd p.Y∧jd p.Z_:=⟨yx h.1 (by omega) (by omega),yx h.2.1 (by omega) (by omega),yx h.2.2 (by omega) (by omega)⟩
theorem YQ{p:zf}(h:zxo p):jd p.X∧jd p.Y∧jd p.Z_:=⟨yx h.1 (by omega) (by omega),yx h.2.1 (by omega) (by omega),yx h.2.2 (by omega) (by omega)⟩
theorem zxt{p:zf}(h:jd p.X∧jd p.Y∧jd p.Z_):W5 (oW p):=zk (yz h.1) (zk (yz h.2.1) (zk (yz h.2.2) ym))
theorem zSu{d:Def}(hn:zM d.Name=true)(hk:okE 12 d.Body=true):W5 (zkx d):=zk (yT (by decide)) (zk (wU hn) (zk (yT (by decide)) (zk (zo8 hk) ym)))
theorem zSv{x:Entry}(hn:zM x.Name=true)(h:-1099511627776≤x.N∧x.N≤1099511627776):W5 (zem x):=zk (wU hn) (zk (yz (yx h (by omega) (by omega))) ym)
theorem zeq{t:Table}(h:kT t):∀x∈t.Rows,zM x.Name=true:=fun x hx=>List.all_eq_true.1 (YN _ _ h.1.2) _ (List.mem_map_of_mem hx)
theorem zN4{t:Table}(hn:zM t.Name=true)(h:kT t):W5 (oV t):=je (zk (yT (by decide)) (zk (wU hn) ym)) (je (J9 fun x hx=>zSv (zeq h x hx) (h.2.2 x hx)) (zk (yT (by decide)) (zk (yz (yx h.2.1 (by omega) (by omega))) ym)))
theorem zpa(b:Bool):zDy (.inr (bif b then yX else kq)):=by
 cases b
 ·exact yT (by decide)
 ·exact yT (by decide)
theorem zSw{z:zY}(hn:zM z.Name=true)(h:Jv z.Corners):W5 (Vv z):=je (zk (zpa _) (zk (wU hn) ym)) (zSt h)
theorem cap_A{c:Cap}(hn:zM c.Name=true)(h:zEb c):W5 (zsa c):=je (zk (yT (by decide)) (zk (wU hn) (zk (zo9 (by have:=h.1;omega)) (zk (yz (yx h.2.1 (by omega) (by omega))) ym)))) (zSt h.2.2)
theorem zSx{v:View}(hn:zM v.Name=true)(h:KR v):W5 (Vw v):=by
 obtain⟨l1,l2,l3,l4⟩:=h;obtain⟨e1,e2,e3⟩:=Hm l3;exact je (zk (yT (by decide)) (zk (wU hn) (zk (yz e1) (zk (yz e2) (zk (yz e3) (zk (yT (by decide)) (zk (yz (yx l1 (by omega) (by omega))) (zk (yT (by decide)) ym)))))))) (J9 fun x hx=>zxt (Hm (l4 x hx)))
theorem zDz{w:List UInt8}{l:List (List UInt8)}(hw:zDy (.inr w))(h:l.all zM=true):W5 (yO w l):=by
 unfold yO;cases l.isEmpty
 ·exact zk hw fun y hy=>by
   obtain⟨s,hs,rfl⟩:=List.mem_map.1 hy;exact wU (List.all_eq_true.1 h s hs)
 ·exact ym
theorem zD0{w:List UInt8}{n:Int}(hw:zDy (.inr w))(h:jd n):W5 (xx w n):=by
 unfold xx;split
 ·exact ym
 ·exact zk hw (zk (yz h) ym)
theorem zSy{r:zB}(h:Jw r):W5 (Ji r):=by
 obtain⟨⟨k0,k3⟩,b1,b2,b3,b4,b5,b6,b7,b8⟩:=h;unfold Ji;by_cases h0:r.Kind=0
 ·rw[if_pos h0];exact zk (zo8 (b1 h0)) ym
 rw[if_neg h0];by_cases h1:r.Kind=1
 ·obtain⟨n1,n2,n3,n4⟩:=b3 h1
  rw[if_pos h1];exact zk (yT (by decide)) (zk (yz (yx n1 (by omega) (by omega))) (zk (yT (by decide)) (zk (yz (yx n2 (by omega) (by omega))) (zk (yT (by decide)) (zk (yz (yx n3 (by omega) (by omega))) (zk (yz (yx n4 (by omega) (by omega))) ym))))))
 rw[if_neg h1];by_cases h3:r.Kind=3
 ·obtain⟨n1,n2,n3⟩:=b6 h3
  rw[if_pos h3];exact zk (yT (by decide)) (zk (zkz (by omega)) (zk (zkz (by omega)) (zk (yz (yx n3 (by omega) (by omega))) ym)))
 rw[if_neg h3];refine zk (yT (by decide)) (J9 fun i hi=>?_);unfold zen;cases Nat.testBit r.Uses.toNat i
 ·exact ym
 ·exact zk (zkz (by simpa using hi)) ym
theorem zSz{r:zB}(hn:zM r.Name=true)(h:AO r):W5 (oX r):=by
 obtain⟨⟨⟨z0,x0⟩,d1,d2,d3,_⟩,hb⟩:=h;refine je (zk (yT (by decide)) (zk (wU hn) ym)) (je (zDz (yT (by decide)) z0) (je (zDz (yT (by decide)) x0) (je (zD0 (yT (by decide)) (yx d1 (by omega) (by omega))) (je (zD0 (yT (by decide)) (yx d3 (by omega) (by omega))) (je (zD0 (yT (by decide)) (yx d2 (by omega) (by omega))) (je ?_ (zk (yT (by decide)) (zSy hb))))))));cases r.Vary
 ·exact ym
 ·exact zk (yT (by decide)) ym
theorem sun_A{l:List zf}(h:∀p∈l,zxo p):W5 (zDt l):=by
 cases l with
 |nil=>exact ym
 |cons p r=>exact je (zk (yT (by decide)) (zxt (YQ (h p (List.mem_cons_self ..))))) (J9 fun q hq=>zk (yT (by decide)) (zxt (YQ (h q (mcQ _ hq)))))
theorem zD1{n:Int}(h:0≤n∧n≤24):W5 (Qj n):=zk (yT (by decide)) (zk (yz (yx h (by omega) (by omega))) ym)
-- lengths
theorem zJ2:∀{l:List Tok},W5 l→(spT l).length≤l.length*2000000001
 |[],_=>by simp[spT]
 |x::l,h=>by
  have h1:=(h x (List.mem_cons_self ..)).2;have h2:=zJ2 (l:=l) (fun y hy=>h y (mcQ _ hy));rw[zap];simp only[lc,la];omega
theorem Az{l:List Tok}(h:W5 l)(hl:l.length≤300):(zE l).length≤700000000000:=by
 cases l with
 |nil=>decide
 |cons x r =>
  have h1:=(h x (List.mem_cons_self ..)).2;have h2:=zJ2 (l:=r) (fun y hy=>h y (mcQ _ hy));rw[wT];simp only[la,lc,List.length_nil]at hl ⊢;omega
theorem ji{α β:Type}{f:α→List β}{n:Nat}:∀{l:List α},(∀x∈l,(f x).length≤n)→(l.flatMap f).length≤l.length*n
 |[],_=>by simp
 |x::l,h=>by
  have h1:=h x (List.mem_cons_self ..);have h2:=ji (l:=l) (fun y hy=>h y (mcQ _ hy));rw[List.flatMap_cons,la,lc,Nat.add_mul];omega
structure zN5(p:vg):Prop where
 d:∀x∈p.Defs,zM x.Name=true
 t:∀x∈p.Tables,zM x.Name=true
 z:∀x∈p.Zones,zM x.Name=true
 r:∀x∈p.Rules,zM x.Name=true
 c:∀x∈p.Caps,zM x.Name=true
 v:∀x∈p.Views,zM x.Name=true
theorem Hn{α:Type}{l:List α}{g:α→List UInt8}{m:Nat}(h:ke l g m):∀x∈l,zM (g x)=true:=fun x hx=>List.all_eq_true.1 (YN _ _ h.2) _ (List.mem_map_of_mem hx)
theorem zk0{p:vg}(h:Qi p):zN5 p:=by
 obtain⟨⟨h1,h2,h3,h4,h5,h6⟩,_⟩:=h;exact⟨Hn h1,Hn h2,Hn h3,Hn h4,Hn h5,Hn h6⟩
theorem zHz{t:Table}(h:t.Rows.length≤64):(oV t).length≤300:=by
 have:=ji (f:=zem) (n:=2) (l:=t.Rows) (fun x _=>by simp[zem]);simp only[oV,la,lc,List.length_nil];omega
theorem zD2{l:List zG}(h:l.length≤64):(l.flatMap ptT).length≤128:=by
 have:=ji (f:=ptT) (n:=2) (l:=l) (fun x _=>by simp[ptT]);omega
theorem zH0{r:zB}(h:zr3 r=true):(oX r).length≤300:=by
 obtain⟨_,⟨z1,_⟩,⟨x1,_⟩,_⟩:=Av h
 have nl:∀(w:List UInt8)(l:List (List UInt8)),(yO w l).length≤l.length+1:=fun w l=>by
  unfold yO;cases l.isEmpty<;>simp
 have sl:∀(w:List UInt8)(n:Int),(xx w n).length≤2:=fun w n=>by
  unfold xx;split<;>simp
 have ul:((List.range 6).flatMap (zen r.Uses)).length≤6:=by
  have:=ji (f:=zen r.Uses) (n:=1) (l:=List.range 6) (fun i _=>by unfold zen;cases Nat.testBit r.Uses.toNat i<;>simp);simpa using this
 have bl:(Ji r).length≤7:=by
  unfold Ji;split
  ·simp
  split
  ·simp
  split
  ·simp
  simp only[lc];omega
 have vl:((bif r.Vary then[Sum.inr K2]else[]):List Tok).length≤1:=by cases r.Vary<;>simp
 have a1:=nl ZA r.Zones;have a2:=nl yy r.Except;have a3:=sl wc r.From;have a4:=sl yQ r.Until;have a5:=sl yW r.Grace;simp only[oX,la,lc,List.length_nil];omega
theorem zhw{p:vg}(hf:zDh p)(h:Qi p):(Ay p).length≤40000000000000:=by
 have nm:=zk0 h;obtain⟨_,⟨b1,b2,b3,b4,b5,b6,b7⟩,hh,hs⟩:=h
 have d1:=ji (l:=p.Defs) (f:=fun x=>zE (zkx x)) (n:=700000000000) fun x hx=>Az (zSu (nm.d x hx) (b1 x hx)) (by simp[zkx])
 have d2:=ji (l:=p.Tables) (f:=fun x=>zE (oV x)) (n:=700000000000) fun x hx=>Az (zN4 (nm.t x hx) (b2 x hx)) (zHz (hf.ts x hx).2.1)
 have d3:=ji (l:=p.Zones) (f:=fun x=>zE (Vv x)) (n:=700000000000) fun x hx=>Az (zSw (nm.z x hx) (b3 x hx)) (by have:=zD2 (hf.zs x hx).2;simp only[Vv,la,lc,List.length_nil];omega)
 have d4:=ji (l:=p.Rules) (f:=fun x=>zE (oX x)) (n:=700000000000) fun x hx=>Az (zSz (nm.r x hx) (b4 x hx)) (zH0 (hf.rs x hx))
 have d5:=ji (l:=p.Caps) (f:=fun x=>zE (zsa x)) (n:=700000000000) fun x hx=>Az (cap_A (nm.c x hx) (b5 x hx)) (by have:=zD2 (hf.cs x hx).2;simp only[zsa,la,lc,List.length_nil];omega)
 have d6:=ji (l:=p.Views) (f:=fun x=>zE (Vw x)) (n:=700000000000) fun x hx=>Az (zSx (nm.v x hx) (b6 x hx)) (by
  have:=ji (f:=oW) (n:=3) (l:=x.Targets) (fun y _=>by simp[oW]);have:=(hf.vs x hx).2
  simp only[Vw,la,lc,List.length_nil];omega)
 have d7:((bif p.Sun.isEmpty then[]else zE (zDt p.Sun)):List UInt8).length≤700000000000:=by
  cases hsn:p.Sun with
  |nil=>simp
  |cons q r =>
   simp only[List.isEmpty_cons,cf];rw[hsn]at b7 hs;refine Az (sun_A b7) ?_;have:=ji (f:=fun p=>Sum.inr zb4::oW p) (n:=4) (l:=r) (fun y _=>by simp[oW]);simp only[lc]at hs;simp only[zDt,la,lc,oW,List.length_nil]at this ⊢;omega
 have d8:((if p.Hours=0 then[]else zE (Qj p.Hours)):List UInt8).length≤700000000000:=by
  split
  ·simp
  ·exact Az (zD1 hh) (by simp[Qj])
 have:=hf.d;have:=hf.t;have:=hf.z;have:=hf.r;have:=hf.c;have:=hf.v;simp only[Ay,la];omega
theorem zD3{p:vg}(hf:zDh p)(h:Qi p):(Ay p).length≤140737488355328:=Nat.le_trans (zhw hf h) (by omega)
section code
variable{c1:Int}{c8:Int}{s:List UInt8}
theorem P_L1{c0:List Def}{c2:List Table}{c3:List zY}{c4:List zB}{c5:List Cap}{c6:List View}{c7:List zf}(hl:c0.length≤8)(hs:Vz s)(hn:∀x∈c0,zM x.Name=true)(h:∀x∈c0,okE 12 x.Body=true)(hb:(s++c0.flatMap fun x=>zE (zkx x)).length≤140737488355328):
  vN c0 (List.length c0:Nat) c2 c3 c4 c5 c6 c7 c8 KK (0,s)=some (s++c0.flatMap fun x=>zE (zkx x))∧Vz (s++c0.flatMap fun x=>zE (zkx x)):=by
 refine yn c0 (fun x=>zE (zkx x)) (fun K q s=>vN c0 (List.length c0:Nat) c2 c3 c4 c5 c6 c7 c8 K (q,s)) 140737488355328 Vz (by omega) hs hb (fun K i x s hx hI hM=>?_) (fun K s=>?_)
 ·have hi:=jb hx
  have hA:=zSu (hn x (List.mem_of_getElem? hx)) (h x (List.mem_of_getElem? hx))
  have e:zE (zkx x)=uw (.inr uz)++(spT [.inr x.Name,.inr zjn]++(spT [.inr (zN 12 x.Body)]++[32,59,10])):=by
   show zE (.inr uz::([.inr x.Name,.inr zjn]++[.inr (zN 12 x.Body)]))=_
   rw[wT,vE,asc]
  simp only[e]at hM ⊢;have hM0:=hM;simp only[la]at hM0;obtain⟨p1,g1⟩:=Ax (x:=.inr uz) (l:=[.inr x.Name,.inr zjn]) hI (fun y hy=>(hA y (by simp only[zkx,List.mem_cons,List.not_mem_nil,or_false]at hy ⊢;rcases hy with h|h|h<;>simp[h])).1) (by simp) (by simp only[la];omega);obtain⟨p2,g2⟩:=zo6 g1 (h x (List.mem_of_getElem? hx)) (by simp only[la];omega)
  show vN _ _ _ _ _ _ _ _ _ (K+1) ((i:Int),s)=_∧_
  rw[vN];simp only[vk hx,ctQ,zy hx,bsQ,yd];rw[p1,bsQ,p2,bsQ,ya (by omega)];simp only[asc]at g2 ⊢;exact⟨trivial,g2⟩
 ·show vN _ _ _ _ _ _ _ _ _ (K+1) (_,s)=_
  rw[vN];simp only[yZ,cf]
theorem P_L3{c0:List Table}{c2:Int}{c3:List Entry}{c5:List Def}{c6:List zY}{c7:List zB}{c8:List Cap}{c9:List View}{c10:List zf}{c11:Int}{c12:List UInt8}{c13:Int}(hl:c3.length≤64)(hs:Good s)(h:∀x∈c3,W5 (zem x))(hb:(s++spT (c3.flatMap zem)).length≤140737488355328):
  vO c0 c1 c2 c3 (List.length c3:Nat) c5 c6 c7 c8 c9 c10 c11 c12 c13 KK (0,s)=some (s++spT (c3.flatMap zem))∧Good (s++spT (c3.flatMap zem)):=by
 rw[qH]at hb ⊢;refine yn c3 (fun x=>spT (zem x)) (fun K q s=>vO c0 c1 c2 c3 (List.length c3:Nat) c5 c6 c7 c8 c9 c10 c11 c12 c13 K (q,s)) 140737488355328 Good (by omega) hs hb (fun K i x s hx hI hM=>?_) (fun K s=>?_)
 ·have hi:=jb hx
  obtain⟨p1,g1⟩:=wN (l:=zem x) hI (h x (List.mem_of_getElem? hx)).g (by simp[zem]) hM;refine⟨?_,g1⟩
  show vO _ _ _ _ _ _ _ _ _ _ _ _ _ _ (K+1) ((i:Int),s)=_
  rw[vO];simp only[vk hx,ctQ,zy hx,bsQ];rw[show([(Sum.inr x.Name),(Sum.inl x.N)]:List (Int⊕List UInt8))=zem x from rfl,p1,bsQ,ya (by omega)]
 ·show vO _ _ _ _ _ _ _ _ _ _ _ _ _ _ (K+1) (_,s)=_
  rw[vO];simp only[yZ,cf]
theorem zhx(x:Table):zE (oV x)=uw (.inr wC)++(spT [.inr x.Name]++(spT (x.Rows.flatMap zem)++(spT [.inr kp,.inl x.Else]++[32,59,10]))):=by
 show zE (.inr wC::([.inr x.Name]++(x.Rows.flatMap zem++[.inr kp,.inl x.Else])))=_
 rw[wT];simp only[vE,asc]
theorem P_L2{c0:List Table}{c2:List Def}{c3:List zY}{c4:List zB}{c5:List Cap}{c6:List View}{c7:List zf}(hl:c0.length≤8)(hs:Vz s)(hn:∀x∈c0,zM x.Name=true)(h:∀x∈c0,kT x)(hf:∀x∈c0,x.Rows.length≤64)(hb:(s++c0.flatMap fun x=>zE (oV x)).length≤140737488355328):
  vP c0 (List.length c0:Nat) c2 c3 c4 c5 c6 c7 c8 KK (0,s)=some (s++c0.flatMap fun x=>zE (oV x))∧Vz (s++c0.flatMap fun x=>zE (oV x)):=by
 refine yn c0 (fun x=>zE (oV x)) (fun K q s=>vP c0 (List.length c0:Nat) c2 c3 c4 c5 c6 c7 c8 K (q,s)) 140737488355328 Vz (by omega) hs hb (fun K i x s hx hI hM=>?_) (fun K s=>?_)
 ·have hi:=jb hx
  have hm:=List.mem_of_getElem? hx;have hT:=h x hm;rw[zhx]at hM ⊢;have hM0:=hM;simp only[la]at hM0;obtain⟨p1,g1⟩:=Ax (x:=.inr wC) (l:=[.inr x.Name]) hI (zk (yT (by decide)) (zk (wU (hn x hm)) ym)).g (by simp) (by simp only[la];omega);obtain⟨p2,g2⟩:=P_L3 (c0:=c0) (c1:=(List.length c0:Nat)) (c2:=(i:Int)) (c3:=x.Rows) (c5:=c2) (c6:=c3) (c7:=c4) (c8:=c5) (c9:=c6) (c10:=c7) (c11:=c8) (c12:=x.Name) (c13:=x.Else) (hf x hm) g1 (fun y hy=>zSv (zeq hT y hy) (hT.2.2 y hy)) (by simp only[la];omega);obtain⟨p3,g3⟩:=wN (l:=[.inr kp,.inl x.Else]) g2 (zk (yT (by decide)) (zk (yz (yx hT.2.1 (by omega) (by omega))) ym)).g (by simp) (by simp only[la];omega);obtain⟨p4,g4⟩:=WZ g3 (by simp only[la];omega)
  show vP _ _ _ _ _ _ _ _ _ (K+1) ((i:Int),s)=_∧_
  rw[vP];simp only[vk hx,ctQ,zy hx,bsQ];rw[p1,bsQ,p2,bsQ,p3,bsQ,p4,bsQ,ya (by omega)];simp only[asc]at g4 ⊢;exact⟨trivial,g4⟩
 ·show vP _ _ _ _ _ _ _ _ _ (K+1) (_,s)=_
  rw[vP];simp only[yZ,cf]
theorem zpb(x:zY):zE (Vv x)=uw (.inr (bif x.Overlay then yX else kq))++(spT [.inr x.Name]++(spT (x.Corners.flatMap ptT)++[32,59,10])):=by
 show zE (.inr (bif x.Overlay then yX else kq)::([.inr x.Name]++x.Corners.flatMap ptT))=_
 rw[wT];simp only[vE,asc]
theorem P_L4{c0:List zY}{c2:List Def}{c3:List Table}{c4:List zB}{c5:List Cap}{c6:List View}{c7:List zf}(hl:c0.length≤8)(hs:Vz s)(hn:∀x∈c0,zM x.Name=true)(h:∀x∈c0,Jv x.Corners)(hf:∀x∈c0,x.Corners.length≤64)(hb:(s++c0.flatMap fun x=>zE (Vv x)).length≤140737488355328):
  vQ c0 (List.length c0:Nat) c2 c3 c4 c5 c6 c7 c8 KK (0,s)=some (s++c0.flatMap fun x=>zE (Vv x))∧Vz (s++c0.flatMap fun x=>zE (Vv x)):=by
 refine yn c0 (fun x=>zE (Vv x)) (fun K q s=>vQ c0 (List.length c0:Nat) c2 c3 c4 c5 c6 c7 c8 K (q,s)) 140737488355328 Vz (by omega) hs hb (fun K i x s hx hI hM=>?_) (fun K s=>?_)
 ·have hi:=jb hx
  have hm:=List.mem_of_getElem? hx;rw[zpb]at hM ⊢;have hM0:=hM;simp only[la]at hM0;obtain⟨p1,g1⟩:=Ax (x:=.inr (bif x.Overlay then yX else kq)) (l:=[.inr x.Name]) hI (zk (zpa _) (zk (wU (hn x hm)) ym)).g (by simp) (by simp only[la];omega);obtain⟨p2,g2⟩:=zeo g1 (KJ (h x hm)) (hf x hm) (by simp only[la];omega)
  have hw:(bif x.Overlay then some yX else some kq)=some (bif x.Overlay then yX else kq):=by cases x.Overlay<;>rfl
  show vQ _ _ _ _ _ _ _ _ _ (K+1) ((i:Int),s)=_∧_
  rw[vQ];simp only[vk hx,ctQ,zy hx,bsQ];rw[hw,bsQ,p1,bsQ,p2,bsQ,ya (by omega)];simp only[asc]at g2 ⊢;exact⟨trivial,g2⟩
 ·show vQ _ _ _ _ _ _ _ _ _ (K+1) (_,s)=_
  rw[vQ];simp only[yZ,cf]
theorem P_L5{c0:List zB}{c2:List Def}{c3:List Table}{c4:List zY}{c5:List Cap}{c6:List View}{c7:List zf}(hl:c0.length≤8)(hs:Vz s)(hn:∀x∈c0,zM x.Name=true)(h:∀x∈c0,AO x)(hf:∀x∈c0,zr3 x=true)(hb:(s++c0.flatMap fun x=>zE (oX x)).length≤140737488355328):
  vR c0 (List.length c0:Nat) c2 c3 c4 c5 c6 c7 c8 KK (0,s)=some (s++c0.flatMap fun x=>zE (oX x))∧Vz (s++c0.flatMap fun x=>zE (oX x)):=by
 refine yn c0 (fun x=>zE (oX x)) (fun K q s=>vR c0 (List.length c0:Nat) c2 c3 c4 c5 c6 c7 c8 K (q,s)) 140737488355328 Vz (by omega) hs hb (fun K i x s hx hI hM=>?_) (fun K s=>?_)
 ·have hi:=jb hx
  have hm:=List.mem_of_getElem? hx;obtain⟨p1,g1⟩:=zDx hI (h x hm) (hn x hm) (hf x hm) hM;refine⟨?_,g1⟩
  show vR _ _ _ _ _ _ _ _ _ (K+1) ((i:Int),s)=_
  rw[vR];simp only[vk hx,ctQ,zy hx,bsQ,yd];rw[p1,bsQ,ya (by omega)]
 ·show vR _ _ _ _ _ _ _ _ _ (K+1) (_,s)=_
  rw[vR];simp only[yZ,cf]
theorem zpc{i:Nat}(h:i<3):W1[i]?=some (W1.getD i []):=by
 rw[List.getD_eq_getElem?_getD,List.getElem?_eq_getElem (show i<W1.length from h)];rfl
theorem zu9(x:Cap):zE (zsa x)=uw (.inr zby)++(spT [.inr x.Name,.inr (W1.getD x.Load.toNat []),.inl x.Limit]++(spT (x.Corners.flatMap ptT)++[32,59,10])):=by
 show zE (.inr zby::([.inr x.Name,.inr (W1.getD x.Load.toNat []),.inl x.Limit]++x.Corners.flatMap ptT))=_
 rw[wT];simp only[vE,asc]
theorem P_L6{c0:List Cap}{c2:List Def}{c3:List Table}{c4:List zY}{c5:List zB}{c6:List View}{c7:List zf}(hl:c0.length≤8)(hs:Vz s)(hn:∀x∈c0,zM x.Name=true)(h:∀x∈c0,zEb x)(hf:∀x∈c0,x.Corners.length≤64)(hb:(s++c0.flatMap fun x=>zE (zsa x)).length≤140737488355328):
  vS c0 (List.length c0:Nat) c2 c3 c4 c5 c6 c7 c8 KK (0,s)=some (s++c0.flatMap fun x=>zE (zsa x))∧Vz (s++c0.flatMap fun x=>zE (zsa x)):=by
 refine yn c0 (fun x=>zE (zsa x)) (fun K q s=>vS c0 (List.length c0:Nat) c2 c3 c4 c5 c6 c7 c8 K (q,s)) 140737488355328 Vz (by omega) hs hb (fun K i x s hx hI hM=>?_) (fun K s=>?_)
 ·have hi:=jb hx
  have hm:=List.mem_of_getElem? hx;obtain⟨k1,k2,k3⟩:=h x hm;rw[zu9]at hM ⊢;have hM0:=hM;simp only[la]at hM0;obtain⟨p1,g1⟩:=Ax (x:=.inr zby) (l:=[.inr x.Name,.inr (W1.getD x.Load.toNat []),.inl x.Limit]) hI (zk (yT (by decide)) (zk (wU (hn x hm)) (zk (zo9 (by omega)) (zk (yz (yx k2 (by omega) (by omega))) ym)))).g (by simp) (by simp only[la];omega);obtain⟨p2,g2⟩:=zeo g1 (KJ k3) (hf x hm) (by simp only[la];omega)
  show vS _ _ _ _ _ _ _ _ _ (K+1) ((i:Int),s)=_∧_
  rw[vS];simp only[vk hx,ctQ,zy hx,bsQ,zo5];rw[zi (show 0≤x.Load∧x.Load<((List.length W1:Nat):Int) by rw[show W1.length=3 from rfl];omega),bsQ,zpc (show x.Load.toNat<3 by omega),bsQ,p1,bsQ,p2,bsQ,ya (by omega)];simp only[asc]at g2 ⊢;exact⟨trivial,g2⟩
 ·show vS _ _ _ _ _ _ _ _ _ (K+1) (_,s)=_
  rw[vS];simp only[yZ,cf]
theorem P_L8{c0:List View}{c2:Int}{c3:List zf}{c5:List Def}{c6:List Table}{c7:List zY}{c8:List zB}{c9:List Cap}{c10:List zf}{c11:Int}(hl:c3.length≤64)(hs:Good s)(h:∀x∈c3,W5 (oW x))(hb:(s++spT (c3.flatMap oW)).length≤140737488355328):
  vT c0 c1 c2 c3 (List.length c3:Nat) c5 c6 c7 c8 c9 c10 c11 KK (0,s)=some (s++spT (c3.flatMap oW))∧Good (s++spT (c3.flatMap oW)):=by
 rw[qH]at hb ⊢;refine yn c3 (fun x=>spT (oW x)) (fun K q s=>vT c0 c1 c2 c3 (List.length c3:Nat) c5 c6 c7 c8 c9 c10 c11 K (q,s)) 140737488355328 Good (by omega) hs hb (fun K i x s hx hI hM=>?_) (fun K s=>?_)
 ·have hi:=jb hx
  obtain⟨p1,g1⟩:=wN (l:=oW x) hI (h x (List.mem_of_getElem? hx)).g (by simp[oW]) hM;refine⟨?_,g1⟩
  show vT _ _ _ _ _ _ _ _ _ _ _ _ (K+1) ((i:Int),s)=_
  rw[vT];simp only[vk hx,ctQ,zy hx,bsQ];rw[show([(Sum.inl x.X),(Sum.inl x.Y),(Sum.inl x.Z_)]:List (Int⊕List UInt8))=oW x from rfl,p1,bsQ,ya (by omega)]
 ·show vT _ _ _ _ _ _ _ _ _ _ _ _ (K+1) (_,s)=_
  rw[vT];simp only[yZ,cf]
theorem zpd(x:View):zE (Vw x)=uw (.inr JN)++(spT [.inr x.Name,.inl x.Eye.X,.inl x.Eye.Y,.inl x.Eye.Z_,.inr AL,.inl x.Least,.inr o5]++(spT (x.Targets.flatMap oW)++[32,59,10])):=by
 show zE (.inr JN::([.inr x.Name,.inl x.Eye.X,.inl x.Eye.Y,.inl x.Eye.Z_,.inr AL,.inl x.Least,.inr o5]++x.Targets.flatMap oW))=_
 rw[wT];simp only[vE,asc]
theorem P_L7{c0:List View}{c2:List Def}{c3:List Table}{c4:List zY}{c5:List zB}{c6:List Cap}{c7:List zf}(hl:c0.length≤8)(hs:Vz s)(hn:∀x∈c0,zM x.Name=true)(h:∀x∈c0,KR x)(hf:∀x∈c0,x.Targets.length≤64)(hb:(s++c0.flatMap fun x=>zE (Vw x)).length≤140737488355328):
  vU c0 (List.length c0:Nat) c2 c3 c4 c5 c6 c7 c8 KK (0,s)=some (s++c0.flatMap fun x=>zE (Vw x))∧Vz (s++c0.flatMap fun x=>zE (Vw x)):=by
 refine yn c0 (fun x=>zE (Vw x)) (fun K q s=>vU c0 (List.length c0:Nat) c2 c3 c4 c5 c6 c7 c8 K (q,s)) 140737488355328 Vz (by omega) hs hb (fun K i x s hx hI hM=>?_) (fun K s=>?_)
 ·have hi:=jb hx
  have hm:=List.mem_of_getElem? hx;obtain⟨k1,k2,k3,k4⟩:=h x hm;obtain⟨e1,e2,e3⟩:=Hm k3;rw[zpd]at hM ⊢;have hM0:=hM;simp only[la]at hM0;obtain⟨p1,g1⟩:=Ax (x:=.inr JN) (l:=[.inr x.Name,.inl x.Eye.X,.inl x.Eye.Y,.inl x.Eye.Z_,.inr AL,.inl x.Least,.inr o5]) hI (zk (yT (by decide)) (zk (wU (hn x hm)) (zk (yz e1) (zk (yz e2) (zk (yz e3) (zk (yT (by decide)) (zk (yz (yx k1 (by omega) (by omega))) (zk (yT (by decide)) ym)))))))).g (by simp) (by simp only[la];omega);obtain⟨p2,g2⟩:=P_L8 (c0:=c0) (c1:=(List.length c0:Nat)) (c2:=(i:Int)) (c3:=x.Targets) (c5:=c2) (c6:=c3) (c7:=c4) (c8:=c5) (c9:=c6) (c10:=c7) (c11:=c8) (hf x hm) g1 (fun y hy=>zxt (Hm (k4 y hy))) (by simp only[la];omega);obtain⟨p3,g3⟩:=WZ g2 (by simp only[la];omega)
  show vU _ _ _ _ _ _ _ _ _ (K+1) ((i:Int),s)=_∧_
  rw[vU];simp only[vk hx,ctQ,zy hx,bsQ];rw[p1,bsQ,p2,bsQ,p3,bsQ,ya (by omega)];simp only[asc]at g3 ⊢;exact⟨trivial,g3⟩
 ·show vU _ _ _ _ _ _ _ _ _ (K+1) (_,s)=_
  rw[vU];simp only[yZ,cf]
end code
def AA(p:zf):List Tok:=.inr zb4::oW p
theorem zS0{l:List zf}{c2:List Def}{c3:List Table}{c4:List zY}{c5:List zB}{c6:List Cap}{c7:List View}{c8:Int}(hl:l.length≤64)(h:∀x∈l,zxo x):∀(r:List zf)(i K:Nat)(s:List UInt8),1≤i→l.drop i=r→i≤l.length→r.length<K→Good s→(s++r.flatMap fun x=>spT (AA x)).length≤140737488355328 →
  vV l (List.length l:Nat) c2 c3 c4 c5 c6 c7 c8 K ((i:Int),s)=some (s++r.flatMap fun x=>spT (AA x))∧Good (s++r.flatMap fun x=>spT (AA x))
 |[],i,K,s,h1,hr,hi,hK,hI,hM=>by
  obtain⟨K,rfl⟩:∃k,K=k+1:=⟨K-1,by simp at hK;omega⟩
  have:=drop_nil hr hi;subst this;rw[vV];simp only[yZ,cf,List.flatMap_nil,List.append_nil,true_and];exact hI
 |x::r,i,K,s,h1,hr,hi,hK,hI,hM=>by
  obtain⟨K,rfl⟩:∃k,K=k+1:=⟨K-1,by simp at hK;omega⟩
  obtain⟨g1,g2,g3⟩:=y6 hr;simp only[lc]at hK;rw[List.flatMap_cons,← asc]at hM ⊢;obtain⟨p1,p2⟩:=wN (l:=AA x) hI (zk (yT (by decide)) (zxt (YQ (h x (List.mem_of_getElem? g1))))).g (by simp[AA,oW]) (by rw[la]at hM;omega);rw[vV];simp only[vk g1,ctQ,zy g1,bsQ]
  rw[show min (i:Int) 1=1 by omega,zi (by decide),bsQ,show(([oB,zb4]:List (List UInt8)))[(Int.toNat 1)]?=some zb4 from rfl,bsQ,
   show([(Sum.inr zb4),(Sum.inl x.X),(Sum.inl x.Y),(Sum.inl x.Z_)]:List (Int⊕List UInt8))=AA x from rfl,p1,bsQ,ya (by omega)]
  exact zS0 hl h r (i+1) K _ (by omega) g2 (by omega) (by omega) p2 hM
theorem zva(p:zf)(r:List zf):zE (zDt (p::r))=uw (.inr oB)++(spT (oW p)++((r.flatMap fun x=>spT (AA x))++[32,59,10])):=by
 show zE (.inr oB::(oW p++r.flatMap AA))=_
 rw[wT];simp only[vE,asc,qH]
theorem P_L9{l:List zf}{c2:List Def}{c3:List Table}{c4:List zY}{c5:List zB}{c6:List Cap}{c7:List View}{c8:Int}{s:List UInt8}(hl:l.length≤64)(hs:Vz s)(h:∀x∈l,zxo x)(hb:(s++(bif l.isEmpty then[]else zE (zDt l))).length≤140737488355328):
  (vV l (List.length l:Nat) c2 c3 c4 c5 c6 c7 c8 KK (0,s)).bind (fun x8=>((bif (decide (((List.length l:Nat):Int)>0))then(qi x8).bind fun x10=>some x10 else some x8)))=some (s++(bif l.isEmpty then[]else zE (zDt l)))∧Vz (s++(bif l.isEmpty then[]else zE (zDt l))):=by
 obtain⟨k,hk⟩:∃k,KK=k+1:=⟨KK-1,by have:=ja (n:=100) (by omega);omega⟩
 have hkl:l.length<k+1:=by rw[← hk];exact ja (by omega)
 cases l with
 |nil =>
  rw[hk,vV];simp only[List.isEmpty_nil,ctQ,List.append_nil,List.length_nil];exact⟨rfl,hs⟩
 |cons p r =>
  simp only[List.isEmpty_cons,cf]at hb ⊢;rw[zva]at hb ⊢;have hM0:=hb;simp only[la]at hM0;simp only[lc]at hkl;have hp:=h p (List.mem_cons_self ..);obtain⟨p1,g1⟩:=Ax (x:=.inr oB) (l:=oW p) hs (zk (yT (by decide)) (zxt (YQ hp))).g (by simp[oW]) (by simp only[la];omega);obtain⟨p2,g2⟩:=zS0 (l:=p::r) (c2:=c2) (c3:=c3) (c4:=c4) (c5:=c5) (c6:=c6) (c7:=c7) (c8:=c8) hl h r 1 k _ (by omega) rfl (by simp) (by omega) g1 (by simp only[la];omega);obtain⟨p3,g3⟩:=WZ g2 (by simp only[la];omega);rw[hk,vV];have h0:(p::r)[0]?=some p:=rfl;have d0:decide ((0:Int)<(((p::r).length:Nat):Int))=true:=vk h0;have i0:idx (p::r) 0=some p:=zy h0;simp only[d0,ctQ,i0,bsQ]
  rw[show min (0:Int) 1=0 from rfl,zi (by decide),bsQ,show(([oB,zb4]:List (List UInt8)))[(Int.toNat 0)]?=some oB from rfl,bsQ,
   show([(Sum.inr oB),(Sum.inl p.X),(Sum.inl p.Y),(Sum.inl p.Z_)]:List (Int⊕List UInt8))=.inr oB::oW p from rfl,p1,bsQ,show w64 (0+1)=((1:Nat):Int) from rfl,p2,bsQ]
  rw[p3];simp only[asc,bsQ,true_and]at g3 ⊢;exact g3
theorem zN6{s:List UInt8}{n:Int}(hs:Vz s)(h:0≤n∧n≤24)(hb:(s++(if n=0 then[]else zE (Qj n))).length≤140737488355328):
  ((bif (!(decide (n=0)))then(yk s ([(Sum.inr xO),(Sum.inl n)]:List (Int⊕List UInt8))).bind fun x12=>(qi x12).bind fun x13=>some x13 else some s))=some (s++(if n=0 then[]else zE (Qj n))):=by
 by_cases h0:n=0
 ·rw[if_pos h0,dt h0,List.append_nil];rfl
 ·rw[if_neg h0]at hb ⊢
  have e:zE (Qj n)=uw (.inr xO)++(spT [.inl n]++[32,59,10]):=wT _ _;rw[e]at hb ⊢;have hM0:=hb;simp only[la]at hM0;obtain⟨p1,g1⟩:=Ax (x:=.inr xO) (l:=[.inl n]) hs (zD1 h).g (by simp) (by simp only[la];omega);obtain⟨p2,g2⟩:=WZ g1 (by simp only[la];omega);rw[df h0,Bool.not_false,ctQ,p1,bsQ,p2];simp only[asc,bsQ]
noncomputable def zvb(p:vg):List UInt8×Int:=bif pd (Qi p)then(if(Ay p).length≤8000 then(Ay p,0)else([],6))else([],1)
theorem zH1{p:vg}(hf:zDh p):zcn p=some (zvb p):=by
 unfold zcn zvb;rw[zu2 hf,bsQ]
 cases hr:pd (Qi p)with
 |false=>rfl
 |true =>
  have hR:=y7.1 hr;have hb:=zD3 hf hR;have nm:=zk0 hR;obtain⟨_,⟨b1,b2,b3,b4,b5,b6,b7⟩,hh,hs⟩:=hR;simp only[Bool.not_true,cf,ctQ];have hb0:=hb;simp only[Ay,la]at hb0;obtain⟨p1,g1⟩:=P_L1 (c0:=p.Defs) (c2:=p.Tables) (c3:=p.Zones) (c4:=p.Rules) (c5:=p.Caps) (c6:=p.Views) (c7:=p.Sun) (c8:=p.Hours) (s:=[]) hf.d (.inl rfl) nm.d b1 (by simp only[List.nil_append];omega);rw[List.nil_append]at p1 g1;generalize hs1:(p.Defs.flatMap fun x=>zE (zkx x))=s1 at p1 g1 hb0;obtain⟨p2,g2⟩:=P_L2 (c0:=p.Tables) (c2:=p.Defs) (c3:=p.Zones) (c4:=p.Rules) (c5:=p.Caps) (c6:=p.Views) (c7:=p.Sun) (c8:=p.Hours) hf.t g1 nm.t b2 (fun x hx=>(hf.ts x hx).2.1) (by simp only[la];omega);generalize hs2:(p.Tables.flatMap fun x=>zE (oV x))=s2 at p2 g2 hb0;obtain⟨p3,g3⟩:=P_L4 (c0:=p.Zones) (c2:=p.Defs) (c3:=p.Tables) (c4:=p.Rules) (c5:=p.Caps) (c6:=p.Views) (c7:=p.Sun) (c8:=p.Hours) hf.z g2 nm.z b3 (fun x hx=>(hf.zs x hx).2) (by simp only[la];omega);generalize hs3:(p.Zones.flatMap fun x=>zE (Vv x))=s3 at p3 g3 hb0;obtain⟨p4,g4⟩:=P_L5 (c0:=p.Rules) (c2:=p.Defs) (c3:=p.Tables) (c4:=p.Zones) (c5:=p.Caps) (c6:=p.Views) (c7:=p.Sun) (c8:=p.Hours) hf.r g3 nm.r b4 hf.rs (by simp only[la];omega);generalize hs4:(p.Rules.flatMap fun x=>zE (oX x))=s4 at p4 g4 hb0;obtain⟨p5,g5⟩:=P_L6 (c0:=p.Caps) (c2:=p.Defs) (c3:=p.Tables) (c4:=p.Zones) (c5:=p.Rules) (c6:=p.Views) (c7:=p.Sun) (c8:=p.Hours) hf.c g4 nm.c b5 (fun x hx=>(hf.cs x hx).2) (by simp only[la];omega);generalize hs5:(p.Caps.flatMap fun x=>zE (zsa x))=s5 at p5 g5 hb0;obtain⟨p6,g6⟩:=P_L7 (c0:=p.Views) (c2:=p.Defs) (c3:=p.Tables) (c4:=p.Zones) (c5:=p.Rules) (c6:=p.Caps) (c7:=p.Sun) (c8:=p.Hours) hf.v g5 nm.v b6 (fun x hx=>(hf.vs x hx).2) (by simp only[la];omega);generalize hs6:(p.Views.flatMap fun x=>zE (Vw x))=s6 at p6 g6 hb0;obtain⟨p7,g7⟩:=P_L9 (l:=p.Sun) (c2:=p.Defs) (c3:=p.Tables) (c4:=p.Zones) (c5:=p.Rules) (c6:=p.Caps) (c7:=p.Views) (c8:=p.Hours) hf.s g6 b7 (by simp only[la];omega);generalize hs7:(bif p.Sun.isEmpty then[]else zE (zDt p.Sun))=s7 at p7 g7 hb0
  have p8:=zN6 g7 hh (by simp only[la];omega)
  have e:s1++s2++s3++s4++s5++s6++s7++(if p.Hours=0 then[]else zE (Qj p.Hours))=Ay p:=by
   unfold Ay;rw[hs1,hs2,hs3,hs4,hs5,hs6,hs7];simp only[asc]
  rw[e]at p8;rw[p1,bsQ,p2,bsQ,p3,bsQ,p4,bsQ,p5,bsQ,p6,bsQ];rw[← Option.bind_assoc,p7,bsQ,p8,bsQ];unfold zq2 A5;rw[bsQ];by_cases hl:(Ay p).length≤8000
  ·rw[if_pos hl,df (by omega)];rfl
  ·rw[if_neg hl,dt (by omega)];rfl
theorem wlQ:(∀a b:List UInt8,(a++b).length=a.length+b.length)∧(∀(a:UInt8)(b:List UInt8),(a::b).length=b.length+1)∧([]:List UInt8).length=0∧ko.length=7∧QS.length=3∧z7.length=3∧yG.length=6∧QR.length=5∧vJ.length=8∧we.length=5∧vc.length=5∧Ym.length=5∧xy.length=2∧qy.length=6∧JJ.length=5∧Km.length=6∧qP.length=7∧zbw.length=5∧JL.length=4∧ub.length=5∧uy.length=6∧xO.length=5∧oB.length=3∧zgf.length=2∧t__.length=1∧ZA.length=2∧yy.length=6∧wc.length=4∧yQ.length=5∧yW.length=5:=⟨fun _ _=>List.length_append,fun _ _=>List.length_cons,rfl,rfl,rfl,rfl,rfl,rfl,rfl,rfl,rfl,rfl,rfl,rfl,rfl,rfl,rfl,rfl,rfl,rfl,rfl,rfl,rfl,rfl,rfl,rfl,rfl,rfl,rfl,rfl⟩
theorem zS1:ko.length=7:=rfl
theorem w__x3d_:QS.length=3:=rfl
theorem zS2:z7.length=3:=rfl
theorem zTn:yG.length=6:=rfl
theorem w__else:QR.length=5:=rfl
theorem zOt:vJ.length=8:=rfl
theorem w_zone_:we.length=5:=rfl
theorem w_rule_:vc.length=5:=rfl
theorem w__vary:Ym.length=5:=rfl
theorem w__x3a:xy.length=2:=rfl
theorem zTo:qy.length=6:=rfl
theorem w__base:JJ.length=5:=rfl
theorem zTp:Km.length=6:=rfl
theorem zS3:qP.length=7:=rfl
theorem w__uses:zbw.length=5:=rfl
theorem w_cap_:JL.length=4:=rfl
theorem w_view_:ub.length=5:=rfl
theorem zTq:uy.length=6:=rfl
theorem w_hours:xO.length=5:=rfl
theorem w_sun:oB.length=3:=rfl
theorem w__x2c:zgf.length=2:=rfl
theorem w__:t__.length=1:=rfl
theorem w_in:ZA.length=2:=rfl
theorem zTr:yy.length=6:=rfl
theorem w_from:wc.length=4:=rfl
theorem w_until:yQ.length=5:=rfl
theorem w_grace:yW.length=5:=rfl
theorem xA:spT []=[]:=rfl
theorem xu(x:Tok)(b:List Tok):spT (x::b)=32::(uw x++spT b):=rfl
theorem vF(s:List UInt8):uw (.inr s)=s:=rfl
def zpe:List Tok→List UInt8
 |[]=>[]
 |x::l=>uw x++spT l
theorem zD4(x:Tok)(l:List Tok):zE (x::l)=zpe (x::l)++[32,59,10]:=by rw[wT,zpe,asc]
theorem Zx{l:List zG}(hl:l.length≤64)(h:∀p∈l,jd p.X∧jd p.Y):oN l=some (spT (l.flatMap ptT))∧(spT (l.flatMap ptT)).length≤10000:=by
 have hb:=ji (l:=l) (f:=fun p=>spT (ptT p)) (n:=48) (fun p hp=>by
  have a:=wM (h p hp).1;have b:=wM (h p hp).2
  simp only[ptT,xu,xA,la,lc,List.length_nil];omega)
 rw[qH];refine⟨?_,by omega⟩
 have ht:=yn l (fun p=>spT (ptT p)) (fun K q s=>xj l K (s,q)) 10000 (fun _=>True) (s:=[]) (by omega) trivial (by rw[List.nil_append];omega) (fun K i x s hx _ hM=>by
  have hi:=jb hx;have hm:=h x (List.mem_of_getElem? hx);have a:=wM hm.1;have b:=wM hm.2;simp only[la]at hM;refine⟨?_,trivial⟩
  show xj l (K+1) (s,(i:Int))=_
  rw[xj];simp only[vk hx,ctQ,zy hx,bsQ,xZ hm.1,xZ hm.2];rw[zi (by (try simp only[wlQ]);omega),bsQ,zi (by (try simp only[wlQ]);omega),bsQ,ya (by omega)]
  simp only[ptT,xu,xA,asc,List.append_nil,List.cons_append]) (fun K s=>by
  show xj l (K+1) (s,_)=_
  rw[xj]
  simp only[yZ,cf])
 unfold oN;rw[ht.1,List.nil_append];rfl
theorem KL{p:zf}(h:jd p.X∧jd p.Y∧jd p.Z_):A9 p=some (spT (oW p))∧(spT (oW p)).length≤72:=by
 obtain⟨h1,h2,h3⟩:=h;have a:=wM h1;have b:=wM h2;have c:=wM h3;refine⟨?_,by simp only[oW,xu,xA,la,lc,List.length_nil];omega⟩;unfold A9;simp only[xZ h1,xZ h2,xZ h3,bsQ];rw[zi (by (try simp only[wlQ]);omega),bsQ,zi (by (try simp only[wlQ]);omega),bsQ];simp only[oW,xu,xA,asc,List.append_nil,List.cons_append]
theorem zer{w:List UInt8}{n:Int}(hw:w.length≤100)(h:jd n):KB w n=some (spT (xx w n))∧(spT (xx w n)).length≤200:=by
 have a:=wM h;unfold KB xx;by_cases h0:n=0
 ·rw[dt h0,if_pos h0];exact⟨rfl,by simp[spT]⟩
 ·rw[df h0,if_neg h0,cf]
  refine⟨?_,by simp only[xu,xA,vF,la,lc,List.length_nil];omega⟩;rw[zi (by (try simp only[wlQ]);omega),bsQ,xZ h,bsQ,zi (by (try simp only[wlQ]);omega),bsQ];simp only[xu,xA,vF,asc,List.append_nil,List.cons_append];rfl
theorem zvc{w:List UInt8}{l:List (List UInt8)}(hw:w.length≤100)(h1:l.length≤10)(h2:∀s∈l,s.length≤30):zcq w l=some (spT (yO w l))∧(spT (yO w l)).length≤1000:=by
 have hb:=ji (l:=l) (f:=fun s:List UInt8=>32::s) (n:=31) (fun s hs=>by have:=h2 s hs;simp only[lc];omega)
 have hj:spT (l.map Sum.inr)=l.flatMap fun s:List UInt8=>32::s:=by
  unfold spT;rw[List.flatMap_map];rfl
 cases l with
 |nil=>exact⟨rfl,by simp[yO,spT]⟩
 |cons n r =>
  have e:spT (yO w (n::r))=t__++w++(n::r).flatMap fun s:List UInt8=>32::s:=by
   unfold yO;rw[List.isEmpty_cons,cf,xu,hj];rfl
  rw[e];refine⟨?_,by simp only[la,w__];omega⟩;unfold zcq;rw[df (show ¬(((n::r).length:Nat):Int)=0 by simp only[lc];omega),cf,zi (by (try simp only[wlQ]);omega),bsQ]
  have ht:=yn (n::r) (fun s:List UInt8=>32::s) (fun K q s=>j7 (n::r) K (s,q)) 10000 (fun _=>True) (s:=t__++w) (by omega) trivial (by simp only[la,w__];omega) (fun K i x s hx _ hM=>by
   have hi:=jb hx;simp only[la,lc]at hM;refine⟨?_,trivial⟩
   show j7 (n::r) (K+1) (s,(i:Int))=_
   rw[j7];simp only[vk hx,ctQ]
   rw[zi (by (try simp only[wlQ]);omega),bsQ,zy hx,bsQ,zi (by (try simp only[wlQ]);omega),bsQ,ya (by omega),asc];rfl) (fun K s=>by
   show j7 (n::r) (K+1) (s,_)=_
   rw[j7]
   simp only[yZ,cf])
  rw[ht.1];rfl
theorem zN7:∀s<64,∀k<6,(zcp ((k:Nat):Int)).bind (fun x2=>(grd (x2≠0)).bind fun _=>some (decide ((Int.tmod (w64 (Int.tdiv ((s:Nat):Int) x2)) 2)=1)))=some (Nat.testBit s k):=by decide +kernel
theorem zH2{c0:List UInt8}{c1 c2:List (List UInt8)}{c3 c4 c5:Int}{c6:Bool}{c7 c8 c9:Int}{c10 c11:List UInt8}{c12:List Expr}{c13 c14 c15 c16 c17 c18 c19:Int}{s:List UInt8}(hs:s.length≤140737488000000)(hu:0≤c17∧c17<64):wF c0 c1 c2 c3 c4 c5 c6 c7 c8 c9 c10 c11 c12 c13 c14 c15 c16 c17 c18 c19 KK (s,0)=some (s++spT ((List.range 6).flatMap (zen c17))):=by
 have hl:∀i<6,(spT (zen c17 i)).length≤6:=by
  intro i hi;unfold zen;cases Nat.testBit c17.toNat i
  ·simp[spT]
  ·obtain rfl|rfl|rfl|rfl|rfl|rfl:i=0∨i=1∨i=2∨i=3∨i=4∨i=5:=by omega
   all_goals decide
 have hb:=ji (l:=List.range 6) (f:=fun i=>spT (zen c17 i)) (n:=6) (fun i hi=>hl i (by simpa using hi));rw[qH];rw[List.length_range]at hb;refine(yn (List.range 6) (fun i=>spT (zen c17 i)) (fun K q s=>wF c0 c1 c2 c3 c4 c5 c6 c7 c8 c9 c10 c11 c12 c13 c14 c15 c16 c17 c18 c19 K (s,q)) 140737488355328 (fun _=>True) (by decide) trivial (by rw[la];omega) (fun K i x s hx _ hM=>?_) (fun K s=>?_)).1
 ·have hi:=jb hx
  rw[List.length_range]at hi
  have hxi:x=i:=by simpa[List.getElem?_range,hi]using hx.symm
  subst hxi;obtain⟨u,rfl⟩:=Int.eq_ofNat_of_zero_le hu.1;have hbit:=zN7 u (by omega) x hi;refine⟨?_,trivial⟩
  show wF _ _ _ _ _ _ _ _ _ _ _ _ _ _ _ _ _ _ _ _ (K+1) (s,(x:Int))=_
  rw[wF];simp only[dt (show(x:Int)<6 by omega),ctQ]
  obtain⟨v,hv⟩:∃v,zcp ((x:Nat):Int)=some v:=by
   cases h:zcp ((x:Nat):Int)with
   |none=>rw[h]at hbit;cases hbit
   |some v=>exact⟨v,rfl⟩
  rw[hv,bsQ]at hbit;rw[hv,bsQ]
  cases hg:grd (v≠0)with
  |none=>rw[hg]at hbit;cases hbit
  |some y =>
   rw[hg,bsQ]at hbit;rw[bsQ,Option.some.inj hbit,ya (by omega)];unfold zen at hM ⊢;rw[show(((u:Nat):Int)).toNat=u from rfl]at *
   cases hbb:Nat.testBit u x with
   |false=>simp only[cf,xA,List.append_nil,bsQ]
   |true =>
    rw[hbb]at hM;simp only[ctQ,xu,xA,vF,la,lc,List.length_nil]at hM ⊢;rw[zi (by (try simp only[wlQ]);omega),bsQ];unfold jU;rw[bsQ,zy (l:=[zb0,zb2,zb3,zb1,QT,zbz]) (KI hi),bsQ,zi (by (try simp only[wlQ]);omega),bsQ,bsQ,List.append_nil,asc];rfl
 ·show wF _ _ _ _ _ _ _ _ _ _ _ _ _ _ _ _ _ _ _ _ (K+1) (s,_)=_
  rw[wF];rfl
theorem zhy{e:Expr}(h:okE 12 e=true):(zN 12 e).length≤1677721600:=by
 have:=WY 12 e h;have:=zao (d:=12) (by omega);omega
theorem zD5{r:zB}(hr:AO r)(hn:zM r.Name=true)(hf:zr3 r=true):Z9 r=some (zpe (oX r))∧(zpe (oX r)).length≤2000000000:=by
 obtain⟨⟨⟨z0,x0⟩,d1,d2,d3,_⟩,⟨⟨k0,k3⟩,b1,b2,b3,b4,b5,b6,b7,b8⟩⟩:=hr;obtain⟨_,⟨z1,z2⟩,⟨x1,x2⟩,te⟩:=Av hf;have ln:=(kQ hn).1;obtain⟨a1,l1⟩:=zvc (w:=ZA) (by decide) z1 z2;obtain⟨a2,l2⟩:=zvc (w:=yy) (by decide) x1 x2;obtain⟨a3,l3⟩:=zer (w:=wc) (by decide) (yx d1 (by omega) (by omega));obtain⟨a4,l4⟩:=zer (w:=yQ) (by decide) (yx d3 (by omega) (by omega));obtain⟨a5,l5⟩:=zer (w:=yW) (by decide) (yx d2 (by omega) (by omega))
 have eh:zpe (oX r)=uw (.inr qQ)++(spT [.inr r.Name]++(spT (yO ZA r.Zones)++(spT (yO yy r.Except)++(spT (xx wc r.From)++(spT (xx yQ r.Until)++(spT (xx yW r.Grace)++(spT (Vx r.Vary)++(spT [.inr o5]++spT (Ji r))))))))):=by
  show zpe (.inr qQ::([.inr r.Name]++(yO ZA r.Zones++(yO yy r.Except++(xx wc r.From++(xx yQ r.Until++(xx yW r.Grace++(Vx r.Vary++([.inr o5]++Ji r)))))))))=_
  rw[zpe];simp only[vE,asc]
 rw[eh];generalize spT (yO ZA r.Zones)=A at a1 l1 ⊢;generalize spT (yO yy r.Except)=B at a2 l2 ⊢;generalize spT (xx wc r.From)=C at a3 l3 ⊢;generalize spT (xx yQ r.Until)=D at a4 l4 ⊢;generalize spT (xx yW r.Grace)=E at a5 l5 ⊢;unfold Z9;rw[zi (by (try simp only[wlQ]);omega),bsQ,a1,bsQ,zi (by (try simp only[wlQ]);omega),bsQ,a2,bsQ,zi (by (try simp only[wlQ]);omega),bsQ,a3,bsQ,zi (by (try simp only[wlQ]);omega),bsQ,a4,bsQ,zi (by (try simp only[wlQ]);omega),bsQ,a5,bsQ,zi (by (try simp only[wlQ]);omega),bsQ]
 have hv:(bif r.Vary then(grd (List.length ((((((vc++r.Name)++A)++B)++C)++D)++E)+List.length Ym≤9223372036854775807)).bind fun _=>some (((((((vc++r.Name)++A)++B)++C)++D)++E)++Ym)else some ((((((vc++r.Name)++A)++B)++C)++D)++E))=some (((((((vc++r.Name)++A)++B)++C)++D)++E)++spT (Vx r.Vary)):=by
  cases r.Vary with
  |false=>simp only[cf,Vx,xA,List.append_nil]
  |true=>rw[ctQ,zi (by (try simp only[wlQ]);omega),bsQ];rfl
 have lv:(spT (Vx r.Vary)).length≤5:=by cases r.Vary<;>decide
 rw[hv,bsQ];generalize spT (Vx r.Vary)=V at lv ⊢;rw[zi (by (try simp only[wlQ]);omega),bsQ]
 have e0:uw (.inr qQ)++(spT [.inr r.Name]++(A++(B++(C++(D++(E++(V++(spT [.inr o5]++spT (Ji r)))))))))=((((((((vc++r.Name)++A)++B)++C)++D)++E)++V)++xy)++spT (Ji r):=by
  simp only[xu,xA,vF,asc,List.append_nil,List.cons_append];rfl
 rw[e0]
 have lX:((((((((vc++r.Name)++A)++B)++C)++D)++E)++V)++xy).length≤10000:=by simp only[wlQ];omega
 generalize ((((((((vc++r.Name)++A)++B)++C)++D)++E)++V)++xy)=X at lX ⊢;unfold Ji;by_cases h0:r.Kind=0
 ·have lt:=zhy (b1 h0)
  rw[if_pos h0,df (show ¬r.Kind=1 by omega),df (show ¬r.Kind=3 by omega),dt h0,cf,cf,ctQ,yd,zi (by (try simp only[wlQ]);omega),bsQ,zek (b1 h0),bsQ,zi (by (try simp only[wlQ]);omega),bsQ];simp only[xu,xA,vF,asc,List.append_nil,List.cons_append];exact⟨rfl,by simp only[la,lc];omega⟩
 rw[if_neg h0];by_cases h1:r.Kind=1
 ·obtain⟨m1,m2,m3,m4⟩:=b3 h1
  have n1:=yx m1 (by omega) (by omega);have n2:=yx m2 (by omega) (by omega);have n3:=yx m3 (by omega) (by omega);have n4:=yx m4 (by omega) (by omega);have q1:=wM n1;have q2:=wM n2;have q3:=wM n3;have q4:=wM n4;rw[if_pos h1,dt h1,ctQ];simp only[xZ n1,xZ n2,xZ n3,xZ n4,bsQ];rw[zi (by (try simp only[wlQ]);omega),bsQ,zi (by (try simp only[wlQ]);omega),bsQ,zi (by (try simp only[wlQ]);omega),bsQ,zi (by (try simp only[wlQ]);omega),bsQ,zi (by (try simp only[wlQ]);omega),bsQ,zi (by (try simp only[wlQ]);omega),bsQ,zi (by (try simp only[wlQ]);omega),bsQ];simp only[xu,xA,vF,asc,List.append_nil,List.cons_append];exact⟨rfl,by simp only[la,lc,show HI.length=5 from rfl,show K1.length=4 from rfl,show AM.length=5 from rfl];omega⟩
 rw[if_neg h1];by_cases h3:r.Kind=3
 ·obtain⟨m1,m2,m3⟩:=b6 h3
  have n3:=yx m3 (by omega) (by omega);have q3:=wM n3
  have ul:∀i<6,(KS.getD i []).length≤5:=by
   intro i hi
   obtain rfl|rfl|rfl|rfl|rfl|rfl:i=0∨i=1∨i=2∨i=3∨i=4∨i=5:=by omega
   all_goals decide
  have u1:=ul r.Uses.toNat (by omega);have u2:=ul r.Other.toNat (by omega)
  have i1:idx [zb0,zb2,zb3,zb1,QT,zbz] r.Uses=some (KS.getD r.Uses.toNat []):=by
   have:=zy (l:=[zb0,zb2,zb3,zb1,QT,zbz]) (KI (show r.Uses.toNat<6 by omega))
   rwa [Int.toNat_of_nonneg m1.1]at this
  have i2:idx [zb0,zb2,zb3,zb1,QT,zbz] r.Other=some (KS.getD r.Other.toNat []):=by
   have:=zy (l:=[zb0,zb2,zb3,zb1,QT,zbz]) (KI (show r.Other.toNat<6 by omega))
   rwa [Int.toNat_of_nonneg m2.1]at this
  rw[if_pos h3,df h1,dt h3,cf,ctQ];unfold jU;simp only[i1,i2,xZ n3,bsQ];rw[zi (by (try simp only[wlQ]);omega),bsQ,zi (by (try simp only[wlQ]);omega),bsQ,zi (by (try simp only[wlQ]);omega),bsQ,zi (by (try simp only[wlQ]);omega),bsQ,zi (by (try simp only[wlQ]);omega),bsQ];simp only[xu,xA,vF,asc,List.append_nil,List.cons_append];exact⟨rfl,by simp only[la,lc,show HH.length=5 from rfl];omega⟩
 have h2:r.Kind=2:=by omega
 have hu:=b5 h2;rw[if_neg h3,df h1,df h3,df h0,cf,cf,cf,zi (by (try simp only[wlQ]);omega),bsQ]
 have es:spT (.inr JM::(List.range 6).flatMap (zen r.Uses))=zbw++spT ((List.range 6).flatMap (zen r.Uses)):=by rw[xu];rfl
 rw[zH2 (by simp only[wlQ];omega) (by omega),es];refine⟨by rw[bsQ,asc],?_⟩
 have hl:∀i<6,(spT (zen r.Uses i)).length≤6:=by
  intro i hi;unfold zen;cases Nat.testBit r.Uses.toNat i
  ·simp[spT]
  ·obtain rfl|rfl|rfl|rfl|rfl|rfl:i=0∨i=1∨i=2∨i=3∨i=4∨i=5:=by omega
   all_goals decide
 have hb:=ji (l:=List.range 6) (f:=fun i=>spT (zen r.Uses i)) (n:=6) (fun i hi=>hl i (by simpa using hi));rw[List.length_range]at hb;rw[qH];simp only[wlQ];omega
end Go.Proofs.YtffencjoddkghaaGreatDoor
