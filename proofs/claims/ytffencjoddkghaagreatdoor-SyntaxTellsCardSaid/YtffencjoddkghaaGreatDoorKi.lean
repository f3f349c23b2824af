/- texts that the proof of SyntaxPrints reaches, part 9 -/
import Derived.Test.YtffencjoddkghaaGreatDoorKh
set_option linter.all false
set_option maxRecDepth 100000
namespace Go.Proofs.YtffencjoddkghaaGreatDoor
open Go Go.RowKit Go.Eng Go.EV Go.EQ
variable[Fuel]
theorem zx{p:Prop}{i:Decidable p}(h:p):@grd p i=some ():=if_pos h
theorem xv{n:Int}(h0:-9223372036854775808≤n)(h1:n≤9223372036854775807):EV.w64 n=n:=zvo h0 h1
theorem zG3{α:Type}[Inhabited α]{l:List α}{i:Nat}(h:i<l.length):idx l (i:Int)=some (l.getD i default):=by
 unfold idx;rw[if_pos ⟨by omega,by omega⟩];rfl
theorem yv{α:Type}[Inhabited α]{l:List α}{i:Nat}{x:α}(h:l[i]?=some x):idx l (i:Int)=some x:=by
 obtain⟨h1,h2⟩:=List.getElem?_eq_some_iff.1 h;rw[zG3 h1,List.getD_eq_getElem?_getD,h];rfl
theorem zzk{α:Type}{l:List α}{a b:Nat}(h1:a≤b)(h2:b≤l.length):cut l (a:Int) (b:Int)=some ((l.take b).drop a):=by
 unfold cut;rw[if_pos ⟨by omega,by omega,by omega⟩];rfl
theorem zsf{α:Type}{l:List α}{a:Nat}(h1:a≤l.length):cut l (a:Int) (l.length:Int)=some (l.drop a):=by
 rw[zzk h1 (Nat.le_refl _),List.take_length]
theorem xL{n:Nat}(h:n<9223372036854775807):w64 ((n:Int)+1)=((n+1:Nat):Int):=by rw[xv (by omega) (by omega)];rfl
theorem km{n:Nat}(h:n<18446744073709551616):n<KK:=Nat.lt_of_lt_of_le h Fuel.big
theorem yA{α:Type}{l:List α}{i:Nat}{x:α}{r:List α}(h:l.drop i=x::r):l[i]?=some x∧l.drop (i+1)=r∧i<l.length:=by
 have h0:l[i]?=some x:=by
  have:=List.getElem?_drop (xs:=l) (i:=i) (j:=0);rw[h]at this;simpa using this.symm
 refine⟨h0,?_,(List.getElem?_eq_some_iff.1 h0).1⟩;rw[← List.drop_drop,h];rfl
theorem drop_nil{α:Type}{l:List α}{i:Nat}(h:l.drop i=[])(hi:i≤l.length):i=l.length:=by
 have:=congrArg List.length h;simp at this;omega
-- bytes
def ko(c:UInt8):Bool:=decide (97≤c.toNat)&&decide (c.toNat≤122)
def yF(c:UInt8):Bool:=decide (48≤c.toNat)&&decide (c.toNat≤57)
def yJ(c:UInt8):Bool:=decide (c.toNat=32)||(decide (c.toNat=9)||decide (c.toNat=10))
def yw(c:UInt8):Bool:=ko c||yF c
theorem zh7(a b:Bool):(bif a then some b else some false)=some (a&&b):=by cases a<;>rfl
theorem Vy(a b:Bool):(bif a then some true else some b)=some (a||b):=by cases a<;>rfl
theorem yn{p q:Prop}{i:Decidable p}{j:Decidable q}(h:p↔q):@decide p i=@decide q j:=by
 by_cases hq:q
 ·rw[dt hq,dt (h.2 hq)]
 ·rw[df hq,df (fun hp=>hq (h.1 hp))]
theorem zG4(n m:Nat){a:Int}(h:a=(m:Int)):decide ((n:Int)≥a)=decide (m≤n):=yn (by omega)
theorem zG5(n m:Nat){a:Int}(h:a=(m:Int)):decide ((n:Int)≤a)=decide (n≤m):=yn (by omega)
theorem zff(n m:Nat){a:Int}(h:a=(m:Int)):decide ((n:Int)=a)=decide (n=m):=yn (by omega)
theorem Zl(c:UInt8):jX ((c.toNat:Nat):Int)=some (ko c):=by
 unfold jX;rw[zh7,ko,zG4 _ 97 (a:=97) rfl,zG5 _ 122 (a:=122) rfl]
theorem zh8(c:UInt8):kS ((c.toNat:Nat):Int)=some (yF c):=by
 unfold kS;rw[zh7,yF,zG4 _ 48 (a:=48) rfl,zG5 _ 57 (a:=57) rfl]
theorem Zm(c:UInt8):qO ((c.toNat:Nat):Int)=some (ko c):=Zl c
theorem zb4(c:UInt8):uu ((c.toNat:Nat):Int)=some (yF c):=zh8 c
theorem zKg(c:UInt8):HR ((c.toNat:Nat):Int)=some (yJ c):=by
 unfold HR;rw[Vy,Vy,yJ,zff _ 32 (a:=32) rfl,zff _ 9 (a:=9) rfl,zff _ 10 (a:=10) rfl]
theorem zKh(c:UInt8):Vi ((c.toNat:Nat):Int)=some (yJ c):=by
 unfold Vi;rw[Vy,Vy,yJ,zff _ 32 (a:=32) rfl,zff _ 9 (a:=9) rfl,zff _ 10 (a:=10) rfl]
 congr 1
 cases decide (c.toNat=32)<;>cases decide (c.toNat=9)<;>cases decide (c.toNat=10)<;>rfl
theorem zzl(c:UInt8):qH ((c.toNat:Nat):Int)=some (yw c):=by
 unfold qH;rw[Zl,bsQ,zh8,bsQ,Vy,yw]
-- runs of bytes
theorem Zn(l:List UInt8)(f:UInt8→Bool)(G:UInt8→Option Bool)(F:Nat→Int→Option Int)(hG:∀b,G b=some (f b))
  (hF:∀K q,F (K+1) q=((bif (decide (q<((List.length l:Nat):Int)))then(idx l q).bind G else some false)).bind fun x1=>(bif x1 then F K (w64 (q+1))else some q)) (hl:l.length<4611686018427387904):
  ∀(r:List UInt8)(i K:Nat),l.drop i=r→i≤l.length→r.length<K→F K (i:Int)=some ((i+(r.takeWhile f).length:Nat):Int):=by
 intro r
 induction r with
 |nil =>
  intro i K hr hi hK
  obtain⟨K,rfl⟩:∃k,K=k+1:=⟨K-1,by omega⟩
  have:=drop_nil hr hi;rw[hF,df (by omega)];simp
 |cons c r ih =>
  intro i K hr hi hK
  obtain⟨K,rfl⟩:∃k,K=k+1:=⟨K-1,by omega⟩
  obtain⟨h1,h2,h3⟩:=yA hr;simp only[lc]at hK;rw[hF,dt (by omega),ctQ,yv h1,bsQ,hG,bsQ]
  cases hc:f c with
  |false=>simp[List.takeWhile,hc]
  |true =>
   rw[ctQ,xL (by omega),ih (i+1) K h2 (by omega) (by omega)];simp only[List.takeWhile,hc,lc]
   congr 2;omega
def xg(f:UInt8→Bool)(l:List UInt8):Nat:=(l.takeWhile f).length
theorem uD(f:UInt8→Bool)(l:List UInt8):xg f l≤l.length:=(List.takeWhile_sublist _).length_le
theorem zb5{α:Type}(o:Option α):(o.bind fun x=>some x)=o:=by cases o<;>rfl
theorem zQc{s:List UInt8}(h:s.length<4611686018427387904):Y7 s=some ((xg yJ s:Nat):Int):=by
 unfold Y7;rw[zb5,show((0:Int))=((0:Nat):Int) from rfl,Zn s yJ (fun x2=>(HR ((x2.toNat:Nat):Int)).bind fun x3=>some x3) (AJ s) (fun b=>by rw[zKg];rfl) (fun K q=>rfl) h s 0 KK rfl (by omega) (km (by omega))];simp[xg]
theorem zKi{s:List UInt8}(h:s.length<4611686018427387904):JE s=some ((xg yw s:Nat):Int):=by
 unfold JE;rw[zb5,show((0:Int))=((0:Nat):Int) from rfl,Zn s yw (fun x2=>(JD ((x2.toNat:Nat):Int)).bind fun x3=>some x3) (qn s) (fun b=>by rw[show JD=qH from rfl,zzl];rfl) (fun K q=>rfl) h s 0 KK rfl (by omega) (km (by omega))];simp[xg]
theorem zKj{s:List UInt8}(h:s.length<4611686018427387904):JF s=some ((xg yw s:Nat):Int):=by
 unfold JF;rw[zb5,show((0:Int))=((0:Nat):Int) from rfl,Zn s yw (fun x2=>(qH ((x2.toNat:Nat):Int)).bind fun x3=>some x3) (qo s) (fun b=>by rw[zzl];rfl) (fun K q=>rfl) h s 0 KK rfl (by omega) (km (by omega))];simp[xg]
theorem zzm{s:List UInt8}(h:s.length<4611686018427387904):oS s=some ((xg yF s:Nat):Int):=by
 unfold oS;rw[zb5,show((0:Int))=((0:Nat):Int) from rfl,Zn s yF (fun x2=>(kS ((x2.toNat:Nat):Int)).bind fun x3=>some x3) (qp s) (fun b=>by rw[zh8];rfl) (fun K q=>rfl) h s 0 KK rfl (by omega) (km (by omega))];simp[xg]
theorem zsg{f:UInt8→Bool}{l:List UInt8}:xg f l=l.length↔l.all f=true:=by
 induction l with
 |nil=>simp[xg]
 |cons c l ih =>
  simp only[xg,List.takeWhile,List.all_cons]at ih ⊢
  cases f c with
  |false=>simp
  |true=>simp only[lc,Bool.true_and,← ih];omega
-- words
def WZ(s:List UInt8):Bool:=match s with
 |[]=>false
 |c::r=>ko c&&(decide (s.length≤20)&&r.all yw)
theorem zG6{s:List UInt8}(h:s.length<4611686018427387904):Va s=some (WZ s):=by
 unfold Va
 cases s with
 |nil=>rfl
 |cons c r =>
  rw[df (by simp),cf,show((0:Int))=((0:Nat):Int) from rfl,yv (x:=c) rfl,bsQ,Zl,bsQ,Vy,bsQ,zKj h,bsQ]
  have e:decide ((xg yw (c::r):Int)=(((c::r).length:Nat):Int))=(yw c&&r.all yw):=by
   rw[← List.all_cons,Bool.eq_iff_iff,decide_eq_true_iff,← zsg];omega
  rw[e,WZ]
  cases hc:ko c with
  |false=>simp
  |true =>
   have:yw c=true:=by rw[yw,hc];rfl
   rw[this];by_cases h20:(c::r).length≤20
   ·rw[dt h20,df (by omega)];simp
   ·rw[df h20,dt (by omega)];simp
theorem zD8(s:List UInt8)(hl:s.length<4611686018427387904):∀(r:List UInt8)(i K:Nat),s.drop i=r→i≤s.length→r.length<K→j9 s K (i:Int)=some (bif r.all yw then .inr ()else .inl false):=by
 intro r
 induction r with
 |nil =>
  intro i K hr hi hK
  obtain⟨K,rfl⟩:∃k,K=k+1:=⟨K-1,by omega⟩
  have:=drop_nil hr hi;rw[j9,df (by omega)];rfl
 |cons c r ih =>
  intro i K hr hi hK
  obtain⟨K,rfl⟩:∃k,K=k+1:=⟨K-1,by omega⟩
  obtain⟨h1,h2,h3⟩:=yA hr;simp only[lc]at hK;rw[j9,dt (by omega),ctQ,yv h1,bsQ,Zm,bsQ,bsQ,zb4,bsQ,List.all_cons,yw]
  cases hc:ko c with
  |true =>
   rw[Bool.not_true,cf,bsQ,cf,xL (by omega),ih (i+1) K h2 (by omega) (by omega)];rfl
  |false =>
   cases hd:yF c with
   |true =>
    rw[Bool.not_false,ctQ,bsQ,Bool.not_true,cf,xL (by omega),ih (i+1) K h2 (by omega) (by omega)];rfl
   |false=>rfl
theorem zQd{s:List UInt8}(h:s.length<4611686018427387904):Zb s=some (WZ s):=by
 unfold Zb
 cases s with
 |nil=>rfl
 |cons c r =>
  have e1:decide ((((c::r).length:Nat):Int)<1)=false:=df (by simp only[lc];omega);rw[e1,cf,show((0:Int))=((0:Nat):Int) from rfl,yv (x:=c) rfl,bsQ,Zm,bsQ,Vy,bsQ,WZ,show(1:Int)=((1:Nat):Int) from rfl];by_cases h20:(c::r).length≤20
  ·rw[dt h20,df (by omega),zD8 (c::r) h r 1 KK rfl (by simp) (km (by simp only[lc]at h20;omega))]
   cases ko c<;>cases r.all yw<;>rfl
  ·rw[df h20,dt (by omega)];simp
def vC(s:List UInt8):List (List UInt8)→Option Nat
 |[]=>none
 |x::r=>if x=s then some 0 else(vC s r).map (·+1)
def wy:Option Nat→Int
 |some i=>(i:Int)
 |none=>-1
theorem zD9(l:List (List UInt8))(s:List UInt8)(hl:l.length<4611686018427387904):∀(r:List (List UInt8))(i K:Nat),l.drop i=r→i≤l.length→r.length<K→ka l s K (i:Int)=some (match vC s r with|some j=>.inl ((i+j:Nat):Int)|none=>.inr ()):=by
 intro r
 induction r with
 |nil =>
  intro i K hr hi hK
  obtain⟨K,rfl⟩:∃k,K=k+1:=⟨K-1,by omega⟩
  have:=drop_nil hr hi;rw[ka,df (by omega)];rfl
 |cons c r ih =>
  intro i K hr hi hK
  obtain⟨K,rfl⟩:∃k,K=k+1:=⟨K-1,by omega⟩
  obtain⟨h1,h2,h3⟩:=yA hr;simp only[lc]at hK;rw[ka,dt (by omega),ctQ,yv h1,bsQ,vC];by_cases hc:c=s
  ·rw[dt hc,if_pos hc];rfl
  ·rw[df hc,if_neg hc,cf,xL (by omega),ih (i+1) K h2 (by omega) (by omega)]
   cases vC s r with
   |none=>rfl
   |some j=>simp only[Option.map_some];congr 3;omega
theorem zb6{l:List (List UInt8)}{s:List UInt8}(hl:l.length<4611686018427387904):kC l s=some (wy (vC s l)):=by
 unfold kC;rw[show((0:Int))=((0:Nat):Int) from rfl,zD9 l s hl l 0 KK rfl (by omega) (km (by omega))]
 cases vC s l with
 |none=>rfl
 |some j=>simp[xB,wy]
theorem zb7{s:List UInt8}:∀{l:List (List UInt8)},(vC s l).isSome=decide (s∈l)
 |[]=>by simp[vC]
 |x::r=>by
  rw[vC];by_cases h:x=s
  ·rw[if_pos h];simp[h]
  ·rw[if_neg h,Option.isSome_map,zb7]
   exact yn (by simp[Ne.symm h])
theorem zmg{s:List UInt8}:∀{l:List (List UInt8)}{i:Nat},vC s l=some i→l[i]?=some s
 |x::r,i,h=>by
  rw[vC]at h;split at h
  ·rename_i e;cases h;simp[e]
  ·obtain⟨j,h1,rfl⟩:=Option.map_eq_some_iff.1 h
   simpa using zmg h1
def RES:List (List UInt8):=[zoj,AA,Ke,zag,ql,vW,qm,Q7,AB,jW,zah,zDt,ow,ox,zJ7,xf,AD,Hs,oy,Wf,xG,Ht,AF,Q8,kP,HQ,wH]
def zzn(s:List UInt8):Bool:=WZ s&&!(decide (s∈RES))
def zpk:List (List UInt8)→List UInt8
 |[]=>[32]
 |w::r=>32::(w++zpk r)
theorem zEa:∀l,∃t,zpk l=32::t
 |[]=>⟨[],rfl⟩
 |w::r=>⟨_,rfl⟩
theorem zG7{t:List UInt8}:∀{s w:List UInt8},(∀b∈s,b≠32)→(∀b∈w,b≠32)→(s++[32]).isPrefixOf (w++32::t)=decide (s=w)
 |[],[],_,_=>by simp[List.isPrefixOf]
 |[],b::w,_,h=>by
  have:=h b (List.mem_cons_self ..);simp[List.isPrefixOf,Ne.symm this]
 |a::s,[],h,_=>by
  have:=h a (List.mem_cons_self ..);simp[List.isPrefixOf,this]
 |a::s,b::w,h,h'=>by
  have ih:=zG7 (t:=t) (s:=s) (w:=w) (fun x hx=>h x (mcQ _ hx)) (fun x hx=>h' x (mcQ _ hx));simp only[List.cons_append,List.isPrefixOf,ih];by_cases e:a=b
  ·subst e;simp
  ·simp[e]
theorem zsh{x y:List UInt8}:∀{w:List UInt8},(∀b∈w,b≠32)→HK (w++x) (32::y)=HK x (32::y)
 |[],_=>rfl
 |b::w,h=>by
  have h1:=h b (List.mem_cons_self ..);rw[List.cons_append,HK,zsh fun c hc=>h c (mcQ _ hc)];simp[List.isPrefixOf,Ne.symm h1]
theorem zmh{s:List UInt8}(hs:∀b∈s,b≠32):∀{l:List (List UInt8)},(∀w∈l,∀b∈w,b≠32)→HK (zpk l) (32::(s++[32]))=decide (s∈l)
 |[],_=>by cases s<;>simp[zpk,HK,List.isPrefixOf]
 |w::r,h=>by
  obtain⟨t,ht⟩:=zEa r;have hw:=h w (List.mem_cons_self ..);rw[zpk,HK,zsh hw,zmh hs fun x hx=>h x (mcQ _ hx)]
  have:(32::(s++[32])).isPrefixOf (32::(w++zpk r))=decide (s=w):=by
   rw[ht];simp only[List.isPrefixOf,beq_self_eq_true,Bool.true_and];exact zG7 hs hw
  rw[this];by_cases e:s=w
  ·simp[e]
  ·simp[e]
theorem zEb{c:UInt8}(h:yw c=true):c≠32:=by
 rintro rfl;revert h;decide
theorem zu1{s:List UInt8}(h:WZ s=true):s.all yw=true:=by
 cases s with
 |nil=>cases h
 |cons c r =>
  simp only[WZ,bn]at h;simp only[List.all_cons,yw,h.1,Bool.true_or,Bool.true_and];exact h.2.2
theorem zEc{s:List UInt8}(h:WZ s=true):s.length≤20∧s≠[]:=by
 cases s with
 |nil=>cases h
 |cons c r =>
  simp only[WZ,bn,decide_eq_true_eq]at h;exact⟨h.2.1,by simp⟩
theorem zmi{s:List UInt8}(h:s.length<4611686018427387904):HS s=some (zzn s):=by
 unfold HS zzn;rw[zG6 h,bsQ]
 cases hw:WZ s with
 |false=>rfl
 |true =>
  have h20:=(zEc hw).1
  have hs:∀b∈s,b≠32:=fun b hb=>zEb (List.all_eq_true.1 (zu1 hw) b hb)
  have e:=zmh hs (l:=RES) (by decide)
  have e2:zpk RES=zi:=by decide
  rw[e2]at e;rw[ctQ,zx (by simp[t__];omega),bsQ,zx (by simp[t__];omega),bsQ]
  have:JH zi ((t__++s)++t__)=some (decide (s∈RES)):=by
   unfold JH JC;rw[zx (by decide),bsQ,← e];rfl
  rw[this];rfl
theorem zmj{s:List UInt8}(h:s.length<4611686018427387904):Vj s=some (zzn s):=by
 unfold Vj zzn;rw[zQd h,bsQ]
 cases hw:WZ s with
 |false=>rfl
 |true =>
  rw[ctQ,show H9=some RES from rfl,bsQ,zb6 (by decide),bsQ,← zb7]
  cases vC s RES with
  |none=>rfl
  |some i =>
   simp only[Option.isSome_some,Bool.not_true,Bool.and_false];exact congrArg some (df (show ¬((i:Int)<0) by omega))
-- numerals
def zi3(c:UInt8):Nat:=c.toNat-48
def zEd:List UInt8→Nat→Nat
 |[],n=>n
 |c::r,n=>zEd r (10*n+zi3 c)
def Hk(n:Nat)(r:List UInt8):Nat:=zEd r n
theorem Ac(n:Nat)(c:UInt8)(r:List UInt8):Hk n (c::r)=Hk (10*n+zi3 c) r:=by simp only[Hk,zEd]
def zKk(s:List UInt8):Option Nat:=if s.all yF=true∧s≠[]∧(s.head?=some 48→s=[48])∧Hk 0 s≤1099511627776 then some (Hk 0 s)else none
def zMk(s:List UInt8):Int×Bool:=match zKk s with
 |some v=>((v:Int),true)
 |none=>(0,false)
theorem zpl:∀(r:List UInt8)(n:Nat),n*10 ^ r.length≤Hk n r
 |[],n=>by simp[Hk,zEd]
 |c::r,n=>by
  have:=zpl r (10*n+zi3 c);rw[Ac];refine Nat.le_trans ?_ this;rw[lc,Nat.pow_succ,Nat.mul_comm (10 ^ r.length) 10,← Nat.mul_assoc];exact Nat.mul_le_mul_right _ (by omega)
theorem zEe(r:List UInt8)(n:Nat):n≤Hk n r:=Nat.le_trans (Nat.le_mul_of_pos_right n (Nat.pow_pos (by omega))) (zpl r n)
theorem zh9{c:UInt8}(h:yF c=true):48≤c.toNat∧c.toNat≤57:=by
 simp only[yF,bn,decide_eq_true_eq]at h;exact h
theorem zKl(s:List UInt8)(hl:s.length≤13):∀(r:List UInt8)(i K n:Nat),s.drop i=r→i≤s.length→r.length<K→r.all yF=true→n<10 ^ i→w0 s (s.length:Int) K ((n:Int),(i:Int))=some ((Hk n r:Nat):Int):=by
 intro r
 induction r with
 |nil =>
  intro i K n hr hi hK hd hn
  obtain⟨K,rfl⟩:∃k,K=k+1:=⟨K-1,by omega⟩
  have:=drop_nil hr hi;rw[w0,df (show ¬((i:Int)<(s.length:Int)) by omega)];rfl
 |cons c r ih =>
  intro i K n hr hi hK hd hn
  obtain⟨K,rfl⟩:∃k,K=k+1:=⟨K-1,by omega⟩
  obtain⟨h1,h2,h3⟩:=yA hr;simp only[lc]at hK;simp only[List.all_cons,bn]at hd;have hc:=zh9 hd.1;have h13:10 ^ i≤10 ^ 12:=Nat.pow_le_pow_right (by omega) (by omega)
  have h13':(10:Nat) ^ 12=1000000000000:=by decide
  have hw:IntKind.u8.wrap (((c.toNat:Nat):Int)-48)=((zi3 c:Nat):Int):=by
   unfold IntKind.wrap zi3;simp only[IntKind.bits,IntKind.signed];simp;omega
  have hdv:zi3 c≤9:=by unfold zi3;omega
  rw[w0,dt (show((i:Int)<(s.length:Int)) by omega),ctQ,yv h1,bsQ,hw];simp only
  rw[xv (n:=10*(n:Int)) (by omega) (by omega),xv (n:=((zi3 c:Nat):Int)) (by omega) (by omega),xv (by omega) (by omega),xL (by omega),
   show(10*(n:Int)+((zi3 c:Nat):Int))=((10*n+zi3 c:Nat):Int) by omega]
  rw[ih (i+1) K _ h2 (by omega) (by omega) hd.2 (by rw[Nat.pow_succ];omega),Ac]
theorem zEf{s:List UInt8}(h:s.length<4611686018427387904):JG s=some (zMk s):=by
 unfold JG zMk zKk
 cases s with
 |nil=>rfl
 |cons c r =>
  have e1:decide ((c::r)=([]:List UInt8))=false:=by simp
  have e2:decide (((xg yF (c::r):Nat):Int)=(((c::r).length:Nat):Int))=(c::r).all yF:=by
   rw[Bool.eq_iff_iff,decide_eq_true_iff,← zsg];omega
  rw[e1,cf,zzm h,bsQ,e2]
  cases hd:(c::r).all yF with
  |false=>simp[hd]
  |true =>
   have e3:decide (((c.toNat:Nat):Int)=48)=decide (c=48):=yn ⟨fun h=>UInt8.toNat_inj.1 (by simpa using(by omega:c.toNat=48)),fun h=>by subst h;rfl⟩;rw[Bool.not_true,cf,show(0:Int)=((0:Nat):Int) from rfl,yv (x:=c) rfl,bsQ,e3];by_cases h48:c=48∧r≠[]
   ·obtain⟨rfl,hr⟩:=h48
    have:decide ((48::r)=t_0)=false:=df (by simp[t_0,hr]);rw[this];simp[hd,hr]
   ·have hv:((c::r).head?=some 48→(c::r)=[48]):=fun e=>by
     simp at e;subst e
     have:r=[]:=Classical.byContradiction fun hr=>h48 ⟨rfl,hr⟩
     rw[this]
    have e4:(bif decide (c=48)then(bif (!(decide ((c::r)=t_0)))then some true else some (decide ((((c::r).length:Nat):Int)>13)))else some (decide ((((c::r).length:Nat):Int)>13)))=some (decide (13<(c::r).length)):=by
     have e5:decide ((((c::r).length:Nat):Int)>13)=decide (13<(c::r).length):=yn (by omega);rw[e5];by_cases hc:c=48
     ·subst hc
      have:=hv rfl;rw[this];rfl
     ·rw[df hc,cf]
    rw[e4,bsQ];by_cases h13:13<(c::r).length
    ·rw[dt h13,ctQ]
     have hc:=zh9 (c:=c) (by simp only[List.all_cons,bn]at hd;exact hd.1)
     have hc2:c≠48:=fun e=>by
      subst e;rw[hv rfl]at h13;simp at h13
     have hc3:c.toNat≠48:=fun e=>hc2 (UInt8.toNat_inj.1 (by simpa using e))
     have hg:1099511627776<Hk 0 (c::r):=by
      rw[Ac];refine Nat.lt_of_lt_of_le ?_ (zpl r _);simp only[lc]at h13;have h1:10 ^ 13≤10 ^ r.length:=Nat.pow_le_pow_right (by omega) (by omega)
      have h2:1≤10*0+zi3 c:=by unfold zi3;omega
      have h3:=Nat.mul_le_mul h2 h1
      have h4:(10:Nat) ^ 13=10000000000000:=by decide
      omega
     rw[if_neg (fun hh=>by omega)]
    ·rw[df h13,cf,show((0:Nat):Int)=((0:Nat):Int) from rfl,zKl (c::r) (by omega) (c::r) 0 KK 0 rfl (by omega) (km (by omega)) hd (by omega),bsQ]
     have e6:decide (((Hk 0 (c::r):Nat):Int)>1099511627776)=!decide (Hk 0 (c::r)≤1099511627776):=by
      rw[← decide_not];exact yn (by omega)
     rw[e6];by_cases hg:Hk 0 (c::r)≤1099511627776
     ·rw[if_pos ⟨rfl,by simp,hv,hg⟩,dt hg];rfl
     ·rw[if_neg (fun hh=>hg hh.2.2.2),df hg];rfl
theorem zKm(s:List UInt8)(hl:s.length<4611686018427387904):∀(r:List UInt8)(i K n:Nat),s.drop i=r→i≤s.length→r.length<K→n≤10995116277769 →
  ∃x,ve s K ((n:Int),(i:Int))=some x∧((x=.inl (0,false)∧(r.all yF=false∨1099511627776<Hk n r))∨(x=.inr ((Hk n r:Nat):Int)∧r.all yF=true)):=by
 intro r
 induction r with
 |nil =>
  intro i K n hr hi hK hn
  obtain⟨K,rfl⟩:∃k,K=k+1:=⟨K-1,by omega⟩
  have:=drop_nil hr hi;rw[ve,df (show ¬((i:Int)<(s.length:Int)) by omega)];exact⟨_,rfl,.inr ⟨rfl,rfl⟩⟩
 |cons c r ih =>
  intro i K n hr hi hK hn
  obtain⟨K,rfl⟩:∃k,K=k+1:=⟨K-1,by omega⟩
  obtain⟨h1,h2,h3⟩:=yA hr;simp only[lc]at hK;rw[ve,dt (show((i:Int)<(s.length:Int)) by omega),ctQ,yv h1,bsQ,zb4,bsQ]
  cases hd:yF c with
  |false=>exact⟨_,rfl,.inl ⟨rfl,.inl (by simp[hd])⟩⟩
  |true =>
   have hc:=zh9 hd;rw[Bool.not_true,cf,bsQ];simp only;by_cases hg:n≤1099511627776
   ·rw[df (by omega),cf]
    simp only[yv h1,bsQ]
    have hdv:zi3 c≤9:=by unfold zi3;omega
    have e:w64 (w64 (w64 (10*(n:Int))+w64 ((c.toNat:Nat):Int))-48)=((10*n+zi3 c:Nat):Int):=by
     rw[xv (n:=10*(n:Int)) (by omega) (by omega),xv (n:=((c.toNat:Nat):Int)) (by omega) (by omega),xv (n:=10*(n:Int)+((c.toNat:Nat):Int)) (by omega) (by omega),xv (by omega) (by omega)];unfold zi3;omega
    rw[e,xL (by omega)];obtain⟨x,hx,hh⟩:=ih (i+1) K (10*n+zi3 c) h2 (by omega) (by omega) (by omega);refine⟨x,hx,?_⟩;simp only[List.all_cons,hd,Bool.true_and,Ac];exact hh
   ·rw[dt (by omega),ctQ]
    refine⟨_,rfl,.inl ⟨rfl,.inr ?_⟩⟩;rw[Ac];have:=zEe r (10*n+zi3 c);omega
theorem zEg{s:List UInt8}(h:s.length<4611686018427387904):JM s=some (zMk s):=by
 unfold JM zMk zKk;obtain⟨x,hx,hh⟩:=zKm s h s 0 KK 0 rfl (by omega) (km (by omega)) (by omega);rw[show((0:Int),(0:Int))=(((0:Nat):Int),((0:Nat):Int)) from rfl,hx,bsQ]
 rcases hh with⟨rfl,hd⟩|⟨rfl,hd⟩
 ·rw[if_neg (fun hh=>hd.elim (fun e=>by rw[e]at hh;exact absurd hh.1 (by decide)) (fun e=>absurd hh.2.2.2 (by omega)))]
  rfl
 ·simp only[xB]
  have e6:decide (((Hk 0 s:Nat):Int)>1099511627776)=!decide (Hk 0 s≤1099511627776):=by
   rw[← decide_not];exact yn (by omega)
  rw[e6]
  cases s with
  |nil=>rfl
  |cons c r =>
   have e1:decide ((((c::r).length:Nat):Int)<1)=false:=df (by simp only[lc];omega);have e3:decide (((c.toNat:Nat):Int)=48)=decide (c=48):=yn ⟨fun h=>UInt8.toNat_inj.1 (by simpa using(by omega:c.toNat=48)),fun h=>by subst h;rfl⟩;rw[e1,cf,show(0:Int)=((0:Nat):Int) from rfl,yv (x:=c) rfl,bsQ,e3]
   cases r with
   |nil =>
    have e2:decide ((([c].length:Nat):Int)>1)=false:=df (by simp);rw[e2,cf,bsQ];by_cases hg:Hk 0 [c]≤1099511627776
    ·rw[if_pos ⟨hd,by simp,fun e=>by simpa using e,hg⟩,dt hg];rfl
    ·rw[if_neg (fun hh=>hg hh.2.2.2),df hg];rfl
   |cons d r =>
    have e2:decide ((((c::d::r).length:Nat):Int)>1)=true:=dt (by simp only[lc];omega);rw[e2,ctQ];by_cases hc:c=48
    ·rw[dt hc,if_neg (fun hh=>by
      have:=hh.2.2.1 (by simp[hc])
      simp at this)]
     rfl
    ·rw[df hc,cf,bsQ]
     by_cases hg:Hk 0 (c::d::r)≤1099511627776
     ·rw[if_pos ⟨hd,by simp,fun e=>absurd (by simpa using e) hc,hg⟩,dt hg];rfl
     ·rw[if_neg (fun hh=>hg hh.2.2.2),df hg];rfl
def SG:List (List UInt8):=[jt,ju,yi,KB,uK,Q9,zam,zak,yT,zaj,zal,zai,HA,AG]
def zc8(s:List UInt8):Option (List UInt8):=SG.find? fun x=>x.isPrefixOf s
def tkS(s:List UInt8):Except Int (Int×List UInt8×Int):=match s with
 |[]=>.error 13
 |c::_=>if ko c then(if(s.takeWhile yw).length≤20 then .ok (0,s.takeWhile yw,0)else .error 15)
  else if yF c then(match zKk (s.takeWhile yF)with|some v=>.ok (1,s.takeWhile yF,(v:Int))|none=>.error 3)
  else match zc8 s with|some t=>.ok (2,t,0)|none=>.error 13
def tokR:Except Int (Int×List UInt8×Int)→Int×Int×List UInt8×Int×Int
 |.ok (k,t,n)=>(0,k,t,n,0)
 |.error e=>(e,0,[],0,0)
theorem Ji(f:UInt8→Bool)(s:List UInt8):s.take (xg f s)=s.takeWhile f:=by
 induction s with
 |nil=>rfl
 |cons c s ih =>
  simp only[xg,List.takeWhile]at ih ⊢
  cases f c with
  |false=>rfl
  |true=>simp only[lc,List.take_succ_cons,ih]
theorem Vz(f:UInt8→Bool)(s:List UInt8):s.drop (xg f s)=s.dropWhile f:=by
 induction s with
 |nil=>rfl
 |cons c s ih =>
  simp only[xg,List.takeWhile,List.dropWhile]at ih ⊢
  cases f c with
  |false=>rfl
  |true=>simp only[lc,List.drop_succ_cons,ih]
theorem zEh(f:UInt8→Bool)(s:List UInt8):(s.takeWhile f).all f=true:=by
 induction s with
 |nil=>rfl
 |cons c s ih =>
  simp only[List.takeWhile]
  cases h:f c with
  |false=>rfl
  |true=>simp[h,ih]
theorem zzo{c:UInt8}{r:List UInt8}(hc:ko c=true):WZ ((c::r).takeWhile yw)=decide (((c::r).takeWhile yw).length≤20):=by
 have h:=zEh yw (c::r)
 have ha:yw c=true:=by rw[yw,hc];rfl
 simp only[List.takeWhile,ha]at h ⊢;simp only[List.all_cons,ha,Bool.true_and]at h;rw[WZ,hc,h];simp
theorem zQe(s:List UInt8):∀(r:List (List UInt8))(i K:Nat),SG.drop i=r→i≤14→r.length<K→jY s jt ju yi KB uK Q9 zam zak yT zaj zal zai HA AG 0 ([]:List UInt8) K (i:Int)=some (match r.find? fun x=>x.isPrefixOf s with|some t=>.inl (0,2,t,0,0)|none=>.inr ()):=by
 intro r
 induction r with
 |nil =>
  intro i K hr hi hK
  obtain⟨K,rfl⟩:∃k,K=k+1:=⟨K-1,by omega⟩
  have:=drop_nil hr hi;have:i=14:=this;rw[jY,df (by omega)];rfl
 |cons c r ih =>
  intro i K hr hi hK
  obtain⟨K,rfl⟩:∃k,K=k+1:=⟨K-1,by omega⟩
  obtain⟨h1,h2,h3⟩:=yA hr;have h3:i<14:=h3;simp only[lc]at hK;have hx:idx (α:=List UInt8) ([jt,ju,yi,KB,uK,Q9,zam,zak,yT,zaj,zal,zai,HA,AG]:List (List UInt8)) (i:Int)=some c:=yv h1;rw[jY,dt (by omega),ctQ,hx,bsQ,show KC s c=some (c.isPrefixOf s) from rfl,bsQ,List.find?_cons]
  cases c.isPrefixOf s with
  |true=>rfl
  |false=>rw[cf,xL (by omega),ih (i+1) K h2 (by omega) (by omega)]
theorem zEi{c:UInt8}{r:List UInt8}:idx (c::r) 0=some c:=yv (i:=0) rfl
theorem zsi{α:Type}{l:List α}{b:Nat}(h:b≤l.length):cut l 0 (b:Int)=some (l.take b):=zzk (a:=0) (Nat.zero_le _) h
theorem Jj(c:UInt8)(r:List UInt8):tkS (c::r)=(if ko c then(if((c::r).takeWhile yw).length≤20 then .ok (0,(c::r).takeWhile yw,0)else .error 15)
  else if yF c then(match zKk ((c::r).takeWhile yF)with|some v=>.ok (1,(c::r).takeWhile yF,(v:Int))|none=>.error 3)
  else match zc8 (c::r)with|some t=>.ok (2,t,0)|none=>.error 13):=rfl
theorem zQf{s:List UInt8}(h:s.length<4611686018427387904)(h0:s≠[]):Y8 s=some (tokR (tkS s)):=by
 cases s with
 |nil=>exact absurd rfl h0
 |cons c r =>
  unfold Y8;rw[Jj,zEi,bsQ,Zl,bsQ]
  cases hc:ko c with
  |true =>
   rw[ctQ,zKi h,bsQ,zsi (uD _ _),bsQ,Ji];have ht:((c::r).takeWhile yw).length<4611686018427387904:=Nat.lt_of_le_of_lt (uD yw _) h;rw[zG6 ht,bsQ,zzo hc,if_pos rfl];by_cases h20:((c::r).takeWhile yw).length≤20
   ·rw[dt h20,if_pos h20];rfl
   ·rw[df h20,if_neg h20];rfl
  |false =>
   rw[cf,bsQ,zh8,bsQ,if_neg (by simp)]
   cases hd:yF c with
   |true =>
    rw[ctQ,zzm h,bsQ,zsi (uD _ _),bsQ,Ji];have ht:((c::r).takeWhile yF).length<4611686018427387904:=Nat.lt_of_le_of_lt (uD yF _) h;rw[zEf ht,bsQ,zMk,if_pos rfl]
    cases zKk ((c::r).takeWhile yF)with
    |none=>rfl
    |some v=>rfl
   |false =>
    rw[cf,if_neg (by simp)];have:=zQe (c::r) SG 0 KK rfl (by omega) (km (by decide));rw[show(((0:Nat):Int))=(0:Int) from rfl]at this;rw[this,zc8]
    cases SG.find? fun x=>x.isPrefixOf (c::r)with
    |none=>rfl
    |some t=>rfl
-- the reference
theorem zmk(l:List UInt8)(f:UInt8→Bool)(F:Nat→Int→Option Int)(h1:∀(K i:Nat)(b:UInt8),l[i]?=some b→F (K+1) (i:Int)=bif f b then F K (w64 ((i:Int)+1))else some (i:Int))
  (h2:∀K,F (K+1) (l.length:Int)=some (l.length:Int)) (hl:l.length<4611686018427387904):
  ∀(r:List UInt8)(i K:Nat),l.drop i=r→i≤l.length→r.length<K→F K (i:Int)=some ((i+(r.takeWhile f).length:Nat):Int):=by
 intro r
 induction r with
 |nil =>
  intro i K hr hi hK
  obtain⟨K,rfl⟩:∃k,K=k+1:=⟨K-1,by omega⟩
  rw[drop_nil hr hi,h2];simp
 |cons c r ih =>
  intro i K hr hi hK
  obtain⟨K,rfl⟩:∃k,K=k+1:=⟨K-1,by omega⟩
  obtain⟨g1,g2,g3⟩:=yA hr;simp only[lc]at hK;rw[h1 K i c g1]
  cases hc:f c with
  |false=>simp[List.takeWhile,hc]
  |true =>
   rw[ctQ,xL (by omega),ih (i+1) K g2 (by omega) (by omega)];simp only[List.takeWhile,hc,lc]
   congr 2;omega
theorem zQg(s:List UInt8)(a b:Int)(d:List UInt8)(h:s.length<4611686018427387904){r:List UInt8}{i:Nat}(hr:s.drop i=r)(hi:i≤s.length):wL s a b d KK (i:Int)=some ((i+xg yw r:Nat):Int) :=
 zmk s yw (wL s a b d) (fun K i x hx=>by
  have:=(List.getElem?_eq_some_iff.1 hx).1
  rw[wL,dt (by omega),ctQ,yv hx,bsQ,Zm,bsQ,bsQ,zb4,bsQ,Vy,bsQ];rfl)
  (fun K=>by rw[wL,df (by omega)];rfl) h r i KK hr hi (km (by have:=congrArg List.length hr;simp at this;omega))
theorem zQh(s:List UInt8)(a b:Int)(d:List UInt8)(h:s.length<4611686018427387904){r:List UInt8}{i:Nat}(hr:s.drop i=r)(hi:i≤s.length):wM s a b d KK (i:Int)=some ((i+xg yF r:Nat):Int) :=
 zmk s yF (wM s a b d) (fun K i x hx=>by
  have:=(List.getElem?_eq_some_iff.1 hx).1
  rw[wM,dt (by omega),ctQ,yv hx,bsQ,zb4,bsQ,bsQ])
  (fun K=>by rw[wM,df (by omega)];rfl) h r i KK hr hi (km (by have:=congrArg List.length hr;simp at this;omega))
def ONE:List UInt8:=zF
theorem zKn(s:List UInt8)(at_:Nat){c:UInt8}(hc:s[at_]?=some c):∀(r:List UInt8)(i K:Nat),ONE.drop i=r→i≤12→r.length<K→j8 s (at_:Int) ONE K (i:Int)=some (bif r.contains c then .inl 1 else .inr ()):=by
 intro r
 induction r with
 |nil =>
  intro i K hr hi hK
  obtain⟨K,rfl⟩:∃k,K=k+1:=⟨K-1,by omega⟩
  have:=drop_nil hr hi;have:i=12:=this;rw[j8,df (show ¬((i:Int)<((ONE.length:Nat):Int)) by simp[ONE,zF];omega)];rfl
 |cons d r ih =>
  intro i K hr hi hK
  obtain⟨K,rfl⟩:∃k,K=k+1:=⟨K-1,by omega⟩
  obtain⟨h1,h2,h3⟩:=yA hr;have h3:i<12:=h3;simp only[lc]at hK
  have e3:decide (((c.toNat:Nat):Int)=((d.toNat:Nat):Int))=(c==d):=by
   rw[Bool.eq_iff_iff,decide_eq_true_iff,beq_iff_eq];exact⟨fun h=>UInt8.toNat_inj.1 (by omega),fun h=>by rw[h]⟩
  rw[j8,dt (show((i:Int)<((ONE.length:Nat):Int)) by simp[ONE,zF];omega),ctQ,yv hc,bsQ,yv h1,bsQ,e3,List.contains_cons]
  cases c==d with
  |true=>rfl
  |false=>rw[cf,xL (by omega),ih (i+1) K h2 (by omega) (by omega),Bool.false_or]
theorem toNat_eq{c:UInt8}(n:Nat)(hn:n<256):decide (((c.toNat:Nat):Int)=(n:Int))=decide (c=UInt8.ofNat n):=yn ⟨fun h=>UInt8.toNat_inj.1 (by rw[UInt8.toNat_ofNat'];omega),fun h=>by rw[h,UInt8.toNat_ofNat'];omega⟩
theorem SG_hd:∀x∈SG,∃a t,x=a::t∧a∈ONE:=by
 intro x hx;simp only[SG,List.mem_cons,List.mem_nil_iff,or_false]at hx
 rcases hx with rfl|rfl|rfl|rfl|rfl|rfl|rfl|rfl|rfl|rfl|rfl|rfl|rfl|rfl<;>exact⟨_,_,rfl,by decide⟩
theorem zu2{c:UInt8}{r:List UInt8}(h:c ∉ ONE):zc8 (c::r)=none:=by
 rw[zc8,List.find?_eq_none];intro x hx hp;obtain⟨a,t,rfl,ha⟩:=SG_hd x hx;simp only[List.isPrefixOf,bn,beq_iff_eq]at hp;exact h (hp.1▸ha)
theorem zia{c:UInt8}{r:List UInt8}:zc8 (c::r)=if r.head?=some 61∧(c=60∨c=61)then some [c,61]else if c∈ONE then some [c]else none:=by
 by_cases h:c∈ONE
 ·rw[if_pos h]
  simp only[ONE,zF,List.mem_cons,List.mem_nil_iff,or_false]at h
  cases r with
  |nil=>rcases h with rfl|rfl|rfl|rfl|rfl|rfl|rfl|rfl|rfl|rfl|rfl|rfl<;>rfl
  |cons d r =>
   by_cases hd:d=61
   ·subst hd
    rcases h with rfl|rfl|rfl|rfl|rfl|rfl|rfl|rfl|rfl|rfl|rfl|rfl<;>simp[zc8,SG,List.find?,List.isPrefixOf,jt,ju,yi,KB,uK,Q9,zam,zak,yT,zaj,zal,zai,HA,AG]
   ·have hd2:((61:UInt8)==d)=false:=by simp[Ne.symm hd]
    rcases h with rfl|rfl|rfl|rfl|rfl|rfl|rfl|rfl|rfl|rfl|rfl|rfl<;>simp[zc8,SG,List.find?,List.isPrefixOf,jt,ju,yi,KB,uK,Q9,zam,zak,yT,zaj,zal,zai,HA,AG,hd,hd2]
 ·rw[zu2 h,if_neg (fun hh=>h (by rcases hh.2 with rfl|rfl<;>decide)),if_neg h]
def zzp(o:Option (List UInt8)):Nat:=match o with|some t=>t.length|none=>0
theorem zQi{s:List UInt8}{i:Nat}{c:UInt8}{r:List UInt8}(h:s.length<4611686018427387904)(hr:s.drop i=c::r):Za s (i:Int)=some ((zzp (zc8 (c::r)):Nat):Int):=by
 obtain⟨h1,h2,h3⟩:=yA hr;have hc60:=toNat_eq (c:=c) 60 (by omega);have hc61:=toNat_eq (c:=c) 61 (by omega)
 have hcond:((bif (decide ((w64 ((i:Int)+1))<((List.length s:Nat):Int)))then(idx s (w64 ((i:Int)+1))).bind fun x2=>(bif (decide (((x2.toNat:Nat):Int)=61))then(idx s (i:Int)).bind fun x3=>(bif (decide (((x3.toNat:Nat):Int)=60))then some true else(idx s (i:Int)).bind fun x4=>some (decide (((x4.toNat:Nat):Int)=61)))else some false)else some false))=some (decide (r.head?=some 61∧(c=60∨c=61))):=by
  rw[xL (by omega)]
  cases r with
  |nil =>
   have:=drop_nil h2 (by omega);rw[df (by omega)];simp
  |cons d r =>
   obtain⟨g1,g2,g3⟩:=yA h2;have hd61:=toNat_eq (c:=d) 61 (by omega);rw[dt (by omega),ctQ,yv g1,bsQ,yv h1,bsQ,bsQ];rw[show((61:Nat):Int)=61 from rfl]at hd61 hc61;rw[show((60:Nat):Int)=60 from rfl]at hc60;rw[hd61,hc60,hc61,Vy];by_cases e1:d=61
   ·subst e1
    by_cases e2:c=60
    ·subst e2;rfl
    ·by_cases e3:c=61
     ·subst e3;rfl
     ·simp[e2,e3]
   ·simp[e1]
 unfold Za;rw[hcond,bsQ,zia];by_cases hh:r.head?=some 61∧(c=60∨c=61)
 ·rw[dt hh,if_pos hh];rfl
 ·have:=zKn s i h1 ONE 0 KK rfl (by omega) (km (by decide))
  rw[show(((0:Nat):Int))=(0:Int) from rfl]at this;rw[df hh,cf,if_neg hh,show zF=ONE from rfl,this];by_cases hm:c∈ONE
  ·rw[if_pos hm,List.contains_iff_mem.2 hm];rfl
  ·rw[if_neg hm,Bool.eq_false_iff.2 (fun e=>hm (List.contains_iff_mem.1 e))];rfl
def tokP(p:Int):Except Int (Int×List UInt8×Int)→Int×Int×List UInt8×Int×Int
 |.ok (k,t,n)=>(0,k,t,n,p)
 |.error e=>(e,0,[],0,0)
theorem takeWhile_cons{f:UInt8→Bool}{c:UInt8}{r:List UInt8}(h:f c=true):(c::r).takeWhile f=c::r.takeWhile f:=by simp[List.takeWhile,h]
theorem zib{s:List UInt8}{i k:Nat}{r:List UInt8}(hr:s.drop i=r)(hk:k≤r.length)(hi:i≤s.length):cut s (i:Int) ((i+k:Nat):Int)=some (r.take k):=by
 have hl:=congrArg List.length hr;simp only[List.length_drop]at hl;rw[zzk (by omega) (by omega),← hr,List.drop_take]
 congr 2;omega
theorem zKo{s:List UInt8}{i:Nat}{c:UInt8}{r:List UInt8}(h:s.length<4611686018427387904)(hr:s.drop i=c::r):H8 s (i:Int)=some (tokP (i:Int) (tkS (c::r))):=by
 obtain⟨h1,h2,h3⟩:=yA hr;unfold H8;rw[Jj,yv h1,bsQ,Zm,bsQ,xL (by omega)]
 have hsp:∀f,xg f r≤r.length:=fun f=>uD f r
 have hlr:=congrArg List.length hr;simp only[List.length_drop,lc]at hlr
 cases hc:ko c with
 |true =>
  have ha:yw c=true:=by rw[yw,hc];rfl
  rw[ctQ,zQg s _ _ _ h h2 (by omega),bsQ,if_pos rfl,takeWhile_cons ha];have hs:=hsp yw
  have e1:w64 (((i+1+xg yw r:Nat):Int)-(i:Int))=((xg yw r+1:Nat):Int):=by rw[xv (by omega) (by omega)];omega
  rw[e1,show i+1+xg yw r=i+(xg yw r+1) by omega,zib hr (by simp only[lc];omega) (by omega),List.take_succ_cons,Ji,lc,show(r.takeWhile yw).length=xg yw r from rfl];by_cases h20:xg yw r+1≤20
  ·rw[df (by omega),if_pos h20];rfl
  ·rw[dt (by omega),if_neg h20];rfl
 |false =>
  rw[cf,bsQ,zb4,bsQ,if_neg (by simp)]
  cases hd:yF c with
  |true =>
   have hs:=hsp yF;rw[ctQ,zQh s _ _ _ h h2 (by omega),bsQ,if_pos rfl,takeWhile_cons hd]
   have hct:cut s (i:Int) ((i+1+xg yF r:Nat):Int)=some (c::r.takeWhile yF):=by
    rw[show i+1+xg yF r=i+(xg yF r+1) by omega,zib hr (by simp only[lc];omega) (by omega),List.take_succ_cons,Ji]
   have hlen:(c::r.takeWhile yF).length<4611686018427387904:=by
    rw[lc,show(r.takeWhile yF).length=xg yF r from rfl];omega
   rw[hct,bsQ,zEg hlen,bsQ,zMk]
   cases zKk (c::r.takeWhile yF)with
   |none=>rfl
   |some v=>rfl
  |false =>
   rw[cf,zQi h hr,bsQ,if_neg (by simp)]
   cases hsg:zc8 (c::r)with
   |none=>rfl
   |some t =>
    rw[zia]at hsg
    have e2:∃k,k≤r.length+1∧t=(c::r).take k∧0<k∧k≤2:=by
     split at hsg
     ·rename_i hh
      cases hsg
      cases r with
      |nil=>simp at hh
      |cons d r =>
       have:d=61:=by simpa using hh.1
       exact⟨2,by simp,by simp[this],by omega,by omega⟩
     ·split at hsg
      ·cases hsg;exact⟨1,by omega,by simp,by omega,by omega⟩
      ·cases hsg
    obtain⟨k,k1,rfl,k2,k3⟩:=e2
    have e3:((c::r).take k).length=k:=by rw[List.length_take,lc];omega
    have e4:w64 ((i:Int)+((k:Nat):Int))=((i+k:Nat):Int):=by rw[xv (by omega) (by omega)];rfl
    simp only[zzp,e3];rw[df (by omega),cf,e4,zib hr (by simp only[lc];omega) (by omega)];rfl
def zpm(p:Nat):Token:=Token.mk 3 [] 0 (p:Int)
def Zo:Nat→Nat→List UInt8→Except (Nat×Int) (List Token)
 |0,p,_=>.ok [zpm p]
 |n+1,p,s=>match s.dropWhile yJ with
  |[]=>.ok [zpm (p+xg yJ s)]
  |c::r=>match tkS (c::r)with
   |.error e=>.error (p+xg yJ s,e)
   |.ok (k,t,v)=>match Zo n (p+xg yJ s+t.length) ((c::r).drop t.length)with
    |.error e=>.error e
    |.ok l=>.ok (Token.mk k t v ((p+xg yJ s:Nat):Int)::l)
def zzq(s:List UInt8):Except (Nat×Int) (List Token):=Zo (s.length+1) 0 s
def zzr:Except (Nat×Int) (List Token)→List Token×Int×Int
 |.ok l=>(l,0,0)
 |.error (p,e)=>([],(p:Int),e)
theorem zic{s t:List UInt8}{k n:Int}(h:tkS s=.ok (k,t,n)):t≠[]∧t=s.take t.length∧t.length≤s.length:=by
 have fin:∀{c:UInt8}{r:List UInt8}{f:UInt8→Bool},f c=true→(c::r).takeWhile f≠[]∧(c::r).takeWhile f=(c::r).take ((c::r).takeWhile f).length∧((c::r).takeWhile f).length≤(c::r).length:=fun{c r f} hc=>by
  refine⟨by simp[takeWhile_cons hc],?_,uD f _⟩;exact(Ji f (c::r)).symm
 cases s with
 |nil=>cases h
 |cons c r =>
  rw[Jj]at h;split at h
  ·rename_i hc
   split at h
   ·cases h
    exact fin (by rw[yw,hc];rfl)
   ·cases h
  ·split at h
   ·rename_i hd
    split at h
    ·cases h;exact fin hd
    ·cases h
   ·split at h
    ·rename_i hs
     cases h;rw[zia]at hs;split at hs
     ·rename_i hh
      cases hs
      cases r with
      |nil=>simp at hh
      |cons d r =>
       have:d=61:=by simpa using hh.1
       subst this;exact⟨by simp,rfl,by simp⟩
     ·split at hs
      ·cases hs;exact⟨by simp,rfl,by simp⟩
      ·cases hs
    ·cases h
theorem zid{s:List UInt8}{e:Int}(h:tkS s=.error e):e≠0:=by
 cases s with
 |nil=>cases h;decide
 |cons c r =>
  rw[Jj]at h;split at h
  ·split at h
   ·cases h
   ·cases h;decide
  ·split at h
   ·split at h
    ·cases h
    ·cases h;decide
   ·split at h
    ·cases h
    ·cases h;decide
theorem zKp(s0:List UInt8)(hs:s0.length≤8000):∀(n i K:Nat)(out:List Token),i≤s0.length→s0.length-i<n→n≤K→out.length≤i→qI s0 K ((i:Int),out)=some (.inl (match Zo n i (s0.drop i)with|.ok l=>(out++l,0,0)|.error (p,e)=>([],(p:Int),e))):=by
 intro n
 induction n with
 |zero=>intro i K out hi hn;omega
 |succ n ih =>
  intro i K out hi hn hK ho
  obtain⟨K,rfl⟩:∃k,K=k+1:=⟨K-1,by omega⟩
  have hl:(s0.drop i).length=s0.length-i:=List.length_drop;have hsp:=uD yJ (s0.drop i)
  have e1:w64 ((i:Int)+((xg yJ (s0.drop i):Nat):Int))=((i+xg yJ (s0.drop i):Nat):Int):=by rw[xv (by omega) (by omega)];rfl
  rw[qI,Zo];simp only;rw[zsf hi,bsQ,zQc (by omega),bsQ,e1]
  cases hd:(s0.drop i).dropWhile yJ with
  |nil =>
   have h1:=Vz yJ (s0.drop i);rw[hd]at h1;have h2:=drop_nil h1 (uD _ _);rw[dt (by omega),ctQ,zx (by simp only[la,lc,List.length_nil];omega),bsQ];rfl
  |cons c r =>
   have h1:=Vz yJ (s0.drop i);rw[hd,List.drop_drop]at h1;obtain⟨g1,g2,g3⟩:=yA h1;rw[df (by omega),cf,zsf (by omega),bsQ,h1,zQf (by rw[← h1,List.length_drop];omega) (by simp),bsQ];dsimp only
   cases ht:tkS (c::r)with
   |error e =>
    have he:=zid ht;simp only[tokR,he,decide_false,Bool.not_false,ctQ]
   |ok x =>
    obtain⟨k,t,v⟩:=x;obtain⟨t1,t2,t3⟩:=zic ht;have t4:0<t.length:=List.length_pos_iff.2 t1;have t5:=congrArg List.length h1;simp only[List.length_drop]at t5;change (bif (!(decide ((0:Int)=0)))then some _ else(grd (List.length (out++([(Token.mk k t v (((i+xg yJ (s0.drop i):Nat):Int)))]:List Token))*40≤140737488355328)).bind fun _=>qI s0 K (w64 (((i+xg yJ (s0.drop i):Nat):Int)+((t.length:Nat):Int)),out++([(Token.mk k t v (((i+xg yJ (s0.drop i):Nat):Int)))]:List Token)))=_;rw[dt rfl,Bool.not_true,cf,zx (by simp only[la,lc,List.length_nil];omega),bsQ]
    have e2:w64 (((i+xg yJ (s0.drop i):Nat):Int)+((t.length:Nat):Int))=((i+xg yJ (s0.drop i)+t.length:Nat):Int):=by rw[xv (by omega) (by omega)];rfl
    rw[e2,ih (i+xg yJ (s0.drop i)+t.length) K _ (by omega) (by omega) (by omega) (by simp only[la,lc,List.length_nil];omega),← List.drop_drop,h1];dsimp only
    cases hx:Zo n (i+xg yJ (s0.drop i)+t.length) ((c::r).drop t.length)with
    |error e=>rfl
    |ok l=>simp
theorem zQj{s:List UInt8}(h:s.length≤8000):zan s=some (zzr (zzq s)):=by
 unfold zan;have:=zKp s h (s.length+1) 0 KK [] (by omega) (by omega) (by have:=km (n:=s.length) (by omega);omega) (by simp);rw[show(((0:Nat):Int))=(0:Int) from rfl]at this;rw[df (by omega),cf,this,List.drop_zero,zzq]
 cases Zo (s.length+1) 0 s with
 |error e=>rfl
 |ok l=>rfl
theorem zu3{c:UInt8}{r:List UInt8}(hc:yJ c=true)(n p:Nat):Zo (n+1) p (c::r)=Zo (n+1) (p+1) r:=by
 have e1:(c::r).dropWhile yJ=r.dropWhile yJ:=by simp[List.dropWhile,hc]
 have e2:p+xg yJ (c::r)=p+1+xg yJ r:=by simp only[xg,takeWhile_cons hc,lc];omega
 rw[Zo,Zo,e1,e2]
theorem zzs{c:UInt8}{r:List UInt8}(hc:yJ c=false)(n p:Nat):Zo (n+1) p (c::r)=match tkS (c::r)with
   |.error e=>.error (p,e)
   |.ok (k,t,v)=>match Zo n (p+t.length) ((c::r).drop t.length)with
    |.error e=>.error e
    |.ok l=>.ok (Token.mk k t v (p:Int)::l):=by
 have e1:(c::r).dropWhile yJ=c::r:=by simp[List.dropWhile,hc]
 have e2:xg yJ (c::r)=0:=by simp[xg,List.takeWhile,hc]
 rw[Zo,e1,e2];rfl
theorem zKq(s0:List UInt8)(hs:s0.length≤8000):∀(m i K n:Nat)(out:List Token),i≤s0.length→s0.length-i=m→m<n→m<K→out.length≤i →
  match Zo n i (s0.drop i)with
  |.ok l=>∃b,l=b++[zpm s0.length]∧xm s0 K ((i:Int),out)=some (.inr (out++b))∧out.length+b.length≤s0.length
  |.error (p,e)=>xm s0 K ((i:Int),out)=some (.inl ([],(p:Int),e)):=by
 intro m
 induction m using Nat.strongRecOn with
 |ind m ih =>
  intro i K n out hi hm hn hK ho
  obtain⟨K,rfl⟩:∃k,K=k+1:=⟨K-1,by omega⟩
  obtain⟨n,rfl⟩:∃k,n=k+1:=⟨n-1,by omega⟩
  cases hd:s0.drop i with
  |nil =>
   have h1:=drop_nil hd hi;rw[Zo];simp only[List.dropWhile];refine⟨[],by simp[xg,h1,zpm],?_,by simp;omega⟩;rw[xm];simp only;rw[df (by omega),cf,List.append_nil]
  |cons c r =>
   obtain⟨g1,g2,g3⟩:=yA hd
   have hstep:xm s0 (K+1) ((i:Int),out)=(bif yJ c then xm s0 K (((i+1:Nat):Int),out)else(H8 s0 (i:Int)).bind fun x3=>(bif (!(decide (x3.1=0)))then some (Sum.inl ([],(i:Int),x3.1))else(grd (List.length (out++([(Token.mk x3.2.1 x3.2.2.1 x3.2.2.2.1 x3.2.2.2.2)]:List Token))*40≤140737488355328)).bind fun _=>xm s0 K ((w64 ((i:Int)+((List.length x3.2.2.1:Nat):Int))),(out++([(Token.mk x3.2.1 x3.2.2.1 x3.2.2.2.1 x3.2.2.2.2)]:List Token))))):=by
    rw[xm];simp only;rw[dt (by omega),ctQ,yv g1,bsQ,zKh,bsQ,xL (by omega)]
   rw[hstep]
   cases hb:yJ c with
   |true =>
    rw[zu3 hb,ctQ,← g2];exact ih (m-1) (by omega) (i+1) K (n+1) out (by omega) (by omega) (by omega) (by omega) (by omega)
   |false =>
    rw[zzs hb,cf,zKo (by omega) hd,bsQ]
    cases ht:tkS (c::r)with
    |error e =>
     have he:=zid ht;simp only[tokP,he,decide_false,Bool.not_false,ctQ]
    |ok x =>
     obtain⟨k,t,v⟩:=x;obtain⟨t1,t2,t3⟩:=zic ht;have t4:0<t.length:=List.length_pos_iff.2 t1;have t5:=congrArg List.length hd;simp only[List.length_drop]at t5
     have e2:w64 ((i:Int)+((t.length:Nat):Int))=((i+t.length:Nat):Int):=by rw[xv (by omega) (by omega)];rfl
     have:=ih (s0.length-(i+t.length)) (by omega) (i+t.length) K n (out++[Token.mk k t v (i:Int)]) (by omega) rfl (by omega) (by omega) (by simp only[la,lc,List.length_nil];omega);rw[← List.drop_drop,hd]at this
     change match (match Zo n (i+t.length) ((c::r).drop t.length)with|.error e=>Except.error e|.ok l=>.ok (Token.mk k t v (i:Int)::l))with
      |.ok l=>∃b,l=b++[zpm s0.length]∧(bif (!(decide ((0:Int)=0)))then some (Sum.inl ([],(i:Int),(0:Int)))else(grd (List.length (out++([(Token.mk k t v (i:Int))]:List Token))*40≤140737488355328)).bind fun _=>xm s0 K (w64 ((i:Int)+((t.length:Nat):Int)),out++([(Token.mk k t v (i:Int))]:List Token)))=some (.inr (out++b))∧out.length+b.length≤s0.length
      |.error (p,e)=>(bif (!(decide ((0:Int)=0)))then some (Sum.inl ([],(i:Int),(0:Int)))else(grd (List.length (out++([(Token.mk k t v (i:Int))]:List Token))*40≤140737488355328)).bind fun _=>xm s0 K (w64 ((i:Int)+((t.length:Nat):Int)),out++([(Token.mk k t v (i:Int))]:List Token)))=some (.inl ([],(p:Int),e))
     rw[dt rfl,Bool.not_true,cf,zx (by simp only[la,lc,List.length_nil];omega),bsQ,e2]
     cases hx:Zo n (i+t.length) ((c::r).drop t.length)with
     |error e =>
      rw[hx]at this;exact this
     |ok l =>
      rw[hx]at this;obtain⟨b,rfl,h2,h3⟩:=this;refine⟨Token.mk k t v (i:Int)::b,rfl,?_,?_⟩
      ·rw[h2];simp
      ·simp only[la,lc,List.length_nil]at h3 ⊢;omega
theorem zQk{s:List UInt8}(h:s.length≤8000):zau s=some (zzr (zzq s)):=by
 unfold zau;have:=zKq s h s.length 0 KK (s.length+1) [] (by omega) (by omega) (by omega) (km (by omega)) (by simp);rw[List.drop_zero]at this;rw[df (by omega),cf,zzq]
 cases hx:Zo (s.length+1) 0 s with
 |error e =>
  rw[hx]at this;rw[show(((0:Nat):Int))=(0:Int) from rfl]at this;rw[this];rfl
 |ok l =>
  rw[hx]at this;obtain⟨b,rfl,h2,h3⟩:=this;rw[show(((0:Nat):Int))=(0:Int) from rfl]at h2;rw[h2];simp only[bsQ,xB,List.nil_append,zzr];rw[zx (by simp only[la,lc,List.length_nil,List.nil_append]at h3 ⊢;omega),bsQ];rfl
theorem zEj:∀(n p:Nat)(s:List UInt8)(l:List Token),s.length<n→Zo n p s=.ok l→∃b,l=b++[zpm (p+s.length)]∧∀t∈b,t.Kind≠3∧t.Text.length≤s.length:=by
 intro n
 induction n with
 |zero=>intro p s l hn;omega
 |succ n ih =>
  intro p s l hn h;rw[Zo]at h;have hsp:=uD yJ s;have hds:=Vz yJ s;split at h
  ·rename_i hd
   cases h;rw[hd]at hds;have:=drop_nil hds (uD _ _);exact⟨[],by simp[this],fun t ht=>by cases ht⟩
  ·rename_i c r hd
   rw[hd]at hds;have hl:=congrArg List.length hds;simp only[List.length_drop]at hl;split at h
   ·cases h
   ·rename_i k t v ht
    obtain⟨t1,t2,t3⟩:=zic ht;have t4:0<t.length:=List.length_pos_iff.2 t1;split at h
    ·cases h
    ·rename_i l' hl'
     cases h;obtain⟨b,rfl,hb⟩:=ih _ _ _ (by rw[List.length_drop];omega) hl';rw[List.length_drop]at hb ⊢;refine⟨_::b,by rw[List.cons_append];congr 4;omega,fun x hx=>?_⟩
     rcases List.mem_cons.1 hx with rfl|hx
     ·refine⟨?_,by simp only;omega⟩
      rw[Jj]at ht;simp only;split at ht
      ·split at ht
       ·cases ht;decide
       ·cases ht
      ·split at ht
       ·split at ht
        ·cases ht;decide
        ·cases ht
       ·split at ht
        ·cases ht;decide
        ·cases ht
     ·have:=hb x hx;exact⟨this.1,by omega⟩
abbrev EE:=Int×Int
def TWF:List Token→Prop
 |[]=>False
 |[t]=>t.Kind=3
 |t::u::r=>t.Kind≠3∧TWF (u::r)
def hdT(r:List Token):Token:=r.headD default
def zA(l r:List Token):Int:=((l.length-r.length:Nat):Int)
structure St(l r:List Token):Prop where
 suf:∃a,l=a++r
 wf:TWF r
 len:l.length≤1000000
 txt:∀t∈l,t.Text.length≤8000
section
variable{l r:List Token}
theorem TWF.ne(h:TWF r):r≠[]:=by rintro rfl;exact h
theorem TWF.tail(h:TWF r)(hk:(hdT r).Kind≠3):TWF r.tail:=by
 match r,h with
 |[t],h=>exact absurd h hk
 |t::u::r,h=>exact h.2
theorem St.idx(h:St l r):idx l (zA l r)=some (hdT r):=by
 obtain⟨a,rfl⟩:=h.suf;have:=h.wf.ne
 cases r with
 |nil=>exact absurd rfl this
 |cons t r =>
  refine yv ?_;rw[la,Nat.add_sub_cancel,List.getElem?_append_right (Nat.le_refl _),Nat.sub_self];rfl
theorem zzt(h:St l r):zA l r+1=zA l r.tail:=by
 obtain⟨a,rfl⟩:=h.suf;have:=h.wf.ne
 cases r with
 |nil=>exact absurd rfl this
 |cons t r=>simp only[zA,la,lc,List.tail_cons];omega
theorem St.bnd(h:St l r):0≤zA l r∧zA l r<1000000:=by
 have:=h.len;have h2:=h.wf.ne;obtain⟨a,rfl⟩:=h.suf
 cases r with
 |nil=>exact absurd rfl h2
 |cons t r=>simp only[zA,la,lc]at this ⊢;omega
theorem St.step(h:St l r):w64 (zA l r+1)=zA l r.tail:=by
 have:=h.bnd;rw[xv (by omega) (by omega),zzt h]
theorem St.back(h:St l r):w64 (w64 (zA l r+1)-1)=zA l r:=by
 have:=h.bnd;rw[xv (n:=zA l r+1) (by omega) (by omega),xv (by omega) (by omega)];omega
theorem St.tail(h:St l r)(hk:(hdT r).Kind≠3):St l r.tail:=by
 refine⟨?_,h.wf.tail hk,h.len,h.txt⟩;obtain⟨a,e⟩:=h.suf;have:=h.wf.ne
 cases r with
 |nil=>exact absurd rfl this
 |cons t r=>exact⟨a++[t],by rw[e];simp⟩
theorem St.mem(h:St l r):hdT r∈l:=by
 obtain⟨a,e⟩:=h.suf;have:=h.wf.ne
 cases r with
 |nil=>exact absurd rfl this
 |cons t r=>rw[e];simp[hdT]
theorem St.text(h:St l r):(hdT r).Text.length<4611686018427387904:=by have:=h.txt _ h.mem;omega
theorem St.lt(h:St l r):r.length≤l.length∧0<r.length:=by
 obtain⟨a,e⟩:=h.suf;exact⟨by rw[e,la];omega,List.length_pos_iff.2 h.wf.ne⟩
theorem JU(h:TWF r):r.tail.length+1=r.length:=by
 cases r with
 |nil=>exact h.elim
 |cons t r=>rfl
end
-- single tokens
def isB(s:List UInt8)(r:List Token):Bool:=(!(decide ((hdT r).Kind=3)))&&decide ((hdT r).Text=s)
def Jk(r:List Token):Bool:=decide ((hdT r).Kind=1)
def zfg(r:List Token):Bool:=decide ((hdT r).Kind=0)&&zzn (hdT r).Text
def YO(r:List Token)(e:Int):EE:=((hdT r).Pos,e)
def thn{α β:Type}(x:Except EE (α×List Token))(g:α→List Token→Except EE β):Except EE β:=match x with
 |.ok (a,r)=>g a r
 |.error e=>.error e
def oa(b:Bool)(e:Int)(r:List Token):Except EE (Unit×List Token):=if b then .ok ((),r)else .error (YO r e)
def vD(s:List UInt8)(r:List Token):Except EE (Unit×List Token):=if isB s r then .ok ((),r.tail)else .error (YO r 14)
def uL(r:List Token):Except EE (List UInt8×List Token):=if zfg r then .ok ((hdT r).Text,r.tail)else .error (YO r 14)
def Ad(lo hi:Int)(r:List Token):Except EE (Int×List Token):=if Jk r then(if lo≤(hdT r).N∧(hdT r).N≤hi then .ok ((hdT r).N,r.tail)else .error (YO r 3))else .error (YO r 14)
theorem zl{s:List UInt8}{r:List Token}(h:isB s r=true):(hdT r).Kind≠3:=by
 simp only[isB,bn,Bool.not_eq_true',decide_eq_false_iff_not]at h;exact h.1
theorem zb8{r:List Token}(h:Jk r=true):(hdT r).Kind≠3:=by
 have:=of_decide_eq_true h;omega
theorem Jl{r:List Token}(h:zfg r=true):(hdT r).Kind≠3:=by
 simp only[zfg,bn,decide_eq_true_eq]at h;omega
def RT{α β:Type}(l:List Token)(x:Except EE (α×List Token))(s:Option β)(p:Option EE)(f:α→Int→β):Prop:=match x with
 |.ok (v,r)=>s=some (f v (zA l r))∧p=none∧St l r
 |.error e=>s=none∧p=some e
theorem RT.bind{α β α' β':Type}{l:List Token}{x:Except EE (α×List Token)}{s:Option β}{p:Option EE}{f:α→Int→β}{g:α→List Token→Except EE (α'×List Token)}{s2:β→Option β'}{p2:β→Option EE}{f2:α'→Int→β'}
  (h:RT l x s p f) (h2:∀v r,x=.ok (v,r)→St l r→RT l (g v r) (s2 (f v (zA l r))) (p2 (f v (zA l r))) f2):RT l (thn x g) (s.bind s2) (orC p (fun q=>some q) (s.bind p2)) f2:=by
 match x,h,h2 with
 |.error e,⟨h,h'⟩,_=>exact⟨by rw[h];rfl,by rw[h'];rfl⟩
 |.ok (v,r),⟨h,h',hs⟩,h2 =>
  have:=h2 v r rfl hs;rw[h,h'];exact this
section
variable{l r:List Token}
theorem Kl(h:St l r):wC l (zA l r)=some ((hdT r).Kind,(hdT r).Text,(hdT r).N,(hdT r).Pos):=by
 unfold wC;rw[h.idx];rfl
theorem q_is(h:St l r)(s:List UInt8):zao l (zA l r) s=some (isB s r):=by
 unfold zao isB;rw[Kl h,bsQ];cases decide ((hdT r).Kind=3)<;>rfl
theorem zie(h:St l r)(s:List UInt8):xd l (zA l r) s=some (isB s r,if isB s r then zA l r.tail else zA l r):=by
 unfold xd;rw[q_is h,bsQ,h.step];cases isB s r<;>rfl
theorem JV(h:St l r):xj l (zA l r)=some (Jk r):=by
 unfold xj Jk;rw[Kl h];rfl
theorem zsj(h:St l r):qJ l (zA l r)=some (zfg r):=by
 unfold qJ zfg;rw[Kl h,bsQ,bsQ];dsimp only;rw[zmi h.text];cases decide ((hdT r).Kind=0)<;>rfl
theorem zb9(h:St l r)(b:Bool)(e:Int):RT l (oa b e r) (yq l (zA l r) b e) (xC l (zA l r) b e) (fun _ _=>()):=by
 unfold yq xC JI oa
 cases b with
 |true=>exact⟨rfl,rfl,h⟩
 |false=>rw[Kl h];exact⟨rfl,rfl⟩
theorem Km(h:St l r)(s:List UInt8):RT l (vD s r) (vG l (zA l r) s) (uS l (zA l r) s) (fun _ i=>i):=by
 unfold vG uS vD;rw[zie h,bsQ,bsQ];dsimp only
 cases hb:isB s r with
 |true=>exact⟨rfl,rfl,h.tail (zl hb)⟩
 |false =>
  rw[if_neg (by simp),if_neg (by simp)];unfold yq xC JI;rw[Kl h];exact⟨rfl,rfl⟩
theorem Ae(h:St l r):RT l (uL r) (yW l (zA l r)) (vH l (zA l r)) (fun v i=>(v,i)):=by
 unfold yW vH uL;rw[zsj h,bsQ,bsQ,h.back,h.step,h.idx]
 cases hb:zfg r with
 |true=>exact⟨rfl,rfl,h.tail (Jl hb)⟩
 |false =>
  unfold yq xC JI;rw[Kl h];exact⟨rfl,rfl⟩
theorem Zp(h:St l r)(lo hi:Int):RT l (Ad lo hi r) (vX l (zA l r) lo hi) (qK l (zA l r) lo hi) (fun v i=>(v,i)):=by
 unfold vX qK Ad;rw[JV h,bsQ,bsQ,h.step,Kl h];unfold yq xC JI;rw[Kl h]
 cases hb:Jk r with
 |false=>exact⟨rfl,rfl⟩
 |true =>
  rw[if_pos rfl];by_cases h1:lo≤(hdT r).N
  ·by_cases h2:(hdT r).N≤hi
   ·rw[if_pos ⟨h1,h2⟩]
    have e1:decide ((hdT r).N≥lo)=true:=dt h1;have e2:decide ((hdT r).N≤hi)=true:=dt h2;simp only[bsQ,e1,e2];exact⟨rfl,rfl,h.tail (zb8 hb)⟩
   ·rw[if_neg (fun hh=>h2 hh.2)]
    have e1:decide ((hdT r).N≥lo)=true:=dt h1;have e2:decide ((hdT r).N≤hi)=false:=df h2;simp only[bsQ,e1,e2];exact⟨rfl,rfl⟩
  ·rw[if_neg (fun hh=>h1 hh.1)]
   have e1:decide ((hdT r).N≥lo)=false:=df h1;simp only[bsQ,e1];exact⟨rfl,rfl⟩
end
-- what a list of tokens and the end are
theorem zG8:∀{b:List Token}{e:Token},e.Kind=3→(∀t∈b,t.Kind≠3)→TWF (b++[e])
 |[],e,h,_=>h
 |[t],e,h,h2=>⟨h2 t (List.mem_cons_self ..),h⟩
 |t::u::b,e,h,h2=>⟨h2 t (List.mem_cons_self ..),zG8 (b:=u::b) h fun x hx=>h2 x (mcQ _ hx)⟩
theorem zEk:∀(n p:Nat)(s:List UInt8)(l:List Token),s.length<n→Zo n p s=.ok l→l.length≤s.length+1:=by
 intro n
 induction n with
 |zero=>intro p s l hn;omega
 |succ n ih =>
  intro p s l hn h;rw[Zo]at h;have hsp:=uD yJ s;have hds:=Vz yJ s;split at h
  ·cases h;simp
  ·rename_i c r hd
   rw[hd]at hds;have hl:=congrArg List.length hds;simp only[List.length_drop]at hl;split at h
   ·cases h
   ·rename_i k t v ht
    obtain⟨t1,t2,t3⟩:=zic ht;have t4:0<t.length:=List.length_pos_iff.2 t1;split at h
    ·cases h
    ·rename_i l' hl'
     cases h;have:=ih _ _ _ (by rw[List.length_drop];omega) hl';rw[List.length_drop]at this;simp only[lc]at this hl t3 ⊢;omega
theorem W1{s:List UInt8}{l:List Token}(hs:s.length≤8000)(h:zzq s=.ok l):St l l∧zA l l=0:=by
 obtain⟨b,rfl,hb⟩:=zEj _ _ _ _ (Nat.lt_succ_self _) h;have hl:=zEk _ _ _ _ (Nat.lt_succ_self _) h;refine⟨⟨⟨[],rfl⟩,zG8 rfl fun t ht=>(hb t ht).1,by omega,fun t ht=>?_⟩,by simp[zA]⟩
 rcases List.mem_append.1 ht with ht|ht
 ·have:=(hb t ht).2;omega
 ·cases msQ.1 ht;simp[zpm]
end Go.Proofs.YtffencjoddkghaaGreatDoor
set_option maxRecDepth 100000
namespace Go.Proofs.YtffencjoddkghaaGreatDoor
open Go Go.RowKit Go.Eng Go.EV Go.EQ
variable[Fuel]
def OPS:List zg:=[(zg.mk zJ7 14 1),(zg.mk zoj 13 2),(zg.mk ju 10 4),(zg.mk zam 11 4),(zg.mk jt 12 4),(zg.mk zak 4 5),(zg.mk yT 5 5),(zg.mk zaj 6 6),(zg.mk zal 7 6),(zg.mk zai 8 6)]
def opR(r:List Token):Option zg:=if(hdT r).Kind=3 then none else OPS.find? fun o=>decide ((hdT r).Text=o.text)
def zfh(lv:Nat)(r:List Token):Option Int:=match opR r with
 |some o=>if o.form=(lv:Int)then some o.op else none
 |none=>none
def zm6(op:Int)(a b:Expr):Expr:=Expr.mk op 0 [] [] [a,b]
def oof{α:Type}:Except EE α:=.error (0,-1)
mutual
def DE(lv:Nat)(r:List Token):Except EE (Expr×List Token) :=
 if lv≥8 then
  if Jk r then thn (Ad 0 1099511627776 r) fun n r=>.ok (Expr.mk 0 n [] [] [],r)
  else if isB xG r then thn (uL r.tail) fun s r=>thn (uL r) fun k r=>.ok (Expr.mk 2 0 s k [],r)
  else if isB wH r then thn (uL r.tail) fun s r=>.ok (Expr.mk 3 0 s [] [],r)
  else if isB HA r then(if h:r.tail.length<r.length then thn (DE 0 r.tail) fun e r=>thn (vD AG r) fun _ r=>.ok (e,r)else oof)
  else thn (uL r) fun s r=>.ok (Expr.mk 1 0 s [] [],r)
 else if lv=0∧isB zah r=true then
  if h:r.tail.length<r.length then thn (DE 0 r.tail) fun a r1=>thn (vD Ht r1) fun _ r2 =>
   if h2:r2.length<r.length then thn (DE 0 r2) fun b r3=>thn (vD vW r3) fun _ r4 =>
    if h4:r4.length<r.length then thn (DE 0 r4) fun c r5=>.ok (Expr.mk 16 0 [] [] [a,b,c],r5)else oof
   else oof
  else oof
 else if lv=3∧isB ox r=true then
  if h:r.tail.length<r.length then thn (DE 3 r.tail) fun a r1=>.ok (Expr.mk 15 0 [] [] [a],r1)else oof
 else if lv=7∧isB yT r=true then
  if h:r.tail.length<r.length then thn (DE 7 r.tail) fun a r1=>.ok (Expr.mk 9 0 [] [] [a],r1)else oof
 else thn (DE (lv+1) r) fun e r1=>if h:r1.length<r.length then LP lv e r1 else oof
termination_by (r.length,9-lv)
def LP(lv:Nat)(e:Expr)(r:List Token):Except EE (Expr×List Token):=match zfh lv r with
 |none=>.ok (e,r)
 |some op=>if h:r.tail.length<r.length then thn (DE (lv+1) r.tail) fun e2 r2 =>
   if h2:r2.length<r.length then(if lv=4 then .ok (zm6 op e e2,r2)else LP lv (zm6 op e e2) r2)else oof
  else oof
termination_by (r.length,9-lv)
end
structure Aft(r r2:List Token):Prop where
 suf:∃a,r=a++r2
 wf:TWF r2
 lt:r2.length<r.length
structure zco(r r2:List Token):Prop where
 suf:∃a,r=a++r2
 wf:TWF r2
 le:r2.length≤r.length
theorem Aft.e{r r2:List Token}(h:Aft r r2):zco r r2:=⟨h.suf,h.wf,Nat.le_of_lt h.lt⟩
theorem zco.refl{r:List Token}(h:TWF r):zco r r:=⟨⟨[],rfl⟩,h,Nat.le_refl _⟩
theorem zca{r r2 r3:List Token}(h:∃a,r=a++r2)(k:∃a,r2=a++r3):∃a,r=a++r3:=by
 obtain⟨a,rfl⟩:=h;obtain⟨b,rfl⟩:=k;exact⟨a++b,by simp⟩
theorem Aft.trans{r r2 r3:List Token}(h:Aft r r2)(k:zco r2 r3):Aft r r3:=⟨zca h.suf k.suf,k.wf,Nat.lt_of_le_of_lt k.le h.lt⟩
theorem zco.trans{r r2 r3:List Token}(h:zco r r2)(k:zco r2 r3):zco r r3:=⟨zca h.suf k.suf,k.wf,Nat.le_trans k.le h.le⟩
theorem zR{r:List Token}(h:TWF r)(hk:(hdT r).Kind≠3):Aft r r.tail:=by
 refine⟨?_,h.tail hk,by have:=JU h;omega⟩
 cases r with
 |nil=>exact h.elim
 |cons t r=>exact⟨[t],rfl⟩
theorem oF{r:List Token}(h:TWF r):r.tail.length<r.length:=by have:=JU h;omega
theorem St.aft{l r r2:List Token}(h:St l r)(k:zco r r2):St l r2:=⟨zca h.suf k.suf,k.wf,h.len,h.txt⟩
theorem wk{r r2:List Token}{s:List UInt8}(h:TWF r)(e:uL r=.ok (s,r2)):Aft r r2:=by
 unfold uL at e;split at e
 ·rename_i hk;cases e;exact zR h (Jl hk)
 ·cases e
theorem wE{r r2:List Token}{lo hi n:Int}(h:TWF r)(e:Ad lo hi r=.ok (n,r2)):Aft r r2:=by
 unfold Ad at e;split at e
 ·rename_i hk
  split at e
  ·cases e;exact zR h (zb8 hk)
  ·cases e
 ·cases e
theorem xw{r r2:List Token}{s:List UInt8}{u:Unit}(h:TWF r)(e:vD s r=.ok (u,r2)):Aft r r2:=by
 unfold vD at e;split at e
 ·rename_i hk;cases e;exact zR h (zl hk)
 ·cases e
theorem yd{α β:Type}{x:Except EE (α×List Token)}{g:α→List Token→Except EE β}{b:β}(h:thn x g=.ok b):∃a r,x=.ok (a,r)∧g a r=.ok b:=by
 match x,h with
 |.ok (a,r),h=>exact⟨a,r,rfl,h⟩
theorem xx{α β:Type}{x:Except EE (α×List Token)}{g g':α→List Token→Except EE β}(h:∀a r,x=.ok (a,r)→g a r=g' a r):thn x g=thn x g':=by
 match x,h with
 |.ok (a,r),h=>exact h a r rfl
 |.error e,_=>rfl
theorem zy{α β γ:Type}{x:Except EE (α×List Token)}{g:α→List Token→Except EE (β×List Token)}{k:β→List Token→Except EE γ}:thn (thn x g) k=thn x fun a r=>thn (g a r) k:=by
 match x with
 |.ok (a,r)=>rfl
 |.error e=>rfl
theorem oc{α:Type}{x:Except EE (α×List Token)}:(thn x fun a r=>.ok (a,r))=x:=by
 match x with
 |.ok (a,r)=>rfl
 |.error e=>rfl
theorem vI{r:List Token}{o:zg}(h:opR r=some o):(hdT r).Kind≠3∧o∈OPS∧(hdT r).Text=o.text:=by
 unfold opR at h;split at h
 ·cases h
 ·rename_i hk
  exact⟨hk,List.mem_of_find?_eq_some h,by simpa using List.find?_some h⟩
theorem Af{r:List Token}{lv:Nat}{op:Int}(h:zfh lv r=some op):∃o,opR r=some o∧o.form=(lv:Int)∧o.op=op:=by
 unfold zfh at h;split at h
 ·rename_i o ho
  split at h
  ·rename_i hf;cases h;exact⟨o,ho,hf,rfl⟩
  ·cases h
 ·cases h
theorem zzu:∀(n:Nat),(∀(lv:Nat)(r:List Token),r.length<n→TWF r→∀e r2,DE lv r=.ok (e,r2)→Aft r r2)∧(∀(lv:Nat)(e:Expr)(r:List Token),r.length<n→TWF r→∀e2 r2,LP lv e r=.ok (e2,r2)→zco r r2):=by
 intro n
 induction n with
 |zero=>exact⟨fun _ _ h=>by omega,fun _ _ _ h=>by omega⟩
 |succ n ih =>
  have hLP:∀(lv:Nat)(e:Expr)(r:List Token),r.length<n+1→TWF r→∀e2 r2,LP lv e r=.ok (e2,r2)→zco r r2:=by
   intro lv e r hn hr e2 r2 h;rw[LP]at h;split at h
   ·cases h;exact zco.refl hr
   ·rename_i op hop
    obtain⟨o,ho,_⟩:=Af hop;have ht:=zR hr (vI ho).1;rw[dif_pos ht.lt]at h;obtain⟨a,r1,h1,h2⟩:=yd h;have:=ht.lt;have ha:=ih.1 _ _ (by omega) ht.wf _ _ h1;split at h2
    ·split at h2
     ·cases h2;exact(ht.trans ha.e).e
     ·exact(ht.trans ha.e).e.trans (ih.2 _ _ _ (by have:=ha.lt;omega) ha.wf _ _ h2)
    ·cases h2
  refine⟨fun lv=>?_,hLP⟩
  -- by level, downwards
  have key:∀(k lv:Nat),8-lv=k→∀(r:List Token),r.length<n+1→TWF r→∀e r2,DE lv r=.ok (e,r2)→Aft r r2:=by
   intro k
   induction k with
   |zero =>
    intro lv hk r hn hr e r2 h;rw[DE,if_pos (by omega)]at h;split at h
    ·obtain⟨a,r1,h1,h2⟩:=yd h
     cases h2;exact wE hr h1
    ·split at h
     ·rename_i hb
      have ht:=zR hr (zl hb);obtain⟨a,r1,h1,h2⟩:=yd h;obtain⟨b,r3,h3,h4⟩:=yd h2;cases h4;have q1:=wk ht.wf h1;exact ht.trans (q1.trans (wk q1.wf h3).e).e
     ·split at h
      ·rename_i hb
       have ht:=zR hr (zl hb);obtain⟨a,r1,h1,h2⟩:=yd h;cases h2;exact ht.trans (wk ht.wf h1).e
      ·split at h
       ·rename_i hb
        have ht:=zR hr (zl hb);rw[dif_pos ht.lt]at h;obtain⟨a,r1,h1,h2⟩:=yd h;obtain⟨b,r3,h3,h4⟩:=yd h2;cases h4;have q1:=ih.1 _ _ (by have:=ht.lt;omega) ht.wf _ _ h1;exact ht.trans (q1.trans (xw q1.wf h3).e).e
       ·obtain⟨a,r1,h1,h2⟩:=yd h
        cases h2;exact wk hr h1
   |succ k ihk =>
    intro lv hk r hn hr e r2 h;rw[DE,if_neg (by omega)]at h;split at h
    ·rename_i hb
     have ht:=zR hr (zl hb.2);rw[dif_pos ht.lt]at h;obtain⟨a,r1,h1,h⟩:=yd h;obtain⟨_,r3,h3,h⟩:=yd h;have q1:=ht.trans (ih.1 _ _ (by have:=ht.lt;omega) ht.wf _ _ h1).e;have q2:=q1.trans (xw q1.wf h3).e;rw[dif_pos q2.lt]at h;obtain⟨b,r4,h4,h⟩:=yd h;obtain⟨_,r5,h5,h⟩:=yd h;have q3:=q2.trans (ih.1 _ _ (by have:=q2.lt;omega) q2.wf _ _ h4).e;have q4:=q3.trans (xw q3.wf h5).e;rw[dif_pos q4.lt]at h;obtain⟨c,r6,h6,h⟩:=yd h;cases h;exact q4.trans (ih.1 _ _ (by have:=q4.lt;omega) q4.wf _ _ h6).e
    ·split at h
     ·rename_i hb
      have ht:=zR hr (zl hb.2);rw[dif_pos ht.lt]at h;obtain⟨a,r1,h1,h⟩:=yd h;cases h;exact ht.trans (ih.1 _ _ (by have:=ht.lt;omega) ht.wf _ _ h1).e
     ·split at h
      ·rename_i hb
       have ht:=zR hr (zl hb.2);rw[dif_pos ht.lt]at h;obtain⟨a,r1,h1,h⟩:=yd h;cases h;exact ht.trans (ih.1 _ _ (by have:=ht.lt;omega) ht.wf _ _ h1).e
      ·obtain⟨a,r1,h1,h⟩:=yd h
       have q1:=ihk (lv+1) (by omega) r hn hr _ _ h1;rw[dif_pos q1.lt]at h;exact q1.trans (hLP _ _ _ (by have:=q1.lt;omega) q1.wf _ _ h)
  exact key _ lv rfl
theorem xE{lv:Nat}{r r2:List Token}{e:Expr}(hr:TWF r)(h:DE lv r=.ok (e,r2)):Aft r r2:=(zzu (r.length+1)).1 lv r (Nat.lt_succ_self _) hr e r2 h
def zcb(r:List Token):Except EE (Expr×List Token) :=
 if Jk r then thn (Ad 0 1099511627776 r) fun n r=>.ok (Expr.mk 0 n [] [] [],r)
 else if isB xG r then thn (uL r.tail) fun s r=>thn (uL r) fun k r=>.ok (Expr.mk 2 0 s k [],r)
 else if isB wH r then thn (uL r.tail) fun s r=>.ok (Expr.mk 3 0 s [] [],r)
 else if isB HA r then thn (DE 0 r.tail) fun e r=>thn (vD AG r) fun _ r=>.ok (e,r)
 else thn (uL r) fun s r=>.ok (Expr.mk 1 0 s [] [],r)
def ifS(r:List Token):Except EE (Expr×List Token):=thn (DE 0 r.tail) fun a r1=>thn (vD Ht r1) fun _ r2=>thn (DE 0 r2) fun b r3=>thn (vD vW r3) fun _ r4=>thn (DE 0 r4) fun c r5=>.ok (Expr.mk 16 0 [] [] [a,b,c],r5)
theorem zQl{r:List Token}(hr:TWF r):DE 8 r=zcb r:=by
 rw[DE,if_pos (Nat.le_refl 8),zcb];simp only[dif_pos (oF hr)]
theorem zEl{lv:Nat}{r:List Token}(hl:lv<8)(hr:TWF r):DE lv r=if lv=0∧isB zah r=true then ifS r else if lv=3∧isB ox r=true then thn (DE 3 r.tail) fun a r1=>.ok (Expr.mk 15 0 [] [] [a],r1)
  else if lv=7∧isB yT r=true then thn (DE 7 r.tail) fun a r1=>.ok (Expr.mk 9 0 [] [] [a],r1)else thn (DE (lv+1) r) fun e r1=>LP lv e r1:=by
 rw[DE,if_neg (by omega)];simp only[dif_pos (oF hr)];by_cases hi:lv=0∧isB zah r=true
 ·rw[if_pos hi,if_pos hi,ifS]
  have ht:=zR hr (zl hi.2)
  refine xx fun a r1 h1=>xx fun u r2 h2=>?_
  have q1:=ht.trans (xE ht.wf h1).e;have q2:=q1.trans (xw q1.wf h2).e;rw[dif_pos q2.lt]
  refine xx fun b r3 h3=>xx fun u r4 h4=>?_
  have q3:=q2.trans (xE q2.wf h3).e;have q4:=q3.trans (xw q3.wf h4).e;rw[dif_pos q4.lt]
 ·rw[if_neg hi,if_neg hi]
  split
  ·rfl
  ·split
   ·rfl
   ·refine xx fun e r1 h1=>?_
    rw[dif_pos (xE hr h1).lt]
theorem zEm{lv:Nat}{e:Expr}{r:List Token}(hr:TWF r):LP lv e r=match zfh lv r with
 |none=>.ok (e,r)
 |some op=>thn (DE (lv+1) r.tail) fun e2 r2=>if lv=4 then .ok (zm6 op e e2,r2)else LP lv (zm6 op e e2) r2:=by
 rw[LP];split
 ·rfl
 ·rename_i op hop
  obtain⟨o,ho,_⟩:=Af hop;have ht:=zR hr (vI ho).1;rw[dif_pos ht.lt]
  refine xx fun e2 r2 h2=>?_
  rw[dif_pos (ht.trans (xE ht.wf h2).e).lt]
def PX(lv:Nat)(r:List Token):Except EE ((Nat×Expr)×List Token) :=
 if lv≤0∧isB zah r=true then thn (ifS r) fun e r=>.ok ((0,e),r)
 else if lv≤3∧isB ox r=true then thn (DE 3 r.tail) fun a r1=>.ok ((3,Expr.mk 15 0 [] [] [a]),r1)
 else if lv≤7∧isB yT r=true then thn (DE 7 r.tail) fun a r1=>.ok ((7,Expr.mk 9 0 [] [] [a]),r1)
 else thn (zcb r) fun e r=>.ok ((8,e),r)
def KL(lv:Nat):Nat→Expr→List Token→Except EE (Expr×List Token)
 |0,e,r=>.ok (e,r)
 |k+1,e,r=>thn (LP (lv+k) e r) fun e r=>KL lv k e r
theorem zzv(lv:Nat):∀(k:Nat)(e:Expr)(r:List Token),KL lv (k+1) e r=thn (KL (lv+1) k e r) fun e r=>LP lv e r
 |0,e,r=>by simp only[KL,Nat.add_zero,oc];rfl
 |k+1,e,r=>by
  rw[KL,KL,zy,show lv+(k+1)=lv+1+k by omega]
  exact xx fun a r1 _=>zzv lv k a r1
theorem VA{o:zg}(h:o∈OPS):∃f:Nat,o.form=(f:Int)∧(f=1∨f=2∨f=4∨f=5∨f=6)∧o.text≠[]:=by
 simp only[OPS,List.mem_cons,List.mem_nil_iff,or_false]at h
 rcases h with rfl|rfl|rfl|rfl|rfl|rfl|rfl|rfl|rfl|rfl
 ·exact⟨1,rfl,by omega,by decide⟩
 ·exact⟨2,rfl,by omega,by decide⟩
 ·exact⟨4,rfl,by omega,by decide⟩
 ·exact⟨4,rfl,by omega,by decide⟩
 ·exact⟨4,rfl,by omega,by decide⟩
 ·exact⟨5,rfl,by omega,by decide⟩
 ·exact⟨5,rfl,by omega,by decide⟩
 ·exact⟨6,rfl,by omega,by decide⟩
 ·exact⟨6,rfl,by omega,by decide⟩
 ·exact⟨6,rfl,by omega,by decide⟩
theorem zml{lv:Nat}{r:List Token}(h:lv=0∨lv=3∨lv≥7):zfh lv r=none:=by
 cases ho:zfh lv r with
 |none=>rfl
 |some op =>
  obtain⟨o,h1,h2,_⟩:=Af ho;obtain⟨f,h3,h4,_⟩:=VA (vI h1).2.1;omega
theorem zif{lv:Nat}{e:Expr}{r:List Token}(hr:TWF r)(h:zfh lv r=none):LP lv e r=.ok (e,r):=by
 rw[zEm hr,h]
theorem zKr{lv:Nat}{r:List Token}(hl:lv<8)(h0:¬(lv=0∧isB zah r=true))(h3:¬(lv=3∧isB ox r=true))(h7:¬(lv=7∧isB yT r=true)):PX lv r=PX (lv+1) r:=by
 unfold PX
 have e0:(lv≤0∧isB zah r=true)=False:=by simp only[eq_iff_iff,iff_false];intro hh;exact h0 ⟨by omega,hh.2⟩
 have e0':(lv+1≤0∧isB zah r=true)=False:=by simp only[eq_iff_iff,iff_false];intro hh;omega
 have e3:(lv≤3∧isB ox r=true)=(lv+1≤3∧isB ox r=true):=by
  rw[eq_iff_iff];constructor
  ·intro hh
   refine⟨?_,hh.2⟩
   have:lv≠3:=fun e=>h3 ⟨e,hh.2⟩
   omega
  ·intro hh;exact⟨by omega,hh.2⟩
 have e7:(lv≤7∧isB yT r=true)=(lv+1≤7∧isB yT r=true):=by
  rw[eq_iff_iff];constructor
  ·intro hh
   refine⟨?_,hh.2⟩
   have:lv≠7:=fun e=>h7 ⟨e,hh.2⟩
   omega
  ·intro hh;exact⟨by omega,hh.2⟩
 simp only[e0,e0',e3,e7]
theorem zG9{lv:Nat}{r:List Token}{o:Nat}{e:Expr}{r1:List Token}(hl:lv≤8)(h:PX lv r=.ok ((o,e),r1)):lv≤o∧(o=0∨o=3∨o=7∨o=8):=by
 unfold PX at h;split at h
 ·obtain⟨a,r2,h1,h2⟩:=yd h;cases h2;rename_i hh;omega
 ·split at h
  ·obtain⟨a,r2,h1,h2⟩:=yd h;cases h2;rename_i hh;omega
  ·split at h
   ·obtain⟨a,r2,h1,h2⟩:=yd h;cases h2;rename_i hh;omega
   ·obtain⟨a,r2,h1,h2⟩:=yd h;cases h2;omega
theorem zzw{r r2:List Token}{e:Expr}(hr:TWF r)(hk:isB zah r=true)(h:ifS r=.ok (e,r2)):Aft r r2:=by
 have:=zEl (lv:=0) (by omega) hr;rw[if_pos ⟨rfl,hk⟩,h]at this;exact xE hr this
theorem zzx{lv:Nat}{r r2:List Token}{x:Nat×Expr}(hr:TWF r)(h:PX lv r=.ok (x,r2)):Aft r r2:=by
 unfold PX at h;split at h
 ·rename_i hb
  obtain⟨a,r1,h1,h2⟩:=yd h;cases h2;exact zzw hr hb.2 h1
 ·split at h
  ·rename_i hb
   obtain⟨a,r1,h1,h2⟩:=yd h;cases h2;have ht:=zR hr (zl hb.2);exact ht.trans (xE ht.wf h1).e
  ·split at h
   ·rename_i hb
    obtain⟨a,r1,h1,h2⟩:=yd h;cases h2;have ht:=zR hr (zl hb.2);exact ht.trans (xE ht.wf h1).e
   ·obtain⟨a,r1,h1,h2⟩:=yd h;cases h2
    rw[← zQl hr]at h1;exact xE hr h1
theorem DE_PX:∀(k lv:Nat),8-lv=k→lv≤8→∀(r:List Token),TWF r→DE lv r=thn (PX lv r) fun x r1=>KL lv (x.1+1-lv) x.2 r1:=by
 intro k
 induction k with
 |zero =>
  intro lv hk hl r hr
  obtain rfl:lv=8:=by omega
  rw[zQl hr,PX,if_neg (by omega),if_neg (by omega),if_neg (by omega),zy]
  conv=>lhs;rw[← oc (x:=zcb r)]
  refine xx fun e r1 h1=>?_
  show _=KL 8 1 e r1
  rw[← zQl hr]at h1;rw[KL,zif (xE hr h1).wf (zml (by omega))];rfl
 |succ k ih =>
  intro lv hk hl r hr;rw[zEl (by omega) hr]
  have one:∀(e:Expr)(r1:List Token),(lv=0∨lv=3∨lv=7)→TWF r1→KL lv (lv+1-lv) e r1=.ok (e,r1):=fun e r1 h h1=>by
   rw[show lv+1-lv=1 by omega,KL,Nat.add_zero,zif h1 (zml (by omega))];rfl
  by_cases h0:lv=0∧isB zah r=true
  ·rw[if_pos h0,PX,if_pos ⟨by omega,h0.2⟩,zy]
   conv=>lhs;rw[← oc (x:=ifS r)]
   refine xx fun e r1 h1=>?_
   have:=one e r1 (by omega) (zzw hr h0.2 h1).wf;rw[h0.1]at this ⊢;exact this.symm
  ·rw[if_neg h0]
   by_cases h3:lv=3∧isB ox r=true
   ·rw[if_pos h3,PX,if_neg (by omega),if_pos ⟨by omega,h3.2⟩,zy]
    refine xx fun a r1 h1=>?_
    have ht:=zR hr (zl h3.2);have:=one (Expr.mk 15 0 [] [] [a]) r1 (by omega) (xE ht.wf h1).wf;rw[h3.1]at this ⊢;exact this.symm
   ·rw[if_neg h3]
    by_cases h7:lv=7∧isB yT r=true
    ·rw[if_pos h7,PX,if_neg (by omega),if_neg (by omega),if_pos ⟨by omega,h7.2⟩,zy]
     refine xx fun a r1 h1=>?_
     have ht:=zR hr (zl h7.2);have:=one (Expr.mk 9 0 [] [] [a]) r1 (by omega) (xE ht.wf h1).wf;rw[h7.1]at this ⊢;exact this.symm
    ·rw[if_neg h7,ih (lv+1) (by omega) (by omega) r hr,zKr (by omega) h0 h3 h7,zy]
     refine xx fun x r1 h1=>?_
     have:=(zG9 (by omega) h1).1;rw[show x.1+1-lv=(x.1+1-(lv+1))+1 by omega,zzv]
def CL(lv own:Nat)(e:Expr)(r:List Token):Except EE (Expr×List Token):=match opR r with
 |none=>.ok (e,r)
 |some o=>if o.form<(lv:Int)∨(own:Int)<o.form∨(own=4∧o.form=4)then .ok (e,r)else
  if h:r.tail.length<r.length then thn (DE (o.form.toNat+1) r.tail) fun e2 r2=>if h2:r2.length<r.length then CL lv o.form.toNat (zm6 o.op e e2) r2 else oof else oof
termination_by r.length
theorem zpn{lv:Nat}{e:Expr}{r:List Token}(hr:TWF r):∀(k:Nat),(∀j,lv≤j→j<lv+k→zfh j r=none)→KL lv k e r=.ok (e,r)
 |0,_=>rfl
 |k+1,h=>by
  rw[KL,zif hr (h (lv+k) (by omega) (by omega))]
  exact zpn hr k fun j h1 h2=>h j h1 (by omega)
theorem zsk{lv:Nat}{e:Expr}{r:List Token}(hr:TWF r):∀(k j:Nat),(∀i,lv+j≤i→i<lv+j+k→zfh i r=none)→KL lv (j+k) e r=KL lv j e r
 |0,j,_=>rfl
 |k+1,j,h=>by
  rw[show j+(k+1)=(j+k)+1 by omega,KL,zif hr (h (lv+(j+k)) (by omega) (by omega))]
  exact zsk hr k j fun i h1 h2=>h i h1 (by omega)
theorem CL_KL(lv:Nat):∀(n:Nat)(r:List Token)(own:Nat)(e:Expr),r.length<n→TWF r→KL lv ((if own=4 then 3 else own)+1-lv) e r=CL lv own e r:=by
 intro n
 induction n with
 |zero=>intro r own e h;omega
 |succ n ih =>
  intro r own e hn hr;rw[CL]
  cases ho:opR r with
  |none=>exact zpn hr _ fun j _ _=>by rw[zfh,ho]
  |some o =>
   dsimp only;obtain⟨hk,hmem,_⟩:=vI ho;obtain⟨f,hf,hf2,_⟩:=VA hmem
   have hat:∀j,j≠f→zfh j r=none:=fun j hj=>by
    rw[zfh,ho];dsimp only;rw[if_neg (by rw[hf];omega)]
   have hatf:zfh f r=some o.op:=by
    rw[zfh,ho];dsimp only;rw[if_pos hf]
   rw[hf];by_cases hc:(f:Int)<(lv:Int)∨(own:Int)<(f:Int)∨(own=4∧(f:Int)=4)
   ·rw[if_pos hc]
    refine zpn hr _ fun j h1 h2=>hat j ?_
    rcases hc with hc|hc|hc
    ·omega
    ·split at h2<;>omega
    ·rw[if_pos hc.1]at h2;omega
   ·rw[if_neg hc]
    have ht:=zR hr hk;rw[dif_pos ht.lt,Int.toNat_natCast]
    have hle:lv≤f∧f≤(if own=4 then 3 else own):=by
     refine⟨by omega,?_⟩;split
     ·rename_i h4;subst h4;omega
     ·omega
    rw[show(if own=4 then 3 else own)+1-lv=(f-lv+1)+((if own=4 then 3 else own)-f) by omega,zsk hr _ _ (fun i h1 h2=>hat i (by omega)),KL,show lv+(f-lv)=f by omega,zEm hr,hatf,zy]
    refine xx fun e2 r2 h2=>?_
    have hq:=ht.trans (xE ht.wf h2).e;rw[dif_pos hq.lt,← ih r2 f (zm6 o.op e e2) (by have:=hq.lt;omega) hq.wf];by_cases h4:f=4
    ·subst h4
     rw[if_pos rfl,if_pos rfl]
     show KL lv (4-lv) _ r2=_
     rw[show 4-lv=3+1-lv by omega]
    ·rw[if_neg h4,if_neg h4,show f+1-lv=(f-lv)+1 by omega,KL,show lv+(f-lv)=f by omega]
theorem zQm{lv own:Nat}{e:Expr}{r:List Token}(hr:TWF r):CL lv own e r=match opR r with
 |none=>.ok (e,r)
 |some o=>if o.form<(lv:Int)∨(own:Int)<o.form∨(own=4∧o.form=4)then .ok (e,r)else thn (DE (o.form.toNat+1) r.tail) fun e2 r2=>CL lv o.form.toNat (zm6 o.op e e2) r2:=by
 rw[CL];split
 ·rfl
 ·rename_i o ho
  have ht:=zR hr (vI ho).1;rw[dif_pos ht.lt];split
  ·rfl
  ·refine xx fun e2 r2 h2=>?_
   rw[dif_pos (ht.trans (xE ht.wf h2).e).lt]
theorem zQn{lv:Nat}{r:List Token}(hl:lv≤8)(hr:TWF r):DE lv r=thn (PX lv r) fun x r1=>CL lv x.1 x.2 r1:=by
 rw[DE_PX _ lv rfl hl r hr]
 refine xx fun x r1 h1=>?_
 have ho:=(zG9 (o:=x.1) (e:=x.2) hl h1).2;have:=CL_KL lv (r1.length+1) r1 x.1 x.2 (Nat.lt_succ_self _) (zzx hr h1).wf;rw[if_neg (by omega)]at this;exact this
def SR{α β:Type}(l:List Token)(x:Except EE (α×List Token))(s:Option β)(f:α→Int→β):Prop:=match x with
 |.ok (v,r)=>s=some (f v (zA l r))∧St l r
 |.error _=>s=none
theorem RT.sr{α β:Type}{l:List Token}{x:Except EE (α×List Token)}{s:Option β}{p:Option EE}{f:α→Int→β}(h:RT l x s p f):SR l x s f:=by
 match x,h with
 |.ok (v,r),h=>exact⟨h.1,h.2.2⟩
 |.error e,h=>exact h.1
theorem SR.bind{α β α' β':Type}{l:List Token}{x:Except EE (α×List Token)}{s:Option β}{f:α→Int→β}{g:α→List Token→Except EE (α'×List Token)}{s2:β→Option β'}{f2:α'→Int→β'}
  (h:SR l x s f) (h2:∀v r,x=.ok (v,r)→St l r→SR l (g v r) (s2 (f v (zA l r))) f2):SR l (thn x g) (s.bind s2) f2:=by
 match x,h,h2 with
 |.error e,h,_=>show _=none;rw[show s=none from h];rfl
 |.ok (v,r),⟨h,hs⟩,h2 =>
  have:=h2 v r rfl hs;rw[h];exact this
def RTS{α β γ δ:Type}(l:List Token)(x:Except EE (α×List Token))(s:Option (β⊕γ))(p:Option (EE⊕δ))(f:α→Int→β):Prop:=match x with
 |.ok (v,r)=>s=some (.inl (f v (zA l r)))∧p=none∧St l r
 |.error e=>s=none∧p=some (.inl e)
def fE(e:Expr)(i:Int):Int×Int×Int×List UInt8×List UInt8×List Expr:=(i,e.Op,e.N,e.S,e.Key,e.Args)
def fP(x:Nat×Expr)(i:Int):Int×Int×Int×Int×List UInt8×List UInt8×List Expr:=((x.1:Int),i,x.2.Op,x.2.N,x.2.S,x.2.Key,x.2.Args)
section
variable{l r:List Token}
theorem W2(h:St l r)(t:List UInt8)(lv m:Nat):((bif (decide ((lv:Int)≤(m:Int)))then(xd l (zA l r) t).bind fun x2=>some (x2.2,x2.1)else some (zA l r,false)))=some (if lv≤m∧isB t r=true then(zA l r.tail,true)else(zA l r,false)):=by
 rw[zie h];have e:decide ((lv:Int)≤(m:Int))=decide (lv≤m):=yn (by omega);rw[e];by_cases hm:lv≤m
 ·cases hb:isB t r<;>simp[hm]
 ·simp[hm]
theorem zQo{K:Nat}(h:St l r)(ihE:∀(lv:Nat)(r':List Token),lv≤8→r'.length<r.length→St l r'→SR l (DE lv r') (z7 K l (zA l r') (lv:Int)) fE):
  SR l (thn (zcb r) fun e r=>.ok ((8,e),r)) ((xj l (zA l r)).bind fun x14=>(bif x14 then(vX l (zA l r) 0 1099511627776).bind fun x15=>some (8,x15.2,0,x15.1,([]:List UInt8),([]:List UInt8),[])else(xd l (zA l r) xG).bind fun x16=>(bif x16.1 then(yW l x16.2).bind fun x17=>(yW l x17.2).bind fun x18=>some (8,x18.2,2,0,x17.1,x18.1,[])else(xd l x16.2 wH).bind fun x19=>(bif x19.1 then(yW l x19.2).bind fun x20=>some (8,x20.2,3,0,x20.1,([]:List UInt8),[])else(xd l x19.2 HA).bind fun x21=>(bif x21.1 then(z7 K l x21.2 0).bind fun x22=>(vG l x22.1 AG).bind fun x23=>some (8,x23,x22.2.1,x22.2.2.1,x22.2.2.2.1,x22.2.2.2.2.1,x22.2.2.2.2.2)else(yW l x21.2).bind fun x24=>some (8,x24.2,1,0,x24.1,([]:List UInt8),[])))))) fP:=by
 unfold zcb;rw[JV h,bsQ]
 cases hn:Jk r with
 |true =>
  rw[if_pos rfl,ctQ,zy]
  exact(Zp h 0 1099511627776).sr.bind fun v r1 _ hs=>⟨rfl,hs⟩
 |false =>
  rw[if_neg (by simp),cf,zie h,bsQ]
  cases hb:isB xG r with
  |true =>
   have ht:=h.tail (zl hb);simp only[if_true,ctQ,zy]
   exact(Ae ht).sr.bind fun v r1 _ hs=>(Ae hs).sr.bind fun v2 r2 _ hs2=>⟨rfl,hs2⟩
  |false =>
   simp only[if_neg (show ¬(false=true) by simp),cf];rw[zie h,bsQ]
   cases hz:isB wH r with
   |true =>
    have ht:=h.tail (zl hz);simp only[if_true,ctQ,zy]
    exact(Ae ht).sr.bind fun v r1 _ hs=>⟨rfl,hs⟩
   |false =>
    simp only[if_neg (show ¬(false=true) by simp),cf];rw[zie h,bsQ]
    cases hp:isB HA r with
    |true =>
     have ht:=h.tail (zl hp);simp only[if_true,ctQ,zy]
     exact(ihE 0 r.tail (by omega) (oF h.wf) ht).bind fun v r1 _ hs=>(Km hs _).sr.bind fun _ r2 _ hs2=>⟨rfl,hs2⟩
    |false =>
     simp only[if_neg (show ¬(false=true) by simp),cf,zy]
     exact(Ae h).sr.bind fun v r1 _ hs=>⟨rfl,hs⟩
theorem zsl{K lv:Nat}(h:St l r)(ihE:∀(lv:Nat)(r':List Token),lv≤8→r'.length<r.length→St l r'→SR l (DE lv r') (z7 K l (zA l r') (lv:Int)) fE):
  SR l (PX lv r) (vY (K+1) l (zA l r) (lv:Int)) fP:=by
 rw[vY];have e0:=W2 h zah lv 0;rw[show((0:Nat):Int)=0 from rfl]at e0;rw[e0,bsQ];unfold PX;by_cases c0:lv≤0∧isB zah r=true
 ·rw[if_pos c0,if_pos c0]
  have ht:=zR h.wf (zl c0.2);simp only[ctQ,ifS,zy]
  refine(ihE 0 r.tail (by omega) ht.lt (h.aft ht.e)).bind fun a r1 h1 hs1=>?_
  have q1:=ht.trans (xE ht.wf h1).e
  refine(Km hs1 _).sr.bind fun _ r2 h2 hs2=>?_
  have q2:=q1.trans (xw q1.wf h2).e
  refine(ihE 0 r2 (by omega) q2.lt hs2).bind fun b r3 h3 hs3=>?_
  have q3:=q2.trans (xE q2.wf h3).e
  refine(Km hs3 _).sr.bind fun _ r4 h4 hs4=>?_
  have q4:=q3.trans (xw q3.wf h4).e
  exact(ihE 0 r4 (by omega) q4.lt hs4).bind fun c r5 h5 hs5=>⟨by cases a;cases b;cases c;rfl,hs5⟩
 ·rw[if_neg c0,if_neg c0]
  simp only[cf];have e3:=W2 h ox lv 3;rw[show((3:Nat):Int)=3 from rfl]at e3;rw[e3,bsQ];by_cases c3:lv≤3∧isB ox r=true
  ·rw[if_pos c3,if_pos c3]
   have ht:=zR h.wf (zl c3.2);simp only[ctQ]
   exact(ihE 3 r.tail (by omega) ht.lt (h.aft ht.e)).bind fun a r1 h1 hs1=>⟨by cases a;rfl,hs1⟩
  ·rw[if_neg c3,if_neg c3]
   simp only[cf];have e7:=W2 h yT lv 7;rw[show((7:Nat):Int)=7 from rfl]at e7;rw[e7,bsQ];by_cases c7:lv≤7∧isB yT r=true
   ·rw[if_pos c7,if_pos c7]
    have ht:=zR h.wf (zl c7.2);simp only[ctQ]
    exact(ihE 7 r.tail (by omega) ht.lt (h.aft ht.e)).bind fun a r1 h1 hs1=>⟨by cases a;rfl,hs1⟩
   ·rw[if_neg c7,if_neg c7]
    simp only[cf];exact zQo h ihE
end
-- the operator that comes next
def YG(r:List Token)(a:List UInt8×Int×Int)(o:zg):List UInt8×Int×Int:=if isB o.text r then(o.text,o.op,o.form)else a
theorem op_L{l r:List Token}(h:St l r)(c2 c3 c6:Int)(c7:List UInt8)(c8:List Expr)(c9 c10:Int)(c11 c12:List UInt8)(c13:List Expr):∀(os:List zg)(i K:Nat)(a:List UInt8×Int×Int),OPS.drop i=os→i≤10→os.length<K →
  xq l (zA l r) c2 c3 OPS 10 c6 c7 c8 c9 c10 c11 c12 c13 K ((i:Int),a.1,a.2.1,a.2.2)=some (os.foldl (YG r) a):=by
 intro os
 induction os with
 |nil =>
  intro i K a hr hi hK
  obtain⟨K,rfl⟩:∃k,K=k+1:=⟨K-1,by omega⟩
  have:=drop_nil hr hi;have:i=10:=this;rw[xq,df (show ¬((i:Int)<10) by omega)];rfl
 |cons o os ih =>
  intro i K a hr hi hK
  obtain⟨K,rfl⟩:∃k,K=k+1:=⟨K-1,by omega⟩
  obtain⟨h1,h2,h3⟩:=yA hr;have h3:i<10:=h3;simp only[lc]at hK
  have e:(bif isB o.text r then some (o.text,o.op,o.form)else some (a.1,a.2.1,a.2.2))=some (YG r a o):=by
   unfold YG;cases isB o.text r<;>rfl
  rw[xq,dt (show((i:Int)<10) by omega),ctQ,yv h1,bsQ,q_is h,bsQ];simp only;rw[e,bsQ,xL (by omega),ih (i+1) K (YG r a o) h2 (by omega) (by omega)];rfl
def YP:Option zg→List UInt8×Int×Int
 |some o=>(o.text,o.op,o.form)
 |none=>([],0,0)
theorem zcc{r:List Token}:∀{os:List zg}{a:List UInt8×Int×Int},(∀o∈os,isB o.text r=false)→os.foldl (YG r) a=a
 |[],a,_=>rfl
 |o::os,a,h=>by
  rw[List.foldl_cons,YG,h o (List.mem_cons_self ..),if_neg (by simp)]
  exact zcc fun x hx=>h x (mcQ _ hx)
theorem zEn(r:List Token):OPS.foldl (YG r) ([],0,0)=YP (opR r):=by
 by_cases hk:(hdT r).Kind=3
 ·rw[opR,if_pos hk]
  exact zcc fun o _=>by rw[isB,dt hk];rfl
 ·rw[opR,if_neg hk]
  have hb:∀s,isB s r=decide ((hdT r).Text=s):=fun s=>by rw[isB,df hk];rfl
  generalize (hdT r).Text=t at hb;by_cases hm:∃o∈OPS,t=o.text
  ·obtain⟨o,ho,rfl⟩:=hm
   simp only[OPS,List.mem_cons,List.mem_nil_iff,or_false]at ho
   rcases ho with rfl|rfl|rfl|rfl|rfl|rfl|rfl|rfl|rfl|rfl<;>simp only[OPS,List.foldl_cons,List.foldl_nil,YG,hb]<;>rfl
  ·have hn:∀o∈OPS,t≠o.text:=fun o ho e=>hm ⟨o,ho,e⟩
   rw[zcc fun o ho=>by rw[hb];exact df (hn o ho),List.find?_eq_none.2 fun o ho=>by simp[hn o ho]];rfl
theorem zzy{l r:List Token}(h:St l r)(c2 c3 c6:Int)(c7:List UInt8)(c8:List Expr)(c9 c10:Int)(c11 c12:List UInt8)(c13:List Expr):
  xq l (zA l r) c2 c3 OPS 10 c6 c7 c8 c9 c10 c11 c12 c13 KK (0,([]:List UInt8),0,0)=some (YP (opR r)):=by
 rw[← zEn];exact op_L h c2 c3 c6 c7 c8 c9 c10 c11 c12 c13 OPS 0 KK ([],0,0) rfl (by omega) (km (by decide))
theorem zzz{l r:List Token}(h:St l r)(c2 c3 c6:Int)(c7:List UInt8)(c8:List Expr)(c9 c10:Int)(c11 c12:List UInt8)(c13:List Expr):
  wJ l (zA l r) c2 c3 OPS 10 c6 c7 c8 c9 c10 c11 c12 c13 KK (0,([]:List UInt8),0,0)=some (YP (opR r)):=by
 have:∀K q,wJ l (zA l r) c2 c3 OPS 10 c6 c7 c8 c9 c10 c11 c12 c13 K q=xq l (zA l r) c2 c3 OPS 10 c6 c7 c8 c9 c10 c11 c12 c13 K q:=by
  intro K
  induction K with
  |zero=>intro q;rfl
  |succ K ih=>intro q;rw[wJ,xq];simp only[ih]
 rw[this,zzy h]
def zMl(lv own:Nat):Option zg→Bool
 |none=>true
 |some x=>decide (x.form<(lv:Int)∨(own:Int)<x.form∨(own=4∧x.form=4))
theorem zHa(lv own:Nat)(o:Option zg)(ho:∀x,o=some x→x∈OPS):((bif (decide ((YP o).1=([]:List UInt8)))then some true else(bif (decide ((YP o).2.2<(lv:Int)))then some true else(bif (decide ((own:Int)<(YP o).2.2))then some true else(bif (decide ((own:Int)=4))then some (decide ((YP o).2.2=4))else some false)))))=some (zMl lv own o):=by
 cases o with
 |none=>rfl
 |some x =>
  obtain⟨f,h1,_,h3⟩:=VA (ho x rfl);have e0:decide ((YP (some x)).1=([]:List UInt8))=false:=df h3;rw[e0,cf];unfold zMl;change (bif (decide (x.form<(lv:Int)))then some true else(bif (decide ((own:Int)<x.form))then some true else(bif (decide ((own:Int)=4))then some (decide (x.form=4))else some false)))=_;by_cases a:x.form<(lv:Int)
  ·simp[a]
  ·by_cases b:(own:Int)<x.form
   ·simp[a,b]
   ·by_cases c:own=4
    ·subst c
     have b':¬((4:Int)<x.form):=b;simp[a,b']
    ·have:¬((own:Int)=4):=by omega
     simp[a,b,c,this]
theorem zHb(l:List Token):∀(n K lv:Nat)(r:List Token),r.length<n→2*n≤K→lv≤8→St l r→SR l (DE lv r) (z7 K l (zA l r) (lv:Int)) fE:=by
 intro n
 induction n with
 |zero=>intro K lv r h;omega
 |succ n ih =>
  intro K lv r hn hK hl h
  obtain⟨K,rfl⟩:∃k,K=k+2:=⟨K-2,by omega⟩
  have ihE:∀(lv:Nat)(r':List Token),lv≤8→r'.length<r.length→St l r'→SR l (DE lv r') (z7 K l (zA l r') (lv:Int)) fE:=fun lv r' h1 h2 h3=>ih K lv r' (by omega) (by omega) h1 h3
  -- the loop
  have loop:∀(m:Nat)(r':List Token)(own:Nat)(e:Expr)(Q:Nat),r'.length<m→m≤Q→r'.length<r.length→St l r' →
    SR l (CL lv own e r') ((vK (z7 (K+1)) l (lv:Int) 0 ([]:List UInt8) [] Q (zA l r',(own:Int),e.Op,e.N,e.S,e.Key,e.Args)).bind (xB some fun _=>none)) fE:=by
   intro m
   induction m with
   |zero=>intro r' own e Q h;omega
   |succ m ihm =>
    intro r' own e Q hm hQ hlt hs
    obtain⟨Q,rfl⟩:∃k,Q=k+1:=⟨Q-1,by omega⟩
    rw[vK,show wI=some OPS from rfl,bsQ,show((List.length OPS:Nat):Int)=10 from rfl,zzy hs,bsQ];simp only;rw[zHa lv own _ (fun x hx=>(vI hx).2.1),bsQ,zQm hs.wf]
    cases ho:opR r' with
    |none=>exact⟨rfl,hs⟩
    |some o =>
     obtain⟨hk,hmem,_⟩:=vI ho;obtain⟨f,hf,hf2,_⟩:=VA hmem;dsimp only;by_cases hc:o.form<(lv:Int)∨(own:Int)<o.form∨(own=4∧o.form=4)
     ·rw[if_pos hc,zMl,dt hc]
      exact⟨rfl,hs⟩
     ·rw[if_neg hc,zMl,df hc,cf,hs.step]
      have ht:=zR hs.wf hk
      have e1:w64 ((YP (some o)).2.2+1)=((f+1:Nat):Int):=by
       show w64 (o.form+1)=_
       rw[hf,xv (by omega) (by omega)];rfl
      rw[e1,Option.bind_assoc];have ih2:=ih (K+1) (f+1) r'.tail (by have:=ht.lt;omega) (by omega) (by omega) (hs.aft ht.e);rw[hf,Int.toNat_natCast]
      refine ih2.bind fun e2 r2 h2 hs2=>?_
      have hq:=ht.trans (xE ht.wf h2).e;have:=ihm r2 f (zm6 o.op e e2) Q (by have:=hq.lt;omega) (by omega) (by have:=hq.lt;omega) hs2;refine Eq.mp ?_ this
      congr 4
      simp only[fE,YP,hf,zm6];cases e;cases e2;rfl
  rw[z7,zQn hl h.wf]
  refine(zsl h ihE).bind fun x r1 h1 hs1=>?_
  have hq:=zzx h.wf h1;exact loop (r1.length+1) r1 x.1 x.2 KK (by omega) (by have:=km (n:=r1.length+1) (by have:=hs1.lt;have:=hs1.len;omega);omega) hq.lt hs1
end Go.Proofs.YtffencjoddkghaaGreatDoor
namespace Go.Proofs.YtffencjoddkghaaGreatDoor
open Go Go.RowKit Go.Eng Go.EV Go.EQ
variable[Fuel]
def PR{α:Type}(x:Except EE (α×List Token))(p:Option EE):Prop:=match x with
 |.ok _=>p=none
 |.error e=>p=some e
theorem RT.pr{α β:Type}{l:List Token}{x:Except EE (α×List Token)}{s:Option β}{p:Option EE}{f:α→Int→β}(h:RT l x s p f):PR x p:=by
 match x,h with
 |.ok (v,r),h=>exact h.2.1
 |.error e,h=>exact h.2
theorem rt_of{α β:Type}{l:List Token}{x:Except EE (α×List Token)}{s:Option β}{p:Option EE}{f:α→Int→β}(h:SR l x s f)(k:PR x p):RT l x s p f:=by
 match x,h,k with
 |.ok (v,r),h,k=>exact⟨h.1,k,h.2⟩
 |.error e,h,k=>exact⟨h,k⟩
theorem PR.bind{α β α':Type}{l:List Token}{x:Except EE (α×List Token)}{s:Option β}{p:Option EE}{f:α→Int→β}{g:α→List Token→Except EE (α'×List Token)}{p2:β→Option EE}
  (hs:SR l x s f) (h:PR x p) (h2:∀v r,x=.ok (v,r)→St l r→PR (g v r) (p2 (f v (zA l r)))):PR (thn x g) (orC p (fun q=>some q) (s.bind p2)):=by
 match x,hs,h,h2 with
 |.error e,hs,h,_=>show _=some e;rw[show p=some e from h];rfl
 |.ok (v,r),⟨hs,hst⟩,h,h2 =>
  have:=h2 v r rfl hst;rw[show p=none from h,hs];exact this
theorem PR.last{α β α':Type}{l:List Token}{x:Except EE (α×List Token)}{s:Option β}{p:Option EE}{f:α→Int→β}{g:α→List Token→α'}(hs:SR l x s f)(h:PR x p):PR (thn x fun v r=>.ok (g v r,r)) (orC p (fun q=>some q) (s.bind fun _=>none)):=PR.bind hs h fun _ _ _ _=>rfl
section
variable{l r:List Token}
theorem zQp{K:Nat}(h:St l r)(ihS:∀(lv:Nat)(r':List Token),lv≤8→r'.length<r.length→St l r'→SR l (DE lv r') (z7 KK l (zA l r') (lv:Int)) fE)
  (ihE:∀(lv:Nat)(r':List Token),lv≤8→r'.length<r.length→St l r'→PR (DE lv r') (yK K l (zA l r') (lv:Int))):
  PR (thn (zcb r) fun e r=>.ok ((8,e),r)) ((xj l (zA l r)).bind fun x21=>(bif x21 then(orC (qK l (zA l r) 0 1099511627776) (fun x22=>some x22) ((vX l (zA l r) 0 1099511627776).bind fun _=>none))else(xd l (zA l r) xG).bind fun x24=>(bif x24.1 then(orC (vH l x24.2) (fun x25=>some x25) ((yW l x24.2).bind fun x26=>(orC (vH l x26.2) (fun x27=>some x27) ((yW l x26.2).bind fun _=>none))))else(xd l x24.2 wH).bind fun x29=>(bif x29.1 then(orC (vH l x29.2) (fun x30=>some x30) ((yW l x29.2).bind fun _=>none))else(xd l x29.2 HA).bind fun x32=>(bif x32.1 then(orC (yK K l x32.2 0) (fun x33=>some x33) ((z7 KK l x32.2 0).bind fun x34=>(orC (uS l x34.1 AG) (fun x35=>some x35) ((vG l x34.1 AG).bind fun _=>none))))else(orC (vH l x32.2) (fun x37=>some x37) ((yW l x32.2).bind fun _=>none))))))):=by
 unfold zcb;rw[JV h,bsQ]
 cases hn:Jk r with
 |true =>
  rw[if_pos rfl,ctQ,zy];exact PR.last (Zp h 0 1099511627776).sr (Zp h 0 1099511627776).pr
 |false =>
  rw[if_neg (by simp),cf,zie h,bsQ]
  cases hb:isB xG r with
  |true =>
   have ht:=h.tail (zl hb);simp only[if_true,ctQ,zy]
   exact PR.bind (Ae ht).sr (Ae ht).pr fun v r1 _ hs=>PR.last (Ae hs).sr (Ae hs).pr
  |false =>
   simp only[if_neg (show ¬(false=true) by simp),cf];rw[zie h,bsQ]
   cases hz:isB wH r with
   |true =>
    have ht:=h.tail (zl hz);simp only[if_true,ctQ,zy];exact PR.last (Ae ht).sr (Ae ht).pr
   |false =>
    simp only[if_neg (show ¬(false=true) by simp),cf];rw[zie h,bsQ]
    cases hp:isB HA r with
    |true =>
     have ht:=h.tail (zl hp);simp only[if_true,ctQ,zy]
     exact PR.bind (ihS 0 r.tail (by omega) (oF h.wf) ht) (ihE 0 r.tail (by omega) (oF h.wf) ht) fun v r1 _ hs=>PR.last (Km hs _).sr (Km hs _).pr
    |false =>
     simp only[if_neg (show ¬(false=true) by simp),cf,zy];exact PR.last (Ae h).sr (Ae h).pr
theorem zEo{K lv:Nat}(h:St l r)(ihS:∀(lv:Nat)(r':List Token),lv≤8→r'.length<r.length→St l r'→SR l (DE lv r') (z7 KK l (zA l r') (lv:Int)) fE)
  (ihE:∀(lv:Nat)(r':List Token),lv≤8→r'.length<r.length→St l r'→PR (DE lv r') (yK K l (zA l r') (lv:Int))):PR (PX lv r) (qL (K+1) l (zA l r) (lv:Int)):=by
 rw[qL];have e0:=W2 h zah lv 0;rw[show((0:Nat):Int)=0 from rfl]at e0;rw[e0,bsQ];unfold PX;by_cases c0:lv≤0∧isB zah r=true
 ·rw[if_pos c0,if_pos c0]
  have ht:=zR h.wf (zl c0.2);have hst:=h.aft ht.e;simp only[ctQ,ifS,zy]
  refine PR.bind (ihS 0 r.tail (by omega) ht.lt hst) (ihE 0 r.tail (by omega) ht.lt hst) fun a r1 h1 hs1=>?_
  have q1:=ht.trans (xE ht.wf h1).e
  refine PR.bind (Km hs1 _).sr (Km hs1 _).pr fun _ r2 h2 hs2=>?_
  have q2:=q1.trans (xw q1.wf h2).e
  refine PR.bind (ihS 0 r2 (by omega) q2.lt hs2) (ihE 0 r2 (by omega) q2.lt hs2) fun b r3 h3 hs3=>?_
  have q3:=q2.trans (xE q2.wf h3).e
  refine PR.bind (Km hs3 _).sr (Km hs3 _).pr fun _ r4 h4 hs4=>?_
  have q4:=q3.trans (xw q3.wf h4).e;exact PR.last (ihS 0 r4 (by omega) q4.lt hs4) (ihE 0 r4 (by omega) q4.lt hs4)
 ·rw[if_neg c0,if_neg c0]
  simp only[cf];have e3:=W2 h ox lv 3;rw[show((3:Nat):Int)=3 from rfl]at e3;rw[e3,bsQ];by_cases c3:lv≤3∧isB ox r=true
  ·rw[if_pos c3,if_pos c3]
   have ht:=zR h.wf (zl c3.2);have hst:=h.aft ht.e;simp only[ctQ];exact PR.last (ihS 3 r.tail (by omega) ht.lt hst) (ihE 3 r.tail (by omega) ht.lt hst)
  ·rw[if_neg c3,if_neg c3]
   simp only[cf];have e7:=W2 h yT lv 7;rw[show((7:Nat):Int)=7 from rfl]at e7;rw[e7,bsQ];by_cases c7:lv≤7∧isB yT r=true
   ·rw[if_pos c7,if_pos c7]
    have ht:=zR h.wf (zl c7.2);have hst:=h.aft ht.e;simp only[ctQ];exact PR.last (ihS 7 r.tail (by omega) ht.lt hst) (ihE 7 r.tail (by omega) ht.lt hst)
   ·rw[if_neg c7,if_neg c7]
    simp only[cf];exact zQp h ihS ihE
end
theorem Ag:18446744073709551616≤KK:=Fuel.big
theorem zpo{l r:List Token}{lv:Nat}(hl:lv≤8)(h:St l r):SR l (DE lv r) (z7 KK l (zA l r) (lv:Int)) fE:=by
 have h1:=h.lt;have h2:=h.len;have h3:=Ag;exact zHb l (r.length+1) KK lv r (by omega) (by omega) hl h
theorem zQq(l:List Token):∀(n K lv:Nat)(r:List Token),r.length<n→2*n≤K→lv≤8→St l r→PR (DE lv r) (yK K l (zA l r) (lv:Int)):=by
 intro n
 induction n with
 |zero=>intro K lv r h;omega
 |succ n ih =>
  intro K lv r hn hK hl h
  obtain⟨K,rfl⟩:∃k,K=k+2:=⟨K-2,by omega⟩
  have ihE:∀(lv:Nat)(r':List Token),lv≤8→r'.length<r.length→St l r'→PR (DE lv r') (yK K l (zA l r') (lv:Int)):=fun lv r' h1 h2 h3=>ih K lv r' (by omega) (by omega) h1 h3
  have loop:∀(m:Nat)(r':List Token)(own:Nat)(e:Expr)(Q:Nat),r'.length<m→m≤Q→r'.length<r.length→St l r' →
    PR (CL lv own e r') ((vL (yK (K+1)) l (lv:Int) 0 ([]:List UInt8) [] Q (zA l r',(own:Int),e.Op,e.N,e.S,e.Key,e.Args)).bind (xB some fun _=>none)):=by
   intro m
   induction m with
   |zero=>intro r' own e Q h;omega
   |succ m ihm =>
    intro r' own e Q hm hQ hlt hs
    obtain⟨Q,rfl⟩:∃k,Q=k+1:=⟨Q-1,by omega⟩
    rw[vL,show wI=some OPS from rfl,bsQ,show((List.length OPS:Nat):Int)=10 from rfl,zzz hs,bsQ];simp only;rw[zHa lv own _ (fun x hx=>(vI hx).2.1),bsQ,zQm hs.wf]
    cases ho:opR r' with
    |none=>exact rfl
    |some o =>
     obtain⟨hk,hmem,_⟩:=vI ho;obtain⟨f,hf,hf2,_⟩:=VA hmem;dsimp only;by_cases hc:o.form<(lv:Int)∨(own:Int)<o.form∨(own=4∧o.form=4)
     ·rw[if_pos hc,zMl,dt hc]
      exact rfl
     ·rw[if_neg hc,zMl,df hc,cf,hs.step]
      have ht:=zR hs.wf hk
      have e1:w64 ((YP (some o)).2.2+1)=((f+1:Nat):Int):=by
       show w64 (o.form+1)=_
       rw[hf,xv (by omega) (by omega)];rfl
      rw[e1];have hst:=hs.aft ht.e;have hS:=zpo (lv:=f+1) (by omega) hst;have hP:=ih (K+1) (f+1) r'.tail (by have:=ht.lt;omega) (by omega) (by omega) hst;rw[hf,Int.toNat_natCast]
      cases hx:DE (f+1) r'.tail with
      |error er =>
       rw[hx]at hP;rw[show yK (K+1) l (zA l r'.tail) ((f+1:Nat):Int)=some er from hP];rfl
      |ok y =>
       obtain⟨e2,r2⟩:=y;rw[hx]at hP hS;have hq:=ht.trans (xE ht.wf hx).e;have hs2:=hS.2;rw[show yK (K+1) l (zA l r'.tail) ((f+1:Nat):Int)=none from hP,hS.1];have:=ihm r2 f (zm6 o.op e e2) Q (by have:=hq.lt;omega) (by omega) (by have:=hq.lt;omega) hs2;refine Eq.mp ?_ this
       show _=PR (CL lv f (zm6 o.op e e2) r2) _
       congr 4
       simp only[fE,YP,hf,zm6];cases e;cases e2;rfl
  rw[yK,zQn hl h.wf]
  have hS:SR l (PX lv r) (vY KK l (zA l r) (lv:Int)) fP:=by
   have h3:=Ag;have h1:=h.lt;have h2:=h.len
   obtain⟨k,hk⟩:∃k,KK=k+1:=⟨KK-1,by omega⟩
   rw[hk]
   exact zsl h fun lv r' q1 q2 q3=>zHb l (r'.length+1) k lv r' (by omega) (by omega) q1 q3
  refine PR.bind hS (zEo h (fun lv r' q1 q2 q3=>zpo q1 q3) ihE) fun x r1 h1 hs1=>?_
  have hq:=zzx h.wf h1;exact loop (r1.length+1) r1 x.1 x.2 KK (by omega) (by have:=km (n:=r1.length+1) (by have:=hs1.lt;have:=hs1.len;omega);omega) hq.lt hs1
theorem zHc{l r:List Token}{lv:Nat}(hl:lv≤8)(h:St l r):RT l (DE lv r) (z7 KK l (zA l r) (lv:Int)) (yK KK l (zA l r) (lv:Int)) fE:=by
 have h1:=h.lt;have h2:=h.len;have h3:=Ag;exact rt_of (zpo hl h) (zQq l (r.length+1) KK lv r (by omega) (by omega) hl h)
theorem W3(b:BB):zn b=wC b.l b.i:=rfl
theorem is2(b:BB)(s:List UInt8):wD b s=zao b.l b.i s:=rfl
theorem has2(b:BB)(s:List UInt8):zD b s=xd b.l b.i s:=rfl
theorem uE(b:BB)(c:Bool)(e:Int):zh b c e=yq b.l b.i c e:=rfl
theorem Hl(b:BB)(c:Bool)(e:Int):zr b c e=xC b.l b.i c e:=rfl
theorem zKs(b:BB)(s:List UInt8):zw b s=vG b.l b.i s:=rfl
theorem zHd(b:BB)(s:List UInt8):yc b s=uS b.l b.i s:=rfl
theorem zcd(b:BB):yb b=xj b.l b.i:=rfl
theorem kp(b:BB):zJ b=qJ b.l b.i:=rfl
theorem K4(b:BB):zL b=yW b.l b.i:=rfl
theorem YH(b:BB):yH b=vH b.l b.i:=rfl
theorem zpp(b:BB)(x y:Int):zk b x y=vX b.l b.i x y:=rfl
theorem zsm(b:BB)(x y:Int):zB b x y=qK b.l b.i x y:=rfl
theorem L2_2(b:BB)(c1:Int){c17 c18 c21 c24 c25 d2 d3 d6 d9 d10:Int}{ops:List zg}{n:Int}{c22 c26 c27 d7 d11 d12:List UInt8}{c23 c28 d8 d13:List Expr}:∀(K:Nat)(q:Int×List UInt8×Int×Int),
  jw b c1 c17 c18 ops n c21 c22 c23 c24 c25 c26 c27 c28 K q=xq b.l c1 d2 d3 ops n d6 d7 d8 d9 d10 d11 d12 d13 K q
 |0,q=>rfl
 |K+1,q=>by
  rw[jw,xq];simp only[is2,L2_2 b c1 (d2:=d2) (d3:=d3) (d6:=d6) (d7:=d7) (d8:=d8) (d9:=d9) (d10:=d10) (d11:=d11) (d12:=d12) (d13:=d13) K]
theorem zQr(b:BB)(c1:Int){c17 c18 c21 c24 c25 d2 d3 d6 d9 d10:Int}{ops:List zg}{n:Int}{c22 c26 c27 d7 d11 d12:List UInt8}{c23 c28 d8 d13:List Expr}:∀(K:Nat)(q:Int×List UInt8×Int×Int),
  jB b c1 c17 c18 ops n c21 c22 c23 c24 c25 c26 c27 c28 K q=wJ b.l c1 d2 d3 ops n d6 d7 d8 d9 d10 d11 d12 d13 K q
 |0,q=>rfl
 |K+1,q=>by
  rw[jB,wJ];simp only[is2,zQr b c1 (d2:=d2) (d3:=d3) (d6:=d6) (d7:=d7) (d8:=d8) (d9:=d9) (d10:=d10) (d11:=d11) (d12:=d12) (d13:=d13) K]
theorem L1_2{r1:BB→Int→Option (Int×Int×Int×(List UInt8)×(List UInt8)×(List Expr))}{r2:(List Token)→Int→Int→Option (Int×Int×Int×(List UInt8)×(List UInt8)×(List Expr))}(hr:∀b f,r1 b f=r2 b.l b.i f)(b:BB)(c1 c2:Int)(c3:List UInt8)(c4:List Expr):∀(K:Nat) q,
  jx r1 b c1 c2 c3 c4 K q=vK r2 b.l c1 c2 c3 c4 K q
 |0,q=>rfl
 |K+1,q=>by
  rw[jx,vK];simp only[hr,L1_2 hr b c1 c2 c3 c4 K,L2_2 { b with i:=0 } q.1 (d2:=c1) (d3:=q.2.1) (d6:=c2) (d7:=c3) (d8:=c4) (d9:=q.2.2.1) (d10:=q.2.2.2.1) (d11:=q.2.2.2.2.1) (d12:=q.2.2.2.2.2.1) (d13:=q.2.2.2.2.2.2)]
theorem zmm:∀K:Nat,(∀b f,kT K b f=vY K b.l b.i f)∧(∀b f,z6 K b f=z7 K b.l b.i f)
 |0=>⟨fun _ _=>rfl,fun _ _=>rfl⟩
 |K+1=>by
  have ih:=zmm K;refine⟨fun b f=>?_,fun b f=>?_⟩
  ·rw[kT,vY]
   simp only[has2,zKs,K4,zpp,zcd,ih.2]
  ·rw[z6,z7]
   simp only[ih.1,L1_2 ih.2]
theorem zQs{r1:BB→Int→Option (Int×Int)}{r2:(List Token)→Int→Int→Option (Int×Int)}(hr:∀b f,r1 b f=r2 b.l b.i f)(b:BB)(c1 c2:Int)(c3:List UInt8)(c4:List Expr):∀(K:Nat) q,
  jC r1 b c1 c2 c3 c4 K q=vL r2 b.l c1 c2 c3 c4 K q
 |0,q=>rfl
 |K+1,q=>by
  rw[jC,vL];simp only[hr,zQs hr b c1 c2 c3 c4 K,(zmm KK).2,zQr { b with i:=0 } q.1 (d2:=c1) (d3:=q.2.1) (d6:=c2) (d7:=c3) (d8:=c4) (d9:=q.2.2.1) (d10:=q.2.2.2.1) (d11:=q.2.2.2.2.1) (d12:=q.2.2.2.2.2.1) (d13:=q.2.2.2.2.2.2)]
theorem zHe:∀K:Nat,(∀b f,uT K b f=qL K b.l b.i f)∧(∀b f,yY K b f=yK K b.l b.i f)
 |0=>⟨fun _ _=>rfl,fun _ _=>rfl⟩
 |K+1=>by
  have ih:=zHe K;refine⟨fun b f=>?_,fun b f=>?_⟩
  ·rw[uT,qL]
   simp only[has2,zKs,zHd,K4,YH,zpp,zsm,zcd,ih.2,(zmm KK).2]
  ·rw[yY,yK]
   simp only[ih.1,zQs ih.2,(zmm KK).1]
-- the builder at a place
structure At(b:BB)(r:List Token):Prop where
 st:St b.l r
 at_:b.i=zA b.l r
section
variable{b:BB}{r:List Token}
theorem At.next(h:At b r):zn b=some ((hdT r).Kind,(hdT r).Text,(hdT r).N,(hdT r).Pos):=by rw[W3,h.at_,Kl h.st]
theorem At.is(h:At b r)(s:List UInt8):wD b s=some (isB s r):=by rw[is2,h.at_,q_is h.st]
theorem At.has(h:At b r)(s:List UInt8):zD b s=some (isB s r,if isB s r then zA b.l r.tail else zA b.l r):=by rw[has2,h.at_,zie h.st]
theorem At.isNumber(h:At b r):yb b=some (Jk r):=by rw[zcd,h.at_,JV h.st]
theorem At.isName(h:At b r):zJ b=some (zfg r):=by rw[kp,h.at_,zsj h.st]
theorem At.check(h:At b r)(c:Bool)(e:Int):RT b.l (oa c e r) (zh b c e) (zr b c e) (fun _ _=>()):=by rw[uE,Hl,h.at_];exact zb9 h.st c e
theorem At.want(h:At b r)(s:List UInt8):RT b.l (vD s r) (zw b s) (yc b s) (fun _ i=>i):=by rw[zKs,zHd,h.at_];exact Km h.st s
theorem At.name(h:At b r):RT b.l (uL r) (zL b) (yH b) (fun v i=>(v,i)):=by rw[K4,YH,h.at_];exact Ae h.st
theorem At.number(h:At b r)(lo hi:Int):RT b.l (Ad lo hi r) (zk b lo hi) (zB b lo hi) (fun v i=>(v,i)):=by rw[zpp,zsm,h.at_];exact Zp h.st lo hi
theorem At.expr(h:At b r):RT b.l (DE 0 r) (z6 KK b 0) (yY KK b 0) fE:=by rw[(zmm KK).2,(zHe KK).2,h.at_];exact zHc (lv:=0) (by omega) h.st
theorem At.step(h:At b r):w64 (b.i+1)=zA b.l r.tail:=by rw[h.at_,h.st.step]
end
theorem yh{b b2:BB}{r:List Token}(hl:b2.l=b.l)(hi:b2.i=zA b.l r)(h:St b.l r):At b2 r:=⟨by rw[hl];exact h,by rw[hi,hl]⟩
def RR{α β:Type}(l:List Token)(x:Except EE (α×List Token))(s:Option β)(p:Option EE)(S:α→Int→β→Prop):Prop:=match x with
 |.ok (v,r)=>(∃y,s=some y∧S v (zA l r) y)∧p=none∧St l r
 |.error e=>s=none∧p=some e
def RJ{α γ:Type}(l:List Token)(x:Except EE (α×List Token))(s:Option γ)(p:Option (EE⊕γ))(f:α→Int→γ):Prop:=match x with
 |.ok (v,r)=>s=some (f v (zA l r))∧p=some (.inr (f v (zA l r)))∧St l r
 |.error e=>s=none∧p=some (.inl e)
section
variable{α β α' β' γ δ:Type}{l:List Token}{x:Except EE (α×List Token)}{s:Option β}{p:Option EE}{f:α→Int→β}{g:α→List Token→Except EE (α'×List Token)}{s2:β→Option β'}{p2:β→Option EE}{f2:α'→Int→β'}
theorem RT.rr(h:RT l x s p f):RR l x s p (fun v i y=>y=f v i):=by
 match x,h with
 |.ok (v,r),h=>exact⟨⟨_,h.1,rfl⟩,h.2.1,h.2.2⟩
 |.error e,h=>exact h
theorem RR.rt(h:RR l x s p (fun v i y=>y=f v i)):RT l x s p f:=by
 match x,h with
 |.ok (v,r),⟨⟨y,h1,h2⟩,h3,h4⟩=>exact⟨by rw[h1,h2],h3,h4⟩
 |.error e,h=>exact h
theorem RR.bind{S:α→Int→β→Prop}{S2:α'→Int→β'→Prop}(h:RR l x s p S)(h2:∀v r y,x=.ok (v,r)→St l r→S v (zA l r) y→RR l (g v r) (s2 y) (p2 y) S2):RR l (thn x g) (s.bind s2) (orC p (fun q=>some q) (s.bind p2)) S2:=by
 match x,h,h2 with
 |.error e,⟨h,h'⟩,_=>exact⟨by rw[h];rfl,by rw[h'];rfl⟩
 |.ok (v,r),⟨⟨y,h,hy⟩,h',hs⟩,h2 =>
  have:=h2 v r y rfl hs hy;rw[h,h'];exact this
theorem RT.bindR{S2:α'→Int→β'→Prop}(h:RT l x s p f)(h2:∀v r,x=.ok (v,r)→St l r→RR l (g v r) (s2 (f v (zA l r))) (p2 (f v (zA l r))) S2):RR l (thn x g) (s.bind s2) (orC p (fun q=>some q) (s.bind p2)) S2 :=
 h.rr.bind fun v r y h1 hs hy=>by subst hy;exact h2 v r h1 hs
theorem RJ.bindR{sj:Option γ}{pj:Option (EE⊕γ)}{fj:α→Int→γ}{s2:γ→Option β'}{p2:γ→Option EE}{S2:α'→Int→β'→Prop}(h:RJ l x sj pj fj)(h2:∀v r,x=.ok (v,r)→St l r→RR l (g v r) (s2 (fj v (zA l r))) (p2 (fj v (zA l r))) S2):RR l (thn x g) (sj.bind s2) (pj.bind (xB some p2)) S2:=by
 match x,h,h2 with
 |.error e,⟨h,h'⟩,_=>exact⟨by rw[h];rfl,by rw[h'];rfl⟩
 |.ok (v,r),⟨h,h',hs⟩,h2 =>
  have:=h2 v r rfl hs;rw[h,h'];exact this
theorem RJ.bindT{sj:Option γ}{pj:Option (EE⊕γ)}{fj:α→Int→γ}{s2:γ→Option β'}{p2:γ→Option EE}(h:RJ l x sj pj fj)(h2:∀v r,x=.ok (v,r)→St l r→RT l (g v r) (s2 (fj v (zA l r))) (p2 (fj v (zA l r))) f2):RT l (thn x g) (sj.bind s2) (pj.bind (xB some p2)) f2 :=
 (h.bindR fun v r h1 hs=>(h2 v r h1 hs).rr).rt
theorem RT.bindJ{s2:β→Option γ}{p2:β→Option (EE⊕γ)}{fj:α'→Int→γ}(h:RT l x s p f)(h2:∀v r,x=.ok (v,r)→St l r→RJ l (g v r) (s2 (f v (zA l r))) (p2 (f v (zA l r))) fj):RJ l (thn x g) (s.bind s2) (orC p (fun q=>some (.inl q)) (s.bind p2)) fj:=by
 match x,h,h2 with
 |.error e,⟨h,h'⟩,_=>exact⟨by rw[h];rfl,by rw[h'];rfl⟩
 |.ok (v,r),⟨h,h',hs⟩,h2 =>
  have:=h2 v r rfl hs;rw[h,h'];exact this
theorem RR.ret{r:List Token}{v:α}{y:β}{S:α→Int→β→Prop}(hs:St l r)(hy:S v (zA l r) y):RR l (.ok (v,r)) (some y) none S:=⟨⟨y,rfl,hy⟩,rfl,hs⟩
theorem RTS.rt{sj:Option (β⊕γ)}{pj:Option (EE⊕δ)}{k:γ→Option β}{k2:δ→Option EE}(h:RTS l x sj pj f):RT l x (sj.bind (xB some k)) (pj.bind (xB some k2)) f:=by
 match x,h with
 |.ok (v,r),⟨h,h',hs⟩=>exact⟨by rw[h];rfl,by rw[h'];rfl,hs⟩
 |.error e,⟨h,h'⟩=>exact⟨by rw[h];rfl,by rw[h'];rfl⟩
theorem RT.bindS{s2:β→Option (β'⊕γ)}{p2:β→Option (EE⊕δ)}(h:RT l x s p f)(h2:∀v r,x=.ok (v,r)→St l r→RTS l (g v r) (s2 (f v (zA l r))) (p2 (f v (zA l r))) f2):RTS l (thn x g) (s.bind s2) (orC p (fun q=>some (.inl q)) (s.bind p2)) f2:=by
 match x,h,h2 with
 |.error e,⟨h,h'⟩,_=>exact⟨by rw[h];rfl,by rw[h'];rfl⟩
 |.ok (v,r),⟨h,h',hs⟩,h2 =>
  have:=h2 v r rfl hs;rw[h,h'];exact this
end
-- what is read
def vn(known:List (List UInt8))(r:List Token):Except EE (List UInt8×List Token):=if zfg r then(if(hdT r).Text∈known then .error (YO r 5)else .ok ((hdT r).Text,r.tail))else .error (YO r 14)
def jO(most:Int)(r:List Token):Except EE (Int×List Token):=if isB yT r then thn (Ad 0 most r.tail) fun n r=>.ok (0-n,r)else Ad 0 most r
def wV(w:List (List UInt8))(r:List Token):Except EE (Int×List Token):=if(hdT r).Kind=0 then(match vC (hdT r).Text w with|some i=>.ok ((i:Int),r.tail)|none=>.error (YO r 14))else .error (YO r 14)
def kq:Nat→List zG→List Token→Except EE (List zG×List Token)
 |0,_,_=>oof
 |n+1,acc,r=>thn (Ad 0 1048576 r) fun x r=>thn (Ad 0 1048576 r) fun y r=>if Jk r then kq n (acc++[zG.mk x y]) r else .ok (acc++[zG.mk x y],r)
def Ko(r:List Token):Except EE (zf×List Token):=thn (Ad 0 1048576 r) fun x r=>thn (Ad 0 1048576 r) fun y r=>thn (Ad 0 4096 r) fun z r=>.ok (zf.mk x y z,r)
def zvg(c:Bool)(e:Int)(r:List Token):Except EE (Unit×List Token):=thn (oa (isB yi r) 14 r) fun _ r=>thn (oa c e r) fun _ r=>.ok ((),r.tail)
def YQ:Nat→List (List UInt8)→List Token→Except EE (List (List UInt8)×List Token)
 |0,_,_=>oof
 |n+1,acc,r=>if zfg r then thn (uL r) fun s r=>YQ n (acc++[s]) r else .ok (acc,r)
def K5(r:List Token):Except EE (List (List UInt8)×List Token):=thn (uL r) fun s r1=>YQ (r1.length+1) [s] r1
def KN(m:List (List UInt8×Bool))(L:List (List UInt8)):Prop:=∀x,(xz x m).getD false=decide (x∈L)
def MN(D:List (List (List UInt8×Bool)))(L:List (List UInt8)):Prop:=(D=[]∧L=[])∨∃m,D=[m]∧KN m L
theorem zHf:KN [] []:=fun x=>by simp[xz]
theorem zfi{α β:Type}[DecidableEq α](a x:α)(b:β):∀l:List (α×β),xz x (uP a b l)=if x=a then some b else xz x l
 |[]=>by simp[uP,xz]
 |(k,c)::r=>by
  have ih:=zfi a x b r;simp only[uP];by_cases h:a=k
  ·rw[if_pos h]
   subst h;by_cases h2:x=a
   ·simp[xz,h2]
   ·simp[xz,h2]
  ·rw[if_neg h]
   simp only[xz,ih];by_cases h2:x=k
   ·subst h2
    simp[Ne.symm h]
   ·simp[h2]
theorem KN.add{m:List (List UInt8×Bool)}{L:List (List UInt8)}(h:KN m L)(s:List UInt8):KN (uP s true m) (L++[s]):=fun x=>by
 rw[zfi];by_cases e:x=s
 ·simp[e]
 ·rw[if_neg e,h x]
  exact yn (by simp[e])
section
variable{b:BB}{r:List Token}
theorem zmn{known:List (List UInt8×Bool)}{L:List (List UInt8)}(h:At b r)(hk:KN known L):RT b.l (vn L r) (ya b known) (yj b known) (fun v i=>(v,i,uP v true known)):=by
 unfold ya yj vn;simp only[h.isName,bsQ,h.next,uE,Hl,h.at_];have hc:=zb9 h.st;have hn:=h.name;unfold uL at hn
 cases hb:zfg r with
 |false =>
  have:=hc false 14;rw[show oa false 14 r=.error (YO r 14) from rfl]at this;rw[this.1,this.2];exact⟨rfl,rfl⟩
 |true =>
  rw[hb]at hn;have h1:=hc true 14;rw[show oa true 14 r=.ok ((),r) from rfl]at h1;rw[h1.1,h1.2.1];simp only[bsQ,orC,if_true];rw[hk (hdT r).Text];by_cases hm:(hdT r).Text∈L
  ·rw[if_pos hm,dt hm]
   have h2:=hc false 5;rw[show oa false 5 r=.error (YO r 5) from rfl]at h2;rw[Bool.not_true,h2.1,h2.2];exact⟨rfl,rfl⟩
  ·rw[if_neg hm,df hm]
   have h2:=hc true 5;rw[show oa true 5 r=.ok ((),r) from rfl]at h2;rw[Bool.not_false,h2.1,h2.2.1];obtain⟨n1,n2,n3⟩:=hn;simp only[bsQ,orC];rw[n1,n2];exact⟨rfl,rfl,n3⟩
theorem VB(h:At b r)(most:Int)(hm:most≤1099511627776):RT b.l (jO most r) (xQ b most) (j5 b most) (fun v i=>(v,i)):=by
 unfold xQ j5 jO;rw[h.has,bsQ,bsQ]
 cases hb:isB yT r with
 |true =>
  simp only[if_true,ctQ];have h2:At { b with i:=zA b.l r.tail } r.tail:=yh rfl rfl (h.st.tail (zl hb))
  refine(h2.number 0 most).bind fun v r1 h1 hs=>?_
  have hw:w64 (0-v)=0-v:=by
   unfold Ad at h1;split at h1
   ·split at h1
    ·cases h1;rename_i hh;exact xv (by omega) (by omega)
    ·cases h1
   ·cases h1
  show RT _ _ (some (w64 (0-v),_)) _ _
  rw[hw];exact⟨rfl,rfl,hs⟩
 |false =>
  simp only[if_neg (show ¬(false=true) by simp),cf];have h2:At { b with i:=zA b.l r } r:=yh rfl rfl h.st
  have:=(h2.number 0 most).bind (g:=fun v r=>.ok (v,r)) (s2:=fun x3=>some (x3.1,x3.2)) (p2:=fun _=>none) (f2:=fun v i=>(v,i)) fun v r1 h1 hs=>⟨rfl,rfl,hs⟩
  rw[oc]at this;exact this
theorem zKt(w:List (List UInt8))(s:List UInt8)(hw:w.length<1000):∀(k:List (List UInt8))(i K:Nat),w.drop i=k→i≤w.length→k.length<K→xl w s (w.length:Int) K (i:Int)=some (match vC s k with|some j=>.inl ((i+j:Nat):Int)|none=>.inr ()):=by
 intro k
 induction k with
 |nil =>
  intro i K hr hi hK
  obtain⟨K,rfl⟩:∃k,K=k+1:=⟨K-1,by omega⟩
  have:=drop_nil hr hi;rw[xl,df (by omega)];rfl
 |cons c k ih =>
  intro i K hr hi hK
  obtain⟨K,rfl⟩:∃k,K=k+1:=⟨K-1,by omega⟩
  obtain⟨h1,h2,h3⟩:=yA hr;simp only[lc]at hK;rw[xl,dt (by omega),ctQ,yv h1,bsQ,vC];by_cases hc:c=s
  ·rw[dt hc.symm,if_pos hc];rfl
  ·rw[df (fun e=>hc e.symm),if_neg hc,cf,xL (by omega),ih (i+1) K h2 (by omega) (by omega)]
   cases vC s k with
   |none=>rfl
   |some j=>simp only[Option.map_some];congr 3;omega
theorem zsn{t:List UInt8}{w:List (List UInt8)}(ht:kB t=some w)(hw:w.length<1000)(s:List UInt8):KF t s=some (wy (vC s w)):=by
 unfold KF oz;have:=zKt w s hw w 0 KK rfl (by omega) (km (by omega));rw[show(((0:Nat):Int))=(0:Int) from rfl]at this;rw[ht,bsQ,this]
 cases vC s w with
 |none=>rfl
 |some j=>simp[xB,wy]
def USE:List (List UInt8):=[[104,111,109,101],[115,104,111,112],[119,111,114,107],[112,97,114,107],[112,108,97,110,116],[104,97,108,108]]
def LOAD:List (List UInt8):=[[104,111,109,101,115],[116,114,97,102,102,105,99],[114,117,110,111,102,102]]
theorem JW:kB zj=some USE:=by
 unfold kB QC;rw[zx (by refine⟨by decide,by decide,by decide,by decide⟩)];rfl
theorem zpq:kB zY=some LOAD:=by
 unfold kB QC;rw[zx (by refine⟨by decide,by decide,by decide,by decide⟩)];rfl
theorem VC(h:At b r){t:List UInt8}{w:List (List UInt8)}(ht:kB t=some w)(hw:w.length<1000):RT b.l (wV w r) (yX b t) (vd b t) (fun v i=>(v,i)):=by
 unfold yX vd wV;simp only[h.next,bsQ,zsn ht hw,uE,Hl,h.at_,h.st.step];have hc:=zb9 h.st;have h0:=hc false 14;rw[show oa false 14 r=.error (YO r 14) from rfl]at h0;by_cases hk:(hdT r).Kind=0
 ·rw[if_pos hk,dt hk,ctQ,ctQ]
  cases hf:vC (hdT r).Text w with
  |none =>
   rw[show decide (wy none≥0)=false from rfl,h0.1,h0.2];exact⟨rfl,rfl⟩
  |some i =>
   have h1:=hc true 14;rw[show oa true 14 r=.ok ((),r) from rfl]at h1;have:decide (wy (some i)≥0)=true:=dt (show((i:Int))≥0 by omega);rw[this,h1.1,h1.2.1];exact⟨rfl,rfl,h.st.tail (by omega)⟩
 ·rw[if_neg hk,df hk,cf,cf,h0.1,h0.2]
  exact⟨rfl,rfl⟩
theorem zig(h:At b r):RT b.l (Ko r) (jA b) (oX b) (fun v i=>(i,v.X,v.Y,v.Z_)):=by
 unfold jA oX Ko
 refine(h.number 0 1048576).bind fun x r1 h1 hs1=>?_
 have a1:At { b with i:=zA b.l r1 } r1:=yh rfl rfl hs1
 refine(a1.number 0 1048576).bind fun y r2 h2 hs2=>?_
 have a2:At { b with i:=zA b.l r2 } r2:=yh rfl rfl hs2
 exact(a2.number 0 4096).bind fun z r3 h3 hs3=>⟨rfl,rfl,hs3⟩
theorem K6(h:At b r)(n:Nat)(most:Nat)(hk:(hdT r).Kind≠3):RT b.l (thn (oa (decide (n<most)) 6 r) fun _ r=>.ok ((),r.tail)) (yC b (n:Int) (most:Int)) (vc b (n:Int) (most:Int)) (fun _ i=>i):=by
 unfold yC vc;rw[h.step,show decide ((n:Int)<(most:Int))=decide (n<most) from yn (by omega)]
 refine(h.check _ _).bind fun u r1 h1 hs=>?_
 unfold oa at h1;split at h1
 ·cases h1;exact⟨rfl,rfl,hs.tail hk⟩
 ·cases h1
theorem zmo(h:At b r)(c:Bool)(e:Int):RT b.l (zvg c e r) (vN b c e) (AP b c e) (fun _ i=>i):=by
 unfold vN AP zvg;rw[h.is,bsQ,bsQ,h.step]
 refine(h.check _ _).bind fun u r1 h1 hs1=>?_
 unfold oa at h1;split at h1
 ·rename_i hb
  cases h1
  refine(h.check _ _).bind fun u r1 h1 hs1=>?_
  unfold oa at h1;split at h1
  ·cases h1;exact⟨rfl,rfl,hs1.tail (zl hb)⟩
  ·cases h1
 ·cases h1
theorem zEp:∀(n:Nat)(r:List Token)(acc:List zG)(K:Nat),St b.l r→r.length<n→n≤K→acc.length+r.length≤2000000 →
  RTS b.l (kq n acc r) (jy b K (zA b.l r,acc)) (jD b K (zA b.l r,acc)) (fun v i=>(v,i)):=by
 intro n
 induction n with
 |zero=>intro r acc K hs hn;omega
 |succ n ih =>
  intro r acc K hs hn hK hacc
  obtain⟨K,rfl⟩:∃k,K=k+1:=⟨K-1,by omega⟩
  rw[kq,jy,jD];have a0:At { b with i:=zA b.l r } r:=yh rfl rfl hs
  refine(a0.number 0 1048576).bindS fun x r1 h1 hs1=>?_
  have q1:=wE hs.wf h1;have a1:At { b with i:=zA b.l r1 } r1:=yh rfl rfl hs1
  refine(a1.number 0 1048576).bindS fun y r2 h2 hs2=>?_
  have q2:=wE hs1.wf h2;have a2:At { b with i:=zA b.l r2 } r2:=yh rfl rfl hs2;have g1:=q1.lt;have g2:=q2.lt;dsimp only;rw[zx (by simp only[la,lc,List.length_nil];omega),bsQ,bsQ,a2.isNumber,bsQ,bsQ]
  cases hk:Jk r2 with
  |true =>
   simp only[if_true,Bool.not_true,cf];exact ih r2 _ K hs2 (by omega) (by omega) (by simp only[la,lc,List.length_nil];omega)
  |false=>exact⟨rfl,rfl,hs2⟩
theorem zce{l r:List Token}(h:St l r):r.length+1≤KK:=by
 have:=h.lt;have:=h.len;have:=Ag;omega
theorem zcf(h:At b r):RT b.l (kq (r.length+1) [] r) (xR b) (j6 b) (fun v i=>(v,i)):=by
 unfold xR j6;rw[h.at_];have:=h.st.lt;have:=h.st.len;exact(zEp (b:={ b with i:=0 }) (r.length+1) r [] KK h.st (Nat.lt_succ_self _) (zce h.st) (by simp;omega)).rt
theorem zQt:∀(n:Nat)(r:List Token)(acc:List (List UInt8))(K:Nat),St b.l r→r.length<n→n≤K→acc.length+r.length≤2000000 →
  RJ b.l (YQ n acc r) (ui b K (zA b.l r,acc)) (uq b K (zA b.l r,acc)) (fun v i=>(i,v)):=by
 intro n
 induction n with
 |zero=>intro r acc K hs hn;omega
 |succ n ih =>
  intro r acc K hs hn hK hacc
  obtain⟨K,rfl⟩:∃k,K=k+1:=⟨K-1,by omega⟩
  rw[YQ,ui,uq];have a0:At { b with i:=zA b.l r } r:=yh rfl rfl hs;rw[a0.isName,bsQ,bsQ]
  cases hk:zfg r with
  |true =>
   simp only[if_true,ctQ]
   refine a0.name.bindJ fun s r1 h1 hs1=>?_
   have q1:=wk hs.wf h1;have g1:=q1.lt;dsimp only;rw[zx (by simp only[la,lc,List.length_nil];omega),bsQ,bsQ];exact ih r1 _ K hs1 (by omega) (by omega) (by simp only[la,lc,List.length_nil];omega)
  |false=>exact⟨rfl,rfl,hs⟩
theorem zz0(h:At b r):RT b.l (K5 r) (qt b) (AT b) (fun v i=>(v,i)):=by
 unfold qt AT K5
 refine h.name.bind fun s r1 h1 hs1=>?_
 have:=hs1.lt;have:=hs1.len;have hL:=zQt (b:={ b with i:=0 }) (r1.length+1) r1 [s] KK hs1 (Nat.lt_succ_self _) (zce hs1) (by simp;omega)
 have:=hL.bindT (g:=fun v r=>.ok (v,r)) (s2:=fun x2=>some (x2.2,x2.1)) (p2:=fun _=>none) (f2:=fun v i=>(v,i)) fun v r2 h2 hs2=>⟨rfl,rfl,hs2⟩
 rw[oc]at this;exact this
end
end Go.Proofs.YtffencjoddkghaaGreatDoor
namespace Go.Proofs.YtffencjoddkghaaGreatDoor
open Go Go.RowKit Go.Eng Go.EV Go.EQ
variable[Fuel]
noncomputable def pd(p:Prop):Bool:=@decide p (Classical.propDecidable p)
theorem uF{p:Prop}:pd p=true↔p:=by unfold pd;exact @decide_eq_true_iff p (Classical.propDecidable p)
theorem W4{p:Prop}[Decidable p]:decide p=pd p:=yn Iff.rfl
theorem zih{b:Bool}{p:Prop}(h:b=true↔p):b=pd p:=by
 cases b with
 |true=>exact(uF.2 (h.1 rfl)).symm
 |false =>
  cases hp:pd p with
  |false=>rfl
  |true=>exact absurd (h.2 (uF.1 hp)) (by decide)
theorem zii{p q:Prop}(h:p↔q):pd p=pd q:=zih (uF.trans h)
theorem zmp{α β:Type}[Inhabited α][Inhabited β](a:List α)(b:List β)(G:α→β→Option Bool)(g:α→β→Bool)(L:Nat→Int→Option (Bool⊕Unit))
  (hL:∀K q,L (K+1) q=(bif (decide (q<((List.length a:Nat):Int)))then(idx a q).bind fun x=>(idx b q).bind fun y=>(G x y).bind fun r=>(bif (!r)then some (Sum.inl false)else L K (w64 (q+1)))else some (Sum.inr ())))
  (hs:a.length<4611686018427387904) (hl:b.length=a.length):
  ∀(r:List α)(t:List β)(i K:Nat),a.drop i=r→b.drop i=t→i≤a.length→r.length<K→(∀x∈r,∀y∈t,G x y=some (g x y))→L K (i:Int)=some (bif (r.zip t).all (fun p=>g p.1 p.2)then Sum.inr ()else Sum.inl false)
 |[],t,i,K,hr,ht,hi,hK,_=>by
  obtain⟨K,rfl⟩:∃k,K=k+1:=⟨K-1,by simp at hK;omega⟩
  have:=drop_nil hr hi;rw[hL,df (by omega)];simp
 |x::r,[],i,K,hr,ht,hi,hK,_=>by
  have h1:=drop_nil ht (by omega);obtain⟨_,_,h3⟩:=yA hr;omega
 |x::r,y::t,i,K,hr,ht,hi,hK,hG=>by
  obtain⟨K,rfl⟩:∃k,K=k+1:=⟨K-1,by simp at hK;omega⟩
  obtain⟨h1,h2,h3⟩:=yA hr;obtain⟨k1,k2,k3⟩:=yA ht;simp only[lc]at hK;rw[hL,dt (by omega),ctQ,yv h1,bsQ,yv k1,bsQ,hG x (List.mem_cons_self ..) y (List.mem_cons_self ..),bsQ];simp only[List.zip_cons_cons,List.all_cons]
  cases hg:g x y with
  |false=>rfl
  |true =>
   simp only[Bool.not_true,cf,Bool.true_and];rw[xL (by omega)]
   exact zmp a b G g L hL hs hl r t (i+1) K h2 k2 (by omega) (by omega) fun x hx y hy=>hG x (mcQ _ hx) y (mcQ _ hy)
theorem zz1{α:Type}{g:α→α→Bool}:∀{a b:List α},a.length=b.length→(∀x∈a,∀y∈b,(g x y=true↔x=y))→((a.zip b).all (fun p=>g p.1 p.2)=true↔a=b)
 |[],[],_,_=>by simp
 |[],_::_,h,_=>by simp at h
 |_::_,[],h,_=>by simp at h
 |x::a,y::b,h,hg=>by
  simp only[lc,Nat.add_right_cancel_iff]at h;simp only[List.zip_cons_cons,List.all_cons,bn,List.cons.injEq];rw[hg x (List.mem_cons_self ..) y (List.mem_cons_self ..),zz1 h fun x hx y hy=>hg x (mcQ _ hx) y (mcQ _ hy)]
theorem Jm{α:Type}[Inhabited α](a b:List α)(G:α→α→Option Bool)(L:Nat→Int→Option (Bool⊕Unit))
  (hL:∀K q,L (K+1) q=(bif (decide (q<((List.length a:Nat):Int)))then(idx a q).bind fun x=>(idx b q).bind fun y=>(G x y).bind fun r=>(bif (!r)then some (Sum.inl false)else L K (w64 (q+1)))else some (Sum.inr ())))
  (hs:a.length<4611686018427387904) (hG:∀x∈a,∀y∈b,G x y=some (pd (x=y))):
  (bif (!(decide (((List.length a:Nat):Int)=((List.length b:Nat):Int))))then some false else(L KK 0).bind (xB some fun _=>some true))=some (pd (a=b)):=by
 by_cases hl:a.length=b.length
 ·rw[dt (by omega)]
  simp only[Bool.not_true,cf];have:=zmp a b G (fun x y=>pd (x=y)) L hL hs hl.symm a b 0 KK rfl rfl (Nat.zero_le _) (km (by omega)) hG;rw[show((0:Int))=((0:Nat):Int) from rfl,this]
  have hz:=zz1 (g:=fun x y=>pd (x=y)) hl fun x _ y _=>uF
  have e:=zih hz;rw[← e];cases (a.zip b).all (fun p=>pd (p.1=p.2))<;>rfl
 ·rw[df (by omega)]
  simp only[Bool.not_false,ctQ];exact congrArg some (zih ⟨fun h=>(by cases h),fun h=>absurd (congrArg List.length h) hl⟩)
-- levels
mutual
def JX:Expr→Nat
 |⟨_,_,_,_,az⟩=>zA5 az+1
def zA5:List Expr→Nat
 |[]=>0
 |e::r=>max (JX e) (zA5 r)
end
mutual
def JY:Expr→Nat
 |⟨_,_,_,_,az⟩=>K7 az+1
def K7:List Expr→Nat
 |[]=>0
 |e::r=>JY e+K7 r
end
theorem zij:∀e:Expr,0<JY e
 |⟨_,_,_,_,az⟩=>by rw[JY];omega
theorem JZ:∀l:List Expr,l.length≤K7 l
 |[]=>Nat.le_refl _
 |e::r=>by rw[K7,lc];have:=JZ r;have:=zij e;omega
theorem zcg:∀(l:List Expr)(i:Nat),K7 (l.drop i)≤K7 l
 |l,0=>Nat.le_refl _
 |[],i+1=>Nat.le_refl _
 |e::r,i+1=>by rw[List.drop_succ_cons,K7];have:=zcg r i;omega
mutual
theorem zpr:∀e:Expr,JX e≤JY e
 |⟨_,_,_,_,az⟩=>by rw[JX,JY];have:=Zq az;omega
theorem Zq:∀l:List Expr,zA5 l≤K7 l
 |[]=>Nat.le_refl _
 |e::r=>by rw[zA5,K7];have:=zpr e;have:=Zq r;omega
end
theorem zz2:∀(n:Nat)(e:Expr)(K:Nat),JY e≤n→n≤K→n≤1000000000→va K e=some ((JX e:Nat):Int):=by
 intro n
 induction n with
 |zero=>intro e K h;have:=zij e;omega
 |succ n ih =>
  intro e K h hK hn
  obtain⟨K,rfl⟩:∃k,K=k+1:=⟨K-1,by omega⟩
  obtain⟨op,nn,ss,kk,az⟩:=e;rw[JY]at h
  have loop:∀(l:List Expr)(i Q m:Nat),az.drop i=l→i≤az.length→l.length<Q→m≤1000000000→jZ (va K) az (az.length:Int) Q ((m:Int),(i:Int))=some ((max m (zA5 l):Nat):Int):=by
   intro l
   induction l with
   |nil =>
    intro i Q m hd hi hQ hm
    obtain⟨Q,rfl⟩:∃k,Q=k+1:=⟨Q-1,by omega⟩
    have:=drop_nil hd hi;rw[jZ,df (show ¬((i:Int)<(az.length:Int)) by omega)];simp[zA5]
   |cons a l ihl =>
    intro i Q m hd hi hQ hm
    obtain⟨Q,rfl⟩:∃k,Q=k+1:=⟨Q-1,by omega⟩
    obtain⟨h1,h2,h3⟩:=yA hd;simp only[lc]at hQ
    have hna:JY a+K7 l≤n:=by
     have:=zcg az i;rw[hd,K7]at this;omega
    have hlen:=JZ az;have hla:=zpr a;rw[jZ,dt (show((i:Int)<(az.length:Int)) by omega),ctQ,yv h1,bsQ,show Expr.mk a.Op a.N a.S a.Key a.Args=a by cases a;rfl,ih a K (by omega) (by omega) (by omega),bsQ,xL (by omega)]
    have e:max (m:Int) ((JX a:Nat):Int)=((max m (JX a):Nat):Int):=by omega
    simp only;rw[e,ihl (i+1) Q (max m (JX a)) h2 (by omega) (by omega) (by omega),zA5,Nat.max_assoc]
  have hlen:=JZ az;have hlv:=Zq az;rw[va,JX];have:=loop az 0 KK 0 rfl (by omega) (km (by omega)) (by omega);rw[show(((0:Nat):Int))=(0:Int) from rfl]at this;simp only;rw[this,bsQ,Nat.zero_max,xv (by omega) (by omega)];rfl
-- expressions
theorem zso:∀{l:List Expr}{e:Expr},e∈l→JY e≤K7 l
 |x::r,e,h=>by
  rw[K7]
  rcases List.mem_cons.1 h with rfl|h
  ·omega
  ·have:=zso h;omega
theorem MN.get{D:List (List (List UInt8×Bool))}{L:List (List UInt8)}(h:MN D L):∃m,((bif (List.isEmpty D)then some ([([]:List ((List UInt8)×Bool))]:List (List ((List UInt8)×Bool)))else some D))=some [m]∧KN m L:=by
 rcases h with⟨rfl,rfl⟩|⟨m,rfl,h⟩
 ·exact⟨[],rfl,zHf⟩
 ·exact⟨m,rfl,h⟩
theorem W5{b:BB}{r:List Token}{m:List (List UInt8×Bool)}{L:List (List UInt8)}(h:At b r)(hk:KN m L):RR b.l (vn L r) (((ya b m).bind fun y=>some (y.1,y.2.1,[y.2.2])).bind fun x2=>some (x2.1,x2.2.1,x2.2.2)) (orC (yj b m) (fun x2=>some x2) (((ya b m).bind fun y=>some (y.1,y.2.1,[y.2.2])).bind fun _=>none)) (fun v i y=>y.1=v∧y.2.1=i∧MN y.2.2 (L++[v])):=by
 have:=(zmn h hk).bindR (g:=fun v r=>.ok (v,r)) (s2:=fun y=>(some (y.1,y.2.1,[y.2.2])).bind fun x2=>some (x2.1,x2.2.1,x2.2.2)) (p2:=fun _=>none) (S2:=fun v i y=>y.1=v∧y.2.1=i∧MN y.2.2 (L++[v])) fun v r1 h1 hs=>RR.ret hs ⟨rfl,rfl,.inr ⟨_,rfl,hk.add v⟩⟩
 rw[oc]at this;simp only[Option.bind_assoc]at this ⊢;exact this
theorem zEq(b:BB)(m:List (List UInt8×Bool)):HU { b with n0:=[m] }=(ya b m).bind fun y=>some (y.1,y.2.1,[y.2.2]):=by
 unfold HU ya;simp only[kp,uE,W3,K4,Al,bsQ,Option.bind_assoc]
theorem zEr(b:BB)(m:List (List UInt8×Bool)):Vb { b with n0:=[m] }=yj b m:=by
 unfold Vb yj;simp only[kp,uE,Hl,W3,K4,YH,Al,bsQ]
theorem zKu{b:BB}{r:List Token}{L:List (List UInt8)}(h:At b r)(hm:MN b.n0 L):RR b.l (vn L r) (zap b) (zhd b) (fun v i y=>y.1=v∧y.2.1=i∧MN y.2.2 (L++[v])):=by
 obtain⟨m,hm1,hm2⟩:=hm.get;unfold zap zhd;rw[hm1,bsQ,bsQ,zEq,zEr];exact W5 h hm2
theorem zEs(b:BB)(m:List (List UInt8×Bool)):ue { b with n1:=[m] }=(ya b m).bind fun y=>some (y.1,y.2.1,[y.2.2]):=by
 unfold ue ya;simp only[kp,uE,W3,K4,Al,bsQ,Option.bind_assoc]
theorem zEt(b:BB)(m:List (List UInt8×Bool)):AQ { b with n1:=[m] }=yj b m:=by
 unfold AQ yj;simp only[kp,uE,Hl,W3,K4,YH,Al,bsQ]
theorem zKv{b:BB}{r:List Token}{L:List (List UInt8)}(h:At b r)(hm:MN b.n1 L):RR b.l (vn L r) (HV b) (Vc b) (fun v i y=>y.1=v∧y.2.1=i∧MN y.2.2 (L++[v])):=by
 obtain⟨m,hm1,hm2⟩:=hm.get;unfold HV Vc;rw[hm1,bsQ,bsQ,zEs,zEt];exact W5 h hm2
theorem zEu(b:BB)(m:List (List UInt8×Bool)):uf { b with n2:=[m] }=(ya b m).bind fun y=>some (y.1,y.2.1,[y.2.2]):=by
 unfold uf ya;simp only[kp,uE,W3,K4,Al,bsQ,Option.bind_assoc]
theorem zEv(b:BB)(m:List (List UInt8×Bool)):AR { b with n2:=[m] }=yj b m:=by
 unfold AR yj;simp only[kp,uE,Hl,W3,K4,YH,Al,bsQ]
theorem zz3{b:BB}{r:List Token}{L:List (List UInt8)}(h:At b r)(hm:MN b.n2 L):RR b.l (vn L r) (ug b) (HZ b) (fun v i y=>y.1=v∧y.2.1=i∧MN y.2.2 (L++[v])):=by
 obtain⟨m,hm1,hm2⟩:=hm.get;unfold ug HZ;rw[hm1,bsQ,bsQ,zEu,zEv];exact W5 h hm2
theorem zEw(b:BB)(m:List (List UInt8×Bool)):uh { b with n3:=[m] }=(ya b m).bind fun y=>some (y.1,y.2.1,[y.2.2]):=by
 unfold uh ya;simp only[kp,uE,W3,K4,Al,bsQ,Option.bind_assoc]
theorem zEx(b:BB)(m:List (List UInt8×Bool)):AS { b with n3:=[m] }=yj b m:=by
 unfold AS yj;simp only[kp,uE,Hl,W3,K4,YH,Al,bsQ]
theorem zKw{b:BB}{r:List Token}{L:List (List UInt8)}(h:At b r)(hm:MN b.n3 L):RR b.l (vn L r) (HX b) (Ve b) (fun v i y=>y.1=v∧y.2.1=i∧MN y.2.2 (L++[v])):=by
 obtain⟨m,hm1,hm2⟩:=hm.get;unfold HX Ve;rw[hm1,bsQ,bsQ,zEw,zEx];exact W5 h hm2
theorem zEy(b:BB)(m:List (List UInt8×Bool)):uj { b with n4:=[m] }=(ya b m).bind fun y=>some (y.1,y.2.1,[y.2.2]):=by
 unfold uj ya;simp only[kp,uE,W3,K4,Al,bsQ,Option.bind_assoc]
theorem zEz(b:BB)(m:List (List UInt8×Bool)):AU { b with n4:=[m] }=yj b m:=by
 unfold AU yj;simp only[kp,uE,Hl,W3,K4,YH,Al,bsQ]
theorem zKx{b:BB}{r:List Token}{L:List (List UInt8)}(h:At b r)(hm:MN b.n4 L):RR b.l (vn L r) (uk b) (H0 b) (fun v i y=>y.1=v∧y.2.1=i∧MN y.2.2 (L++[v])):=by
 obtain⟨m,hm1,hm2⟩:=hm.get;unfold uk H0;rw[hm1,bsQ,bsQ,zEy,zEz];exact W5 h hm2
theorem zE0(b:BB)(m:List (List UInt8×Bool)):um { b with n5:=[m] }=(ya b m).bind fun y=>some (y.1,y.2.1,[y.2.2]):=by
 unfold um ya;simp only[kp,uE,W3,K4,Al,bsQ,Option.bind_assoc]
theorem zE1(b:BB)(m:List (List UInt8×Bool)):AV { b with n5:=[m] }=yj b m:=by
 unfold AV yj;simp only[kp,uE,Hl,W3,K4,YH,Al,bsQ]
theorem zKy{b:BB}{r:List Token}{L:List (List UInt8)}(h:At b r)(hm:MN b.n5 L):RR b.l (vn L r) (HY b) (Vg b) (fun v i y=>y.1=v∧y.2.1=i∧MN y.2.2 (L++[v])):=by
 obtain⟨m,hm1,hm2⟩:=hm.get;unfold HY Vg;rw[hm1,bsQ,bsQ,zE0,zE1];exact W5 h hm2
-- sets of uses
theorem zKz:∀s<64,∀k<6,decide ((IntKind.i64.wrap ((BitVec.ofInt IntKind.i64.bits (Int.fdiv (s:Nat) (2 ^ (min (Int.toNat (k:Nat)) IntKind.i64.bits))) &&& BitVec.ofInt IntKind.i64.bits 1).toNat:Int))=0)=!(Nat.testBit s k):=by decide +kernel
theorem zK0:∀s<64,∀k<6,(IntKind.i64.wrap ((BitVec.ofInt IntKind.i64.bits (s:Nat) ||| BitVec.ofInt IntKind.i64.bits (w64 (1*2 ^ (min (Int.toNat (k:Nat)) IntKind.i64.bits)))).toNat:Int))=((s ||| 2 ^ k:Nat):Int):=by decide +kernel
theorem zQu:∀s<64,∀k<6,s ||| 2 ^ k<64∧0<s ||| 2 ^ k:=by decide +kernel
def zz4:Nat→Nat→List Token→Except EE (Nat×List Token)
 |0,_,_=>oof
 |n+1,set,r=>match vC (hdT r).Text USE with
  |none=>if 0<set then .ok (set,r)else .error (YO r 14)
  | some k=>if 0<set∧(hdT r).Kind≠0 then .ok (set,r)else if Nat.testBit set k then .error (YO r 5)else if(hdT r).Kind=0 then zz4 n (set ||| 2 ^ k) r.tail else .error (YO r 14)
theorem zHg{t:List UInt8}{k:Nat}(h:vC t USE=some k):k<6:=(List.getElem?_eq_some_iff.1 (zmg h)).1
theorem set_L{b:BB}:∀(n:Nat)(r:List Token)(set K:Nat),St b.l r→r.length<n→n≤K→set<64→RTS b.l (zz4 n set r) (oU b K (zA b.l r,(set:Int))) (oW b K (zA b.l r,(set:Int))) (fun v i=>((v:Int),i)):=by
 intro n
 induction n with
 |zero=>intro r set K hs hn;omega
 |succ n ih =>
  intro r set K hs hn hK h64
  obtain⟨K,rfl⟩:∃k,K=k+1:=⟨K-1,by omega⟩
  have a0:At { b with i:=zA b.l r } r:=yh rfl rfl hs;have hch:=VC a0 JW (by decide)
  have hck:=fun c e=>a0.check c e
  rw[zz4,oU,oW];simp only[a0.next,bsQ,zsn JW (show USE.length<1000 by decide)]
  cases hf:vC (hdT r).Text USE with
  |none =>
   dsimp only;rw[show decide (wy none<0)=true from rfl];by_cases h0:0<set
   ·rw[if_pos h0,dt (show((set:Int))>0 by omega)]
    exact⟨rfl,rfl,hs⟩
   ·rw[if_neg h0,df (show ¬((set:Int))>0 by omega)]
    have h1:=hck true 5;rw[show oa true 5 r=.ok ((),r) from rfl]at h1;unfold wV at hch;rw[hf]at hch
    have h2:yX { b with i:=zA b.l r } zj=none∧vd { b with i:=zA b.l r } zj=some (YO r 14):=by
     by_cases hk:(hdT r).Kind=0
     ·rw[if_pos hk]at hch;exact hch
     ·rw[if_neg hk]at hch;exact hch
    simp only[ctQ,cf,bsQ];rw[h1.1,h1.2.1];simp only[bsQ,orC,xB,h2.1,h2.2];exact⟨rfl,rfl⟩
  |some k =>
   have hk6:=zHg hf;dsimp only;have e0:decide (wy (some k)<0)=false:=df (show ¬((k:Int))<0 by omega);have e1:(grd (0≤wy (some k)))=some ():=zx (show(0:Int)≤(k:Int) by omega);rw[e0,e1];by_cases hq:0<set∧(hdT r).Kind≠0
   ·rw[if_pos hq,dt (show((set:Int))>0 by omega),df hq.2]
    exact⟨rfl,rfl,hs⟩
   ·rw[if_neg hq]
    have e2:((bif decide ((set:Int)>0)then(bif false then some true else some (!(decide ((hdT r).Kind=0))))else some false))=some false:=by
     by_cases h0:0<set
     ·have hk:(hdT r).Kind=0:=Classical.byContradiction fun hh=>hq ⟨h0,hh⟩
      rw[dt (show((set:Int))>0 by omega),dt hk];rfl
     ·rw[df (show ¬((set:Int))>0 by omega)];rfl
    rw[e2];simp only[bsQ,cf];have e3:wy (some k)=((k:Nat):Int):=rfl;rw[e3,zKz set h64 k hk6]
    cases hb:Nat.testBit set k with
    |true =>
     have h1:=hck false 5;rw[show oa false 5 r=.error (YO r 5) from rfl]at h1;rw[Bool.not_true,h1.1,h1.2];exact⟨rfl,rfl⟩
    |false =>
     have h1:=hck true 5;rw[show oa true 5 r=.ok ((),r) from rfl]at h1;rw[Bool.not_false,h1.1,h1.2.1];simp only[bsQ,orC,xB,if_neg (show ¬(false=true) by simp)];unfold wV at hch;by_cases hk:(hdT r).Kind=0
     ·rw[if_pos hk,hf]at hch
      rw[if_pos hk,hch.1,hch.2.1];have g:=zQu set h64 k hk6;simp only[bsQ,orC];rw[zx (show(0:Int)≤(k:Int) by omega),bsQ,bsQ,zK0 set h64 k hk6];have:=JU hs.wf;exact ih r.tail _ K (hs.tail (by omega)) (by omega) (by omega) g.1
     ·rw[if_neg hk]at hch
      rw[if_neg hk,hch.1,hch.2];exact⟨rfl,rfl⟩
theorem zQv{b:BB}{r:List Token}(h:At b r):RT b.l (zz4 (r.length+1) 0 r) (zar b) (zhe b) (fun v i=>((v:Int),i)):=by
 unfold zar zhe;rw[h.at_];exact(set_L (b:={ b with i:=0 }) (r.length+1) r 0 KK h.st (Nat.lt_succ_self _) (zce h.st) (by decide)).rt
-- directions of the sun
def zA6:Nat→List zf→List Token→Except EE (List zf×List Token)
 |0,_,_=>oof
 | n+1,acc,r=>thn (oa (isB yT r||Jk r) 14 r) fun _ r=>thn (oa (decide (acc.length<24)) 6 r) fun _ r=>thn (jO 4096 r) fun x r=>thn (jO 4096 r) fun y r=>thn (Ad 1 4096 r) fun z r =>
  if isB KB r then zA6 n (acc++[zf.mk x y z]) r.tail else .ok (acc++[zf.mk x y z],r)
theorem vt{c:Bool}{e:Int}{r r2:List Token}{u:Unit}(h:oa c e r=.ok (u,r2)):r2=r∧c=true:=by
 unfold oa at h;split at h
 ·rename_i hc;cases h;exact⟨rfl,hc⟩
 ·cases h
theorem vS{r r2:List Token}{m n:Int}(hr:TWF r)(h:jO m r=.ok (n,r2)):Aft r r2:=by
 unfold jO at h;split at h
 ·rename_i hb
  obtain⟨a,r1,h1,h2⟩:=yd h;cases h2;have ht:=zR hr (zl hb);exact ht.trans (wE ht.wf h1).e
 ·exact wE hr h
theorem zQw{b:BB}:∀(n:Nat)(r:List Token)(acc:List zf)(K:Nat),St b.l r→r.length<n→n<K→RJ b.l (zA6 n acc r) (qM b K (zA b.l r,acc,true)) (qN b K (zA b.l r,acc,true)) (fun v i=>(i,v)):=by
 intro n
 induction n with
 |zero=>intro r acc K hs hn;omega
 |succ n ih =>
  intro r acc K hs hn hK
  obtain⟨K,rfl⟩:∃k,K=k+1:=⟨K-1,by omega⟩
  have a0:At { b with i:=zA b.l r,S:=acc } r:=yh rfl rfl hs;rw[zA6,qM,qN];simp only[ctQ,a0.is,a0.isNumber,bsQ]
  have first:RJ b.l (oa (isB yT r||Jk r) 14 r) (bif isB yT r then(zh { b with i:=zA b.l r,S:=acc } true 14).bind fun _=>some ()else(zh { b with i:=zA b.l r,S:=acc } (Jk r) 14).bind fun _=>some ())
    (bif isB yT r then(orC (zr { b with i:=zA b.l r,S:=acc } true 14) (fun x3=>some (Sum.inl x3)) ((zh { b with i:=zA b.l r,S:=acc } true 14).bind fun _=>some (Sum.inr ())))else(orC (zr { b with i:=zA b.l r,S:=acc } (Jk r) 14) (fun x6=>some (Sum.inl x6)) ((zh { b with i:=zA b.l r,S:=acc } (Jk r) 14).bind fun _=>some (Sum.inr ())))) (fun _ _=>()):=by
   cases isB yT r with
   |true =>
    have:=(a0.check true 14).bindJ (g:=fun v r=>.ok (v,r)) (s2:=fun _=>some ()) (p2:=fun _=>some (Sum.inr ())) (fj:=fun _ _=>()) fun v r1 h1 hs1=>⟨rfl,rfl,hs1⟩
    rw[oc]at this;exact this
   |false =>
    have:=(a0.check (Jk r) 14).bindJ (g:=fun v r=>.ok (v,r)) (s2:=fun _=>some ()) (p2:=fun _=>some (Sum.inr ())) (fj:=fun _ _=>()) fun v r1 h1 hs1=>⟨rfl,rfl,hs1⟩
    rw[oc]at this;exact this
  have bindJJ:∀{g:Unit→List Token→Except EE (List zf×List Token)}{sj:Option Unit}{pj:Option (EE⊕Unit)}{s2:Unit→Option (Int×List zf)}{p2:Unit→Option (EE⊕(Int×List zf))},RJ b.l (oa (isB yT r||Jk r) 14 r) sj pj (fun _ _=>())→(∀u r1,oa (isB yT r||Jk r) 14 r=.ok (u,r1)→RJ b.l (g u r1) (s2 ()) (p2 ()) (fun v i=>(i,v)))→RJ b.l (thn (oa (isB yT r||Jk r) 14 r) g) (sj.bind s2) (pj.bind (xB (fun q=>some (Sum.inl q)) p2)) (fun v i=>(i,v)):=by
   intro g sj pj s2 p2 h h2
   cases hx:oa (isB yT r||Jk r) 14 r with
   |error e=>rw[hx]at h;rw[h.1,h.2];exact⟨rfl,rfl⟩
   |ok y =>
    obtain⟨u,r1⟩:=y;rw[hx]at h;rw[h.1,h.2.1];exact h2 u r1 hx
  refine bindJJ first fun u r0 h0=>?_
  obtain⟨rfl,hc0⟩:=vt h0;rw[show decide ((((List.length acc):Nat):Int)<24)=decide (acc.length<24) from yn (by omega)]
  refine(a0.check _ _).bindJ fun u r1 h1 hs1=>?_
  obtain⟨rfl,hc1⟩:=vt h1;have hl:=of_decide_eq_true hc1
  refine(VB a0 4096 (by omega)).bindJ fun x r2 h2 hs2=>?_
  have q2:=vS hs.wf h2;have a2:At { b with i:=zA b.l r2,S:=acc } r2:=yh rfl rfl hs2
  refine(VB a2 4096 (by omega)).bindJ fun y r3 h3 hs3=>?_
  have q3:=vS hs2.wf h3;have a3:At { b with i:=zA b.l r3,S:=acc } r3:=yh rfl rfl hs3
  refine(a3.number 1 4096).bindJ fun z r4 h4 hs4=>?_
  have q4:=wE hs3.wf h4;dsimp only;rw[zx (by simp only[la,lc,List.length_nil];omega),bsQ,bsQ];have a4:At { b with i:=zA b.l r4,S:=acc++[zf.mk x y z] } r4:=yh rfl rfl hs4;have g2:=q2.lt;have g3:=q3.lt;have g4:=q4.lt;rw[a4.has,bsQ,bsQ]
  cases hb:isB KB r4 with
  |true =>
   simp only[if_true];have:=JU hs4.wf;exact ih r4.tail _ K (hs4.tail (zl hb)) (by omega) (by omega)
  |false =>
   simp only[if_neg (show ¬(false=true) by simp)]
   obtain⟨K,rfl⟩:∃k,K=k+1:=⟨K-1,by omega⟩
   exact⟨by rw[qM];rfl,by rw[qN];rfl,hs4⟩
def zA7(acc:List zf)(r:List Token):Except EE (List zf×List Token):=thn (zA6 (r.length+1) acc r) fun out r=>thn (vD yi r) fun _ r=>.ok (out,r)
theorem zQx{b:BB}{r:List Token}(h:At b r):RT b.l (zA7 b.S r) (KH b) (zas b) (fun v i=>(i,v)):=by
 unfold KH zas zA7;rw[h.at_];have h1:=h.st.lt;have h2:=h.st.len;have h3:=Ag
 refine(zQw (b:={ b with i:=0,S:=[] }) (r.length+1) r b.S KK h.st (Nat.lt_succ_self _) (by omega)).bindT fun out r1 _ hs1=>?_
 have a1:At { b with i:=zA b.l r1,S:=out } r1:=yh rfl rfl hs1
 exact(a1.want yi).bind fun u r2 _ hs2=>⟨rfl,rfl,hs2⟩
def uG(e:Expr):Prop:=JY e≤1000000000
theorem xN(e:Expr):Expr.mk e.Op e.N e.S e.Key e.Args=e:=by cases e;rfl
theorem od{p q:Prop}:pd (p∧q)=(pd p&&pd q):=(zih (by simp only[bn,uF])).symm
theorem zfj{a b:Bool}:(a==b)=pd (a=b):=zih beq_iff_eq
def zMm(p:wB):Prop :=
 (p.Defs.length<4611686018427387904∧∀d∈p.Defs,uG d.Body)∧(p.Tables.length<4611686018427387904∧∀d∈p.Tables,d.Rows.length<4611686018427387904)∧(p.Zones.length<4611686018427387904∧∀d∈p.Zones,d.Corners.length<4611686018427387904) ∧
 (p.Rules.length<4611686018427387904∧∀d∈p.Rules,d.Zones.length<4611686018427387904∧d.Except.length<4611686018427387904∧uG d.Test)∧(p.Caps.length<4611686018427387904∧∀d∈p.Caps,d.Corners.length<4611686018427387904)∧(p.Views.length<4611686018427387904∧∀d∈p.Views,d.Targets.length<4611686018427387904)∧p.Sun.length<4611686018427387904
theorem zmq{α:Type}(a b:List α)(B:Int→Option Bool)(L:Nat→Int→Option (Bool⊕Unit))
  (hL:∀K q,L (K+1) q=(bif (decide (q<((List.length a:Nat):Int)))then(B q).bind fun r=>(bif r then some (Sum.inl false)else L K (w64 (q+1)))else some (Sum.inr ())))
  (hs:a.length<4611686018427387904) (hl:b.length=a.length) (hB:∀(i:Nat) x y,a[i]?=some x→b[i]?=some y→B (i:Int)=some (!(pd (x=y)))):
  ∀(r t:List α)(i K:Nat),a.drop i=r→b.drop i=t→i≤a.length→r.length<K→L K (i:Int)=some (bif pd (r=t)then Sum.inr ()else Sum.inl false)
 |[],t,i,K,hr,ht,hi,hK=>by
  obtain⟨K,rfl⟩:∃k,K=k+1:=⟨K-1,by simp at hK;omega⟩
  have:=drop_nil hr hi;rw[hL,df (by omega)]
  have e:t=[]:=by rw[← ht];exact List.drop_eq_nil_of_le (by omega)
  subst e;rw[uF.2 rfl];rfl
 |x::r,[],i,K,hr,ht,hi,hK=>by
  have h1:=drop_nil ht (by omega);obtain⟨_,_,h3⟩:=yA hr;omega
 |x::r,y::t,i,K,hr,ht,hi,hK=>by
  obtain⟨K,rfl⟩:∃k,K=k+1:=⟨K-1,by simp at hK;omega⟩
  obtain⟨h1,h2,h3⟩:=yA hr;obtain⟨k1,k2,k3⟩:=yA ht;simp only[lc]at hK;rw[hL,dt (by omega),ctQ,hB i x y h1 k1,bsQ];simp only[List.cons.injEq,od]
  cases hg:pd (x=y)with
  |false=>rfl
  |true =>
   simp only[Bool.not_true,cf,Bool.true_and];rw[xL (by omega)];exact zmq a b B L hL hs hl hB r t (i+1) K h2 k2 (by omega) (by omega)
theorem J0{α:Type}{a b:List α}(B:Int→Option Bool)(L:Nat→Int→Option (Bool⊕Unit))
  (hL:∀K q,L (K+1) q=(bif (decide (q<((List.length a:Nat):Int)))then(B q).bind fun r=>(bif r then some (Sum.inl false)else L K (w64 (q+1)))else some (Sum.inr ())))
  (hs:a.length<4611686018427387904) (hl:b.length=a.length) (hB:∀(i:Nat) x y,a[i]?=some x→b[i]?=some y→B (i:Int)=some (!(pd (x=y)))):
  L KK 0=some (bif pd (a=b)then Sum.inr ()else Sum.inl false):=zmq a b B L hL hs hl hB a b 0 KK rfl rfl (Nat.zero_le _) (km (by omega))
theorem zz5{a b:List (List UInt8)}(hs:a.length<4611686018427387904):jI a b=some (pd (a=b)):=by
 unfold jI
 refine Jm a b (fun x y=>some (decide (x=y))) _ (fun K q=>rfl) hs fun x _ y _=>?_
 rw[W4]
theorem zz6{a b:List Entry}(hs:a.length<4611686018427387904):jH a b=some (pd (a=b)):=by
 unfold jH
 refine Jm a b (fun x y=>some (decide (x.Name=y.Name)&&(decide (x.N=y.N)))) _ (fun K q=>rfl) hs fun x _ y _=>?_
 obtain⟨n1,m1⟩:=x;obtain⟨n2,m2⟩:=y;simp only[W4,Entry.mk.injEq,od]
theorem zsp{a b:List zG}(hs:a.length<4611686018427387904):vx a b=some (pd (a=b)):=by
 unfold vx
 refine Jm a b (fun x y=>some (decide (x.X=y.X)&&(decide (x.Y=y.Y)))) _ (fun K q=>rfl) hs fun x _ y _=>?_
 obtain⟨n1,m1⟩:=x;obtain⟨n2,m2⟩:=y;simp only[W4,zG.mk.injEq,od]
theorem zsq{a b:List zf}(hs:a.length<4611686018427387904):vw a b=some (pd (a=b)):=by
 unfold vw
 refine Jm a b (fun x y=>some (decide (x.X=y.X)&&(decide (x.Y=y.Y)&&(decide (x.Z_=y.Z_))))) _ (fun K q=>rfl) hs fun x _ y _=>?_
 obtain⟨n1,m1,k1⟩:=x;obtain⟨n2,m2,k2⟩:=y;simp only[W4,zf.mk.injEq,od]
theorem zQy:∀(n:Nat)(a b:Expr)(K:Nat),JY a≤n→n≤K→n≤1000000000→yy K a b=some (pd (a=b)):=by
 intro n
 induction n with
 |zero=>intro a b K h;have:=zij a;omega
 |succ n ih =>
  intro a b K h hK hn
  obtain⟨K,rfl⟩:∃k,K=k+1:=⟨K-1,by omega⟩
  obtain⟨o1,n1,s1,k1,z1⟩:=a;obtain⟨o2,n2,s2,k2,z2⟩:=b;rw[JY]at h;have hz:=JZ z1
  have hl:=Jm z1 z2 (yy K) (jF (yy K) o1 n1 s1 k1 z1 o2 n2 s2 k2 z2) (fun K q=>rfl) (by omega) fun x hx y hy=>ih x y K (by have:=zso hx;omega) (by omega) (by omega)
  rw[yy]
  have e:pd ((⟨o1,n1,s1,k1,z1⟩:Expr)=⟨o2,n2,s2,k2,z2⟩)=(pd (o1=o2)&&(pd (n1=n2)&&(pd (s1=s2)&&(pd (k1=k2)&&pd (z1=z2))))):=by
   refine(zih ?_).symm;simp only[bn,uF,Expr.mk.injEq]
  rw[e];simp only[W4]at hl ⊢;cases pd (o1=o2)<;>simp only[Bool.not_true,Bool.not_false,ctQ,cf,bsQ,Bool.false_and,Bool.true_and];cases pd (n1=n2)<;>simp only[Bool.not_true,Bool.not_false,ctQ,cf,bsQ,Bool.false_and,Bool.true_and];cases pd (s1=s2)<;>simp only[Bool.not_true,Bool.not_false,ctQ,cf,bsQ,Bool.false_and,Bool.true_and];cases pd (k1=k2)<;>simp only[Bool.not_true,Bool.not_false,ctQ,cf,bsQ,Bool.false_and,Bool.true_and];exact hl
theorem zik{a b:Expr}(h:uG a):yy KK a b=some (pd (a=b)):=zQy 1000000000 a b KK h (Nat.le_of_lt (km (by omega))) (by omega)
theorem zQz{a b:zX}(h1:a.Zones.length<4611686018427387904)(h2:a.Except.length<4611686018427387904)(h3:uG a.Test):kW a b=some (pd (a=b)):=by
 obtain⟨a1,a2,a3,a4,a5,a6,a7,a8,a9,⟨p1,p2,p3,p4⟩,a10,a11,a12⟩:=a;obtain⟨b1,b2,b3,b4,b5,b6,b7,b8,b9,⟨q1,q2,q3,q4⟩,b10,b11,b12⟩:=b;unfold kW;simp only[zz5 h1,zz5 h2,xN,zik h3,bsQ,W4,zfj,zX.mk.injEq,zE.mk.injEq,od]
 cases pd (a2=b2)<;>cases pd (a3=b3)<;>cases pd (a9=b9)<;>simp only[Bool.not_true,Bool.not_false,ctQ,cf,bsQ,Bool.false_and,Bool.and_false,Bool.true_and] <;>
 cases pd (a1=b1)<;>cases pd (a4=b4)<;>cases pd (a5=b5)<;>cases pd (a6=b6)<;>simp only[bsQ,ctQ,cf,Bool.false_and,Bool.and_false,Bool.true_and] <;>
 cases pd (a7=b7)<;>cases pd (a8=b8)<;>simp only[bsQ,ctQ,cf,Bool.false_and,Bool.and_false,Bool.true_and] <;>
 cases (pd (p1=q1)&&(pd (p2=q2)&&(pd (p3=q3)&&pd (p4=q4))))<;>cases pd (a10=b10)<;>cases pd (a11=b11)<;>rfl
theorem zK1(c0:List Def)(c1:List Table)(c2:List yl)(c3:List zX)(c4:List Cap)(c5:List View)(c6:List zf)(c7:Int)(c8:List Def)(c9:List Table)(c10:List yl)(c11:List zX)(c12:List Cap)(c13:List View)(c14:List zf)(c15:Int)(hs:c0.length<4611686018427387904)(hl:c8.length=c0.length)(hE:∀d∈c0,uG d.Body):uy c0 c1 c2 c3 c4 c5 c6 c7 c8 c9 c10 c11 c12 c13 c14 c15 KK 0=some (bif pd (c0=c8)then Sum.inr ()else Sum.inl false):=by
 refine J0 _ (uy c0 c1 c2 c3 c4 c5 c6 c7 c8 c9 c10 c11 c12 c13 c14 c15) (fun K q=>rfl) hs hl fun i x y hx hy=>?_
 have hx':=List.mem_of_getElem? hx;have he:=zik (b:=y.Body) (hE x hx');simp only[yv hx,yv hy,bsQ];rw[he];obtain⟨xName,xBody⟩:=x;obtain⟨yName,yBody⟩:=y;simp only[W4,zfj,Def.mk.injEq,zf.mk.injEq,od,bsQ];cases pd (xName=yName)<;>rfl
theorem zK2(c0:List Def)(c1:List Table)(c2:List yl)(c3:List zX)(c4:List Cap)(c5:List View)(c6:List zf)(c7:Int)(c8:List Def)(c9:List Table)(c10:List yl)(c11:List zX)(c12:List Cap)(c13:List View)(c14:List zf)(c15:Int)(hs:c1.length<4611686018427387904)(hl:c9.length=c1.length)(hE:∀d∈c1,d.Rows.length<4611686018427387904):uz c0 c1 c2 c3 c4 c5 c6 c7 c8 c9 c10 c11 c12 c13 c14 c15 KK 0=some (bif pd (c1=c9)then Sum.inr ()else Sum.inl false):=by
 refine J0 _ (uz c0 c1 c2 c3 c4 c5 c6 c7 c8 c9 c10 c11 c12 c13 c14 c15) (fun K q=>rfl) hs hl fun i x y hx hy=>?_
 have hx':=List.mem_of_getElem? hx;have he:=zz6 (b:=y.Rows) (hE x hx');simp only[yv hx,yv hy,bsQ];rw[he];obtain⟨xName,xRows,xElse⟩:=x;obtain⟨yName,yRows,yElse⟩:=y;simp only[W4,zfj,Table.mk.injEq,zf.mk.injEq,od,bsQ];cases pd (xName=yName)<;>cases pd (xElse=yElse)<;>cases pd (xRows=yRows)<;>rfl
theorem zK3(c0:List Def)(c1:List Table)(c2:List yl)(c3:List zX)(c4:List Cap)(c5:List View)(c6:List zf)(c7:Int)(c8:List Def)(c9:List Table)(c10:List yl)(c11:List zX)(c12:List Cap)(c13:List View)(c14:List zf)(c15:Int)(hs:c2.length<4611686018427387904)(hl:c10.length=c2.length)(hE:∀d∈c2,d.Corners.length<4611686018427387904):uA c0 c1 c2 c3 c4 c5 c6 c7 c8 c9 c10 c11 c12 c13 c14 c15 KK 0=some (bif pd (c2=c10)then Sum.inr ()else Sum.inl false):=by
 refine J0 _ (uA c0 c1 c2 c3 c4 c5 c6 c7 c8 c9 c10 c11 c12 c13 c14 c15) (fun K q=>rfl) hs hl fun i x y hx hy=>?_
 have hx':=List.mem_of_getElem? hx;have he:=zsp (b:=y.Corners) (hE x hx');simp only[yv hx,yv hy,bsQ];rw[he];obtain⟨xName,xOverlay,xCorners⟩:=x;obtain⟨yName,yOverlay,yCorners⟩:=y;simp only[W4,zfj,yl.mk.injEq,zf.mk.injEq,od,bsQ];cases pd (xName=yName)<;>cases pd (xOverlay=yOverlay)<;>rfl
theorem zK4(c0:List Def)(c1:List Table)(c2:List yl)(c3:List zX)(c4:List Cap)(c5:List View)(c6:List zf)(c7:Int)(c8:List Def)(c9:List Table)(c10:List yl)(c11:List zX)(c12:List Cap)(c13:List View)(c14:List zf)(c15:Int)(hs:c3.length<4611686018427387904)(hl:c11.length=c3.length)(hE:∀d∈c3,d.Zones.length<4611686018427387904∧d.Except.length<4611686018427387904∧uG d.Test):kg c0 c1 c2 c3 c4 c5 c6 c7 c8 c9 c10 c11 c12 c13 c14 c15 KK 0=some (bif pd (c3=c11)then Sum.inr ()else Sum.inl false):=by
 refine J0 (fun q=>(idx c3 q).bind fun x1=>(idx c11 q).bind fun x2=>(kW x1 x2).bind fun x3=>some (!x3)) (kg c0 c1 c2 c3 c4 c5 c6 c7 c8 c9 c10 c11 c12 c13 c14 c15) (fun K q=>?_) hs hl fun i x y hx hy=>?_
 ·rw[kg]
  simp only[Option.bind_assoc,bsQ]
 ·obtain⟨e1,e2,e3⟩:=hE x (List.mem_of_getElem? hx)
  simp only[yv hx,yv hy,bsQ,zQz e1 e2 e3]
theorem zK5(c0:List Def)(c1:List Table)(c2:List yl)(c3:List zX)(c4:List Cap)(c5:List View)(c6:List zf)(c7:Int)(c8:List Def)(c9:List Table)(c10:List yl)(c11:List zX)(c12:List Cap)(c13:List View)(c14:List zf)(c15:Int)(hs:c4.length<4611686018427387904)(hl:c12.length=c4.length)(hE:∀d∈c4,d.Corners.length<4611686018427387904):uB c0 c1 c2 c3 c4 c5 c6 c7 c8 c9 c10 c11 c12 c13 c14 c15 KK 0=some (bif pd (c4=c12)then Sum.inr ()else Sum.inl false):=by
 refine J0 _ (uB c0 c1 c2 c3 c4 c5 c6 c7 c8 c9 c10 c11 c12 c13 c14 c15) (fun K q=>rfl) hs hl fun i x y hx hy=>?_
 have hx':=List.mem_of_getElem? hx;have he:=zsp (b:=y.Corners) (hE x hx');simp only[yv hx,yv hy,bsQ];rw[he];obtain⟨xName,xLoad,xLimit,xCorners⟩:=x;obtain⟨yName,yLoad,yLimit,yCorners⟩:=y;simp only[W4,zfj,Cap.mk.injEq,zf.mk.injEq,od,bsQ];cases pd (xName=yName)<;>cases pd (xLoad=yLoad)<;>cases pd (xLimit=yLimit)<;>rfl
theorem zK6(c0:List Def)(c1:List Table)(c2:List yl)(c3:List zX)(c4:List Cap)(c5:List View)(c6:List zf)(c7:Int)(c8:List Def)(c9:List Table)(c10:List yl)(c11:List zX)(c12:List Cap)(c13:List View)(c14:List zf)(c15:Int)(hs:c5.length<4611686018427387904)(hl:c13.length=c5.length)(hE:∀d∈c5,d.Targets.length<4611686018427387904):uC c0 c1 c2 c3 c4 c5 c6 c7 c8 c9 c10 c11 c12 c13 c14 c15 KK 0=some (bif pd (c5=c13)then Sum.inr ()else Sum.inl false):=by
 refine J0 _ (uC c0 c1 c2 c3 c4 c5 c6 c7 c8 c9 c10 c11 c12 c13 c14 c15) (fun K q=>rfl) hs hl fun i x y hx hy=>?_
 have hx':=List.mem_of_getElem? hx;have he:=zsq (b:=y.Targets) (hE x hx');simp only[yv hx,yv hy,bsQ];rw[he];obtain⟨xName,⟨Eye1,Eye2,Eye3⟩,xLeast,xTargets⟩:=x;obtain⟨yName,⟨Eye4,Eye5,Eye6⟩,yLeast,yTargets⟩:=y;simp only[W4,zfj,View.mk.injEq,zf.mk.injEq,od,bsQ];cases pd (xName=yName)<;>cases pd (Eye1=Eye4)<;>cases pd (Eye2=Eye5)<;>cases pd (Eye3=Eye6)<;>cases pd (xLeast=yLeast)<;>rfl
theorem Ah{α:Type}{a b:List α}(h:¬b.length=a.length):pd (a=b)=false:=by
 cases hp:pd (a=b)with
 |false=>rfl
 |true=>exact absurd (congrArg List.length (uF.1 hp)).symm h
theorem zHh{a b:wB}(h:zMm a):A9 a b=some (pd (a=b)):=by
 obtain⟨⟨d1,d2⟩,⟨t1,t2⟩,⟨z1,z2⟩,⟨r1,r2⟩,⟨c1,c2⟩,⟨v1,v2⟩,s1⟩:=h;obtain⟨aD,aT,aZ,aR,aC,aV,aS,aH⟩:=a;obtain⟨bD,bT,bZ,bR,bC,bV,bS,bH⟩:=b
 have e:pd ((⟨aD,aT,aZ,aR,aC,aV,aS,aH⟩:wB)=⟨bD,bT,bZ,bR,bC,bV,bS,bH⟩)=(pd (aD=bD)&&(pd (aT=bT)&&(pd (aZ=bZ)&&(pd (aR=bR)&&(pd (aC=bC)&&(pd (aV=bV)&&(pd (aS=bS)&&pd (aH=bH)))))))):=by
  refine(zih ?_).symm;simp only[bn,uF,wB.mk.injEq]
 have hd {α:Type} {a b:List α}:decide (((List.length a:Nat):Int)=((List.length b:Nat):Int))=decide (b.length=a.length):=yn (by omega);unfold A9;rw[e];have h7:=zsq (b:=bS) s1;by_cases l1:¬bD.length=aD.length
 ·simp only[hd,df l1,Ah l1,Bool.not_false,Bool.not_true,ctQ,cf,bsQ,Bool.false_and,Bool.and_false]
 replace l1:=Classical.not_not.1 l1;by_cases l2:¬bT.length=aT.length
 ·simp only[hd,df l2,Ah l2,dt l1,Bool.not_false,Bool.not_true,ctQ,cf,bsQ,Bool.false_and,Bool.and_false]
 replace l2:=Classical.not_not.1 l2;by_cases l3:¬bZ.length=aZ.length
 ·simp only[hd,df l3,Ah l3,dt l1,dt l2,Bool.not_false,Bool.not_true,ctQ,cf,bsQ,Bool.false_and,Bool.and_false]
 replace l3:=Classical.not_not.1 l3;by_cases l4:¬bR.length=aR.length
 ·simp only[hd,df l4,Ah l4,dt l1,dt l2,dt l3,Bool.not_false,Bool.not_true,ctQ,cf,bsQ,Bool.false_and,Bool.and_false]
 replace l4:=Classical.not_not.1 l4;by_cases l5:¬bC.length=aC.length
 ·simp only[hd,df l5,Ah l5,dt l1,dt l2,dt l3,dt l4,Bool.not_false,Bool.not_true,ctQ,cf,bsQ,Bool.false_and,Bool.and_false]
 replace l5:=Classical.not_not.1 l5;by_cases l6:¬bV.length=aV.length
 ·simp only[hd,df l6,Ah l6,dt l1,dt l2,dt l3,dt l4,dt l5,Bool.not_false,Bool.not_true,ctQ,cf,bsQ,Bool.false_and,Bool.and_false]
 replace l6:=Classical.not_not.1 l6;simp only[hd,dt l1,dt l2,dt l3,dt l4,dt l5,dt l6,h7,Bool.not_true,cf,bsQ,W4];simp only[zK1 _ _ _ _ _ _ _ _ _ _ _ _ _ _ _ _ d1 l1 d2,zK2 _ _ _ _ _ _ _ _ _ _ _ _ _ _ _ _ t1 l2 t2,zK3 _ _ _ _ _ _ _ _ _ _ _ _ _ _ _ _ z1 l3 z2,zK4 _ _ _ _ _ _ _ _ _ _ _ _ _ _ _ _ r1 l4 r2,zK5 _ _ _ _ _ _ _ _ _ _ _ _ _ _ _ _ c1 l5 c2,zK6 _ _ _ _ _ _ _ _ _ _ _ _ _ _ _ _ v1 l6 v2]
 cases pd (aS=bS)with
 |false=>simp only[Bool.not_false,ctQ,bsQ,Bool.and_false,Bool.false_and]
 |true =>
  cases pd (aH=bH)with
  |false=>simp only[Bool.not_false,Bool.not_true,cf,ctQ,bsQ,Bool.and_false,Bool.false_and]
  |true =>
   cases pd (aD=bD)with|false=>rfl|true =>
   cases pd (aT=bT)with|false=>rfl|true =>
   cases pd (aZ=bZ)with|false=>rfl|true =>
   cases pd (aR=bR)with|false=>rfl|true =>
   cases pd (aC=bC)with|false=>rfl|true =>
   cases pd (aV=bV)with|false=>rfl|true=>rfl
theorem zmr{α σ τ:Type}(l:List α)(f:σ→α→σ)(fin:σ→τ)(I:Nat→σ→Prop)(L:Nat→Int→σ→τ)
  (hL:∀K (i:Nat) x s,l[i]?=some x→I i s→L (K+1) (i:Int) s=L K ((i+1:Nat):Int) (f s x)∧I (i+1) (f s x)) (hE:∀K s,I l.length s→L (K+1) (l.length:Int) s=fin s):
  ∀(r:List α)(i K:Nat)(s:σ),l.drop i=r→i≤l.length→r.length<K→I i s→L K (i:Int) s=fin (r.foldl f s)∧I l.length (r.foldl f s)
 |[],i,K,s,hr,hi,hK,hI=>by
  obtain⟨K,rfl⟩:∃k,K=k+1:=⟨K-1,by simp at hK;omega⟩
  have:=drop_nil hr hi;subst this;exact⟨hE K s hI,hI⟩
 |x::r,i,K,s,hr,hi,hK,hI=>by
  obtain⟨K,rfl⟩:∃k,K=k+1:=⟨K-1,by simp at hK;omega⟩
  obtain⟨h1,h2,h3⟩:=yA hr;simp only[lc]at hK;obtain⟨e1,e2⟩:=hL K i x s h1 hI;rw[e1,List.foldl_cons];exact zmr l f fin I L hL hE r (i+1) K (f s x) h2 (by omega) (by omega) e2
theorem zms{α σ τ:Type}(l:List α)(f:σ→α→σ)(fin:σ→τ)(I:Nat→σ→Prop)(L:Nat→Int→σ→τ)(s:σ)(hs:l.length<4611686018427387904)(h0:I 0 s)
  (hL:∀K (i:Nat) x s,l[i]?=some x→I i s→L (K+1) (i:Int) s=L K ((i+1:Nat):Int) (f s x)∧I (i+1) (f s x)) (hE:∀K s,I l.length s→L (K+1) (l.length:Int) s=fin s):
  L KK 0 s=fin (l.foldl f s)∧I l.length (l.foldl f s):=zmr l f fin I L hL hE l 0 KK s rfl (Nat.zero_le _) (km (by omega)) h0
theorem lt_at{α:Type}{l:List α}{i:Nat}{x:α}(h:l[i]?=some x):decide ((i:Int)<(List.length l:Nat))=true:=dt (by have:=(List.getElem?_eq_some_iff.1 h).1;omega)
theorem zHi{α:Type}{l:List α}:decide (((List.length l:Nat):Int)<(List.length l:Nat))=false:=df (by omega)
theorem zK7{α:Type}{l:List α}{i:Nat}{x:α}(h:l[i]?=some x):i<l.length:=(List.getElem?_eq_some_iff.1 h).1
theorem zK8{o:Option (Bool⊕Unit)}{g r:Bool}{f:Unit→Option Bool}(h:o=some (bif g then Sum.inr ()else Sum.inl false))(hr:g=true→f ()=some r):o.bind (xB some f)=some (g&&r):=by
 subst h
 cases g with
 |false=>rfl
 |true=>rw[ctQ,bsQ,xB,hr rfl,Bool.true_and]
theorem zHj{τ:Type}(n lo:Nat)(g:Nat→Bool)(ok bad:τ)(L:Nat→Int→τ)(hL:∀K (i:Nat),lo≤i→i<n→L (K+1) (i:Int)=bif g i then L K ((i+1:Nat):Int)else bad)(hE:∀K (i:Nat),n≤i→L (K+1) (i:Int)=ok):
  ∀(m a K:Nat),lo≤a→n-a≤m→m<K→L K (a:Int)=bif pd (∀k,a≤k→k<n→g k=true)then ok else bad
 |0,a,K,hlo,h,hK=>by
  obtain⟨K,rfl⟩:∃k,K=k+1:=⟨K-1,by omega⟩
  rw[hE K a (by omega),uF.2 (fun k h1 h2=>by omega)];rfl
 |m+1,a,K,hlo,h,hK=>by
  obtain⟨K,rfl⟩:∃k,K=k+1:=⟨K-1,by omega⟩
  by_cases ha:n≤a
  ·rw[hE K a ha,uF.2 (fun k h1 h2=>by omega)];rfl
  ·rw[hL K a hlo (by omega)]
   cases hg:g a with
   |false =>
    have:pd (∀k,a≤k→k<n→g k=true)=false:=by
     cases hp:pd (∀k,a≤k→k<n→g k=true)with
     |false=>rfl
     |true=>rw[uF.1 hp a (Nat.le_refl _) (by omega)]at hg;cases hg
    rw[this];rfl
   |true =>
    rw[ctQ,zHj n lo g ok bad L hL hE m (a+1) K (by omega) (by omega) (by omega)]
    have:pd (∀k,a+1≤k→k<n→g k=true)=pd (∀k,a≤k→k<n→g k=true):=zii ⟨fun h k h1 h2=>by
     by_cases hk:k=a
     ·rw[hk];exact hg
     ·exact h k (by omega) h2,fun h k h1 h2=>h k (by omega) h2⟩
    rw[this]
def ptA(p:List zG)(i:Nat):zG:=p.getD (i % p.length) default
def zmt(a b c:zG):Bool :=
 (decide (0≤a.X)&&(decide (a.X≤1048576)&&(decide (0≤a.Y)&&decide (a.Y≤1048576)))) &&
 (!(decide (a.X=b.X)==decide (a.Y=b.Y))&&!(decide (a.X=b.X)==decide (b.X=c.X)))
def K8(p:List zG)(i:Nat):Bool:=zmt (ptA p i) (ptA p (i+1)) (ptA p (i+2))
theorem zz7{α β:Type}{o:Option α}{v:α}{f:α→Option β}{r:Option β}(h:o=some v)(h2:f v=r):o.bind f=r:=by rw[h,bsQ,h2]
theorem zz8(a b c:zG):((Wj a).bind fun x5=>(bif (!x5)then some true else(bif ((decide (a.X=b.X))==(decide (a.Y=b.Y)))then some true else(xe ⟨a,b⟩).bind fun x6=>(xe ⟨b,c⟩).bind fun x7=>some (x6==x7))))=some (!(zmt a b c)):=by
 show((bif (decide (0≤a.X))then(bif (decide (a.X≤1048576))then(bif (decide (0≤a.Y))then some (decide (a.Y≤1048576))else some false)else some false)else some false).bind fun x5=>(bif (!x5)then some true else(bif ((decide (a.X=b.X))==(decide (a.Y=b.Y)))then some true else(some ((decide (a.X=b.X))==(decide (b.X=c.X)))))))=_
 unfold zmt;cases decide (0≤a.X)
 ·rfl
 cases decide (a.X≤1048576)
 ·rfl
 cases decide (0≤a.Y)
 ·rfl
 cases decide (a.Y≤1048576)
 ·rfl
 cases (decide (a.X=b.X)==decide (a.Y=b.Y))<;>cases (decide (a.X=b.X)==decide (b.X=c.X))<;>rfl
theorem zE2(a b c:zG):((bif (decide (a.X<0))then some true else(bif (decide (a.X>1048576))then some true else(bif (decide (a.Y<0))then some true else(bif (decide (a.Y>1048576))then some true else(bif ((decide (a.X=b.X))==(decide (a.Y=b.Y)))then some true else some ((decide (a.X=b.X))==(decide (b.X=c.X)))))))):Option Bool)=some (!(zmt a b c)):=by
 unfold zmt
 have lt:∀x y:Int,decide (x<y)=!(decide (y≤x)):=fun x y=>by
  by_cases h:x<y
  ·rw[dt h,df (by omega)];rfl
  ·rw[df h,dt (by omega)];rfl
 have gt:∀x y:Int,decide (x>y)=!(decide (x≤y)):=fun x y=>lt y x
 rw[lt,lt,gt,gt];cases decide (0≤a.X)
 ·rfl
 cases decide (a.X≤1048576)
 ·rfl
 cases decide (0≤a.Y)
 ·rfl
 cases decide (a.Y≤1048576)
 ·rfl
 cases (decide (a.X=b.X)==decide (a.Y=b.Y))<;>cases (decide (a.X=b.X)==decide (b.X=c.X))<;>rfl
def zu4(a b:zG):Bool:=decide (a.X<b.X)||(decide (a.X=b.X)&&decide (a.Y<b.Y))
def zE3(p:List zG)(i:Nat):Bool:=!(decide (0<i))||zu4 (ptA p 0) (ptA p i)
def zE4(a b c d:zG):Bool:=decide (max (min a.X b.X) (min c.X d.X)≤min (max a.X b.X) (max c.X d.X))&&decide (max (min a.Y b.Y) (min c.Y d.Y)≤min (max a.Y b.Y) (max c.Y d.Y))
def zz9(p:List zG)(i k:Nat):Bool:=decide ((k+1) % p.length=i)||!(zE4 (ptA p i) (ptA p (i+1)) (ptA p k) (ptA p (k+1)))
def zil(p:List zG):Prop:=(4≤p.length∧p.length≤60)∧(∀i,0≤i→i<p.length→(K8 p i&&zE3 p i)=true)∧(∀i,0≤i→i<p.length→pd (∀k,i+2≤k→k<p.length→zz9 p i k=true)=true)∧¬(ptA p 0).X=(ptA p 1).X
theorem zmu{p:List zG}{i:Nat}(h:0<p.length):idx p (((i % p.length:Nat)):Int)=some (ptA p i):=zG3 (Nat.mod_lt _ h)
theorem Kp{p:List zG}{i:Nat}(h:i<p.length):idx p ((i:Nat):Int)=some (ptA p i):=by
 have:=zmu (p:=p) (i:=i) (by omega)
 rwa [Nat.mod_eq_of_lt h]at this
theorem VD{i n:Nat}:Int.tmod (i:Int) (n:Int)=((i % n:Nat):Int):=rfl
theorem zQ0{p:List zG}{i:Nat}:ptA p (i % p.length)=ptA p i:=by unfold ptA;rw[Nat.mod_mod]
theorem zK9{p:List zG}{i:Nat}:ptA p (i % p.length+1)=ptA p (i+1):=by unfold ptA;rw[Nat.mod_add_mod]
def zmv(p:List zG)(i:Nat):zI:=⟨ptA p i,ptA p (i+1)⟩
theorem zAa{p:List zG}(h0:0<p.length)(h1:p.length≤60):∃l,JJ p=some l∧l.length=p.length∧∀j<p.length,l[j]?=some (zmv p j):=by
 have hr:(List.range p.length).length=p.length:=List.length_range
 have key:=zms (List.range p.length) (fun s i=>List.set s i (zmv p i)) (fun s=>some s) (fun i s=>s.length=p.length∧∀j<i,s[j]?=some (zmv p j)) (fun K q s=>wg p ((List.length p:Nat):Int) K (q,s))
  (List.replicate (Int.toNat ((List.length p:Nat):Int)) (zI.mk (zG.mk 0 0) (zG.mk 0 0))) (by omega) ⟨by simp,fun j hj=>by omega⟩ (fun K i x s hx hs=>?_) (fun K s hs=>?_)
 ·refine⟨_,?_,key.2.1,fun j hj=>key.2.2 j (by omega)⟩
  unfold JJ;rw[zx (by omega),bsQ,key.1];rfl
 ·have hi:=zK7 hx
  rw[hr]at hi
  have hxi:x=i:=by simpa[List.getElem?_range,hi]using hx.symm
  subst hxi;obtain⟨s1,s2⟩:=hs;refine⟨?_,by rw[List.length_set];exact s1,fun j hj=>?_⟩
  ·show wg p ((List.length p:Nat):Int) (K+1) ((x:Int),s)=_
   rw[wg];simp only[dt (show(x:Int)<((List.length p:Nat):Int) by omega),ctQ,Kp hi,bsQ];rw[zx (by omega),bsQ,xL (by omega),VD,zmu h0,bsQ,zx (by omega),bsQ];simp only[Int.toNat_natCast];rw[List.getElem?_eq_getElem (by omega),bsQ];rfl
  ·by_cases hjx:j=x
   ·subst hjx
    rw[List.getElem?_set_self (by omega)]
   ·rw[List.getElem?_set_ne (Ne.symm hjx)]
    exact s2 j (by omega)
 ·rw[hr,wg]
  simp only[zHi,cf]
theorem zu5(a b:zG):(AM a b).bind (fun x=>some (decide (x≥0)))=some (!(zu4 a b)):=by
 have hc:∀x y:Int,jz x y=some (if x<y then -1 else if x>y then 1 else 0):=fun x y=>by
  unfold jz AL;simp only[bsQ,decide_true,Bool.not_true,cf];by_cases h:x<y
  ·rw[dt h,if_pos h];rfl
  ·rw[df h,if_neg h]
   by_cases h2:x>y
   ·rw[dt h2,if_pos h2];rfl
   ·rw[df h2,if_neg h2];rfl
 have ho:∀x y:Int,Y9 [x,y]=some (if x=0 then y else x):=fun x y=>by
  unfold Y9
  have e:KK=(KK-3)+3:=by have:=km (n:=10) (by omega);omega
  rw[e,j4];simp only[show decide ((0:Int)<((List.length [x,y]:Nat):Int))=true from rfl,ctQ,show idx [x,y] 0=some x from rfl,bsQ];by_cases h:x=0
  ·rw[dt h,if_pos h]
   simp only[Bool.not_true,cf];rw[show w64 (0+1)=1 from rfl,j4];simp only[show decide ((1:Int)<((List.length [x,y]:Nat):Int))=true from rfl,ctQ,show idx [x,y] 1=some y from rfl,bsQ];by_cases h2:y=0
   ·rw[dt h2,h2]
    simp only[Bool.not_true,cf];rw[show w64 (1+1)=2 from rfl,j4];rfl
   ·rw[df h2];rfl
  ·rw[df h,if_neg h];rfl
 unfold AM;simp only[hc,ho,bsQ];unfold zu4;refine congrArg some ?_;by_cases h1:a.X<b.X
 ·simp[h1]
 ·by_cases h2:a.X>b.X
  ·have:¬a.X=b.X:=by omega
   simp[h1,h2,this]
  ·have:a.X=b.X:=by omega
   by_cases h3:a.Y<b.Y
   ·simp[this,h3]
   ·by_cases h4:a.Y>b.Y
    ·simp[this,h3,h4]
    ·simp[this,h3,h4]
theorem zsr{p:Prop}(h:¬p):pd p=false:=(zih (b:=false) ⟨fun h=>(by cases h),fun h2=>absurd h2 h⟩).symm
theorem W6(n:Nat)(g:Nat→Bool)(L:Nat→Int→Option (Bool⊕Unit))(a:Nat)(hn:n<4611686018427387904)(hL:∀K (i:Nat),a≤i→i<n→L (K+1) (i:Int)=bif g i then L K ((i+1:Nat):Int)else some (Sum.inl false))(hE:∀K (i:Nat),n≤i→L (K+1) (i:Int)=some (Sum.inr ())):
  L KK (a:Int)=some (bif pd (∀k,a≤k→k<n→g k=true)then Sum.inr ()else Sum.inl false):=by
 rw[zHj n a g _ _ L hL hE n a KK (Nat.le_refl _) (by omega) (km (by omega))];cases pd (∀k,a≤k→k<n→g k=true)<;>rfl
theorem zAb{o:Option (Bool⊕Unit)}{g r:Prop}{f:Unit→Option Bool}(h:o=some (bif pd g then Sum.inr ()else Sum.inl false))(hr:g→f ()=some (pd r)):o.bind (xB some f)=some (pd (g∧r)):=by
 rw[od]
 exact zK8 h fun hg=>hr (uF.1 hg)
theorem zps{p:List zG}:vb p=some (pd (zil p)):=by
 unfold vb zaq;by_cases hh:4≤p.length∧p.length≤60
 ·obtain⟨h4,h60⟩:=hh
  obtain⟨l,e1,e2,e3⟩:=zAa (p:=p) (by omega) h60
  have hl:∀j<p.length,idx l (j:Int)=some (zmv p j):=fun j hj=>yv (e3 j hj)
  rw[df (show ¬((List.length p:Nat):Int)<4 by omega),df (show ¬((List.length p:Nat):Int)>60 by omega),cf,bsQ,cf,e1,bsQ,zb5];have hp:pd (zil p)=pd ((∀i,0≤i→i<p.length→(K8 p i&&zE3 p i)=true)∧(∀i,0≤i→i<p.length→pd (∀k,i+2≤k→k<p.length→zz9 p i k=true)=true)∧¬(ptA p 0).X=(ptA p 1).X):=zii ⟨fun h=>h.2,fun h=>⟨⟨h4,h60⟩,h⟩⟩;rw[hp,e2]
  refine zAb ?_ fun _=>zAb ?_ fun _=>?_
  ·refine W6 p.length (fun i=>K8 p i&&zE3 p i) (vZ p l (List.length p:Nat)) 0 (by omega) (fun K i _ hi=>?_) (fun K i hi=>?_)
   ·rw[vZ]
    simp only[dt (show(i:Int)<((List.length p:Nat):Int) by omega),ctQ,hl i hi,bsQ,e2];rw[zx (by omega),bsQ,xL (by omega),VD,hl _ (Nat.mod_lt _ (by omega))];rw[show zmv p ((i+1) % p.length)=zmv p (i+1) by unfold zmv;rw[zQ0,zK9],bsQ];have h0:idx p 0=some (ptA p 0):=Kp (p:=p) (i:=0) (by omega);refine zz7 (zz8 (ptA p i) (ptA p (i+1)) (ptA p (i+2))) ?_;unfold K8 zE3;cases zmt (ptA p i) (ptA p (i+1)) (ptA p (i+2))
    ·rfl
    simp only[Bool.not_true,cf,Bool.true_and];by_cases hi0:0<i
    ·rw[dt (show(i:Int)>0 by omega),dt hi0,ctQ,h0,Kp hi]
     simp only[bsQ,zu5,Bool.not_true,Bool.false_or];cases zu4 (ptA p 0) (ptA p i)<;>rfl
    ·rw[df (show ¬(i:Int)>0 by omega),df hi0];rfl
   ·rw[vZ,df (by omega)];rfl
  ·refine W6 p.length (fun i=>pd (∀k,i+2≤k→k<p.length→zz9 p i k=true)) (jb l (List.length p:Nat)) 0 (by omega) (fun K i _ hi=>?_) (fun K i hi=>?_)
   ·rw[jb,dt (show(i:Int)<((List.length p:Nat):Int) by omega),ctQ,xv (by omega) (by omega),show((i:Int)+2)=((i+2:Nat):Int) by omega]
    rw[W6 p.length (fun k=>zz9 p i k) (ja l (i:Int) (List.length p:Nat)) (i+2) (by omega) (fun K k hlo hk=>?_) (fun K k hk=>?_),xL (by omega)]
    ·cases pd (∀k,i+2≤k→k<p.length→zz9 p i k=true)<;>rfl
    ·rw[ja,e2,dt (show(k:Int)<((List.length p:Nat):Int) by omega),ctQ,xv (n:=(i:Int)+_) (by omega) (by omega),xv (by omega) (by omega),hl i hi,hl k hk]
     have hm:decide ((i:Int)+((List.length p:Nat):Int)-(k:Int)>1)=!(decide ((k+1) % p.length=i)):=by
      by_cases hk1:k+1=p.length
      ·rw[hk1,Nat.mod_self]
       by_cases hi0:0=i
       ·rw[dt hi0,df (by omega)];rfl
       ·rw[df hi0,dt (by omega)];rfl
      ·rw[Nat.mod_eq_of_lt (by omega)]
       rw[df (show ¬k+1=i by omega),dt (by omega)];rfl
     rw[hm];unfold zz9;cases decide ((k+1) % p.length=i)
     ·simp only[Bool.not_false,ctQ,bsQ,Bool.false_or]
      show((bif (decide (max (min (ptA p i).X (ptA p (i+1)).X) (min (ptA p k).X (ptA p (k+1)).X)≤min (max (ptA p i).X (ptA p (i+1)).X) (max (ptA p k).X (ptA p (k+1)).X)))then some (decide (max (min (ptA p i).Y (ptA p (i+1)).Y) (min (ptA p k).Y (ptA p (k+1)).Y)≤min (max (ptA p i).Y (ptA p (i+1)).Y) (max (ptA p k).Y (ptA p (k+1)).Y)))else some false).bind fun x4=>some x4).bind _=_
      rw[zh7,bsQ,bsQ,xL (by omega)];unfold zE4;cases (decide (max (min (ptA p i).X (ptA p (i+1)).X) (min (ptA p k).X (ptA p (k+1)).X)≤min (max (ptA p i).X (ptA p (i+1)).X) (max (ptA p k).X (ptA p (k+1)).X))&&decide (max (min (ptA p i).Y (ptA p (i+1)).Y) (min (ptA p k).Y (ptA p (k+1)).Y)≤min (max (ptA p i).Y (ptA p (i+1)).Y) (max (ptA p k).Y (ptA p (k+1)).Y)))<;>rfl
     ·rw[xL (by omega)];rfl
    ·rw[ja,e2,df (by omega)];rfl
   ·rw[jb,df (by omega)];rfl
  ·have:=hl 0 (by omega)
   rw[show((0:Nat):Int)=0 from rfl]at this;rw[this,bsQ,xe,bsQ];exact congrArg some (zih (by simp[zmv]))
 ·rw[zsr (fun h=>hh h.1)]
  by_cases h4:p.length<4
  ·rw[dt (show((List.length p:Nat):Int)<4 by omega)];rfl
  ·rw[df (show ¬((List.length p:Nat):Int)<4 by omega),dt (show((List.length p:Nat):Int)>60 by omega)];rfl
theorem zQ1(a b:zG):Vk a b=some (zu4 a b):=by
 unfold Vk zu4;cases decide (a.X<b.X)<;>cases decide (a.X=b.X)<;>rfl
theorem zQ2(a b c d:zG):zhk a b c d=some (zE4 a b c d):=zh7 _ _
theorem zAc{p:List zG}(h4:4≤p.length)(h60:p.length≤60):A6 p=some (pd (∀i,0≤i→i<p.length→K8 p i=true)):=by
 unfold A6;rw[show(0:Int)=((0:Nat):Int) from rfl,W6 p.length (K8 p) (wq p (List.length p:Nat)) 0 (by omega) (fun K i _ hi=>?_) (fun K i hi=>?_)]
 ·cases pd (∀i,0≤i→i<p.length→K8 p i=true)<;>rfl
 ·rw[wq,dt (show(i:Int)<((List.length p:Nat):Int) by omega),ctQ,Kp hi,bsQ,zx (by omega),bsQ,xL (by omega),VD,zmu (by omega),bsQ,bsQ,
   xv (n:=(i:Int)+2) (by omega) (by omega),show((i:Int)+2)=((i+2:Nat):Int) by omega,VD,zmu (by omega),bsQ]
  refine zz7 (zE2 (ptA p i) (ptA p (i+1)) (ptA p (i+2))) ?_;unfold K8;cases zmt (ptA p i) (ptA p (i+1)) (ptA p (i+2))<;>rfl
 ·rw[wq,df (by omega)];rfl
theorem zLa{p:List zG}:Vl p=some (pd (zil p)):=by
 unfold Vl;by_cases hh:4≤p.length∧p.length≤60
 ·obtain⟨h4,h60⟩:=hh
  have i0:idx p 0=some (ptA p 0):=Kp (p:=p) (i:=0) (by omega);have i1:idx p 1=some (ptA p 1):=Kp (p:=p) (i:=1) (by omega);rw[df (show ¬((List.length p:Nat):Int)<4 by omega),df (show ¬((List.length p:Nat):Int)>60 by omega),cf,bsQ,cf,zAc h4 h60,bsQ,i0,i1];simp only[bsQ]
  have hp:pd (zil p)=pd (((∀i,0≤i→i<p.length→K8 p i=true)∧(ptA p 0).Y=(ptA p 1).Y)∧(∀i,0≤i→i<p.length→(zE3 p i&&pd (∀k,i+2≤k→k<p.length→zz9 p i k=true))=true)∧True):=zii (by
   have hc:K8 p 0=true→(¬(ptA p 0).X=(ptA p 1).X↔(ptA p 0).Y=(ptA p 1).Y):=fun h=>by
    unfold K8 zmt at h;simp only[bn,Bool.not_eq_true',beq_eq_false_iff_ne,ne_eq,decide_eq_decide]at h;have h2:¬((ptA p 0).X=(ptA p 1).X↔(ptA p 0).Y=(ptA p 1).Y):=h.2.1;by_cases hx:(ptA p 0).X=(ptA p 1).X<;>by_cases hy:(ptA p 0).Y=(ptA p 1).Y<;>simp_all
   simp only[zil,bn];constructor
   ·rintro⟨_,a,b,c⟩
    exact⟨⟨fun i h1 h2=>(a i h1 h2).1,(hc (a 0 (Nat.le_refl _) (by omega)).1).1 c⟩,fun i h1 h2=>⟨(a i h1 h2).2,b i h1 h2⟩,trivial⟩
   ·rintro⟨⟨a,b⟩,c,_⟩
    exact⟨⟨h4,h60⟩,fun i h1 h2=>⟨a i h1 h2,(c i h1 h2).1⟩,fun i h1 h2=>(c i h1 h2).2,(hc (a 0 (Nat.le_refl _) (by omega))).2 b⟩)
  rw[hp]
  have e1:(bif (!(pd (∀i,0≤i→i<p.length→K8 p i=true)))then some true else some (!(decide ((ptA p 0).Y=(ptA p 1).Y))))=some (!(pd ((∀i,0≤i→i<p.length→K8 p i=true)∧(ptA p 0).Y=(ptA p 1).Y))):=by
   rw[od,W4];cases pd (∀i,0≤i→i<p.length→K8 p i=true)<;>rfl
  rw[e1,bsQ]
  cases hq:pd ((∀i,0≤i→i<p.length→K8 p i=true)∧(ptA p 0).Y=(ptA p 1).Y)with
  |false=>rw[od,hq];rfl
  |true =>
   rw[od,hq,Bool.not_true,cf,Bool.true_and]
   refine zAb ?_ fun _=>by rw[uF.2 trivial]
   refine W6 p.length (fun i=>zE3 p i&&pd (∀k,i+2≤k→k<p.length→zz9 p i k=true)) (jd p (List.length p:Nat)) 0 (by omega) (fun K i _ hi=>?_) (fun K i hi=>?_)
   ·rw[jd,dt (show(i:Int)<((List.length p:Nat):Int) by omega),ctQ]
    have e2:(bif (decide ((i:Int)>0))then(idx p 0).bind fun x2=>(idx p (i:Int)).bind fun x3=>(Vk x2 x3).bind fun x4=>some (!x4)else some false)=some (!(zE3 p i)):=by
     unfold zE3;by_cases hi0:0<i
     ·rw[dt (show(i:Int)>0 by omega),dt hi0,ctQ,i0,Kp hi]
      simp only[bsQ,zQ1,Bool.not_true,Bool.false_or]
     ·rw[df (show ¬(i:Int)>0 by omega),df hi0];rfl
    rw[e2,bsQ]
    cases zE3 p i with
    |false=>rfl
    |true =>
     rw[Bool.not_true,cf,Bool.true_and,xv (n:=(i:Int)+2) (by omega) (by omega),show((i:Int)+2)=((i+2:Nat):Int) by omega];rw[W6 p.length (fun k=>zz9 p i k) (jc p (List.length p:Nat) (i:Int)) (i+2) (by omega) (fun K k hlo hk=>?_) (fun K k hk=>?_),xL (by omega)]
     ·cases pd (∀k,i+2≤k→k<p.length→zz9 p i k=true)<;>rfl
     ·rw[jc,dt (show(k:Int)<((List.length p:Nat):Int) by omega),ctQ,zx (by omega),bsQ,xL (by omega),VD,xL (by omega)]
      have i2:idx p ((i+1:Nat):Int)=some (ptA p (i+1)):=Kp (by omega);rw[Kp hi,i2,Kp hk,zmu (by omega)];simp only[bsQ,zQ2];rw[yn (p:=(((k+1) % p.length:Nat):Int)=(i:Int)) (q:=(k+1) % p.length=i) (by omega)];unfold zz9;cases decide ((k+1) % p.length=i)
      ·simp only[Bool.not_false,ctQ,bsQ,Bool.false_or]
       cases zE4 (ptA p i) (ptA p (i+1)) (ptA p k) (ptA p (k+1))<;>rfl
      ·rfl
     ·rw[jc,df (by omega)];rfl
   ·rw[jd,df (by omega)];rfl
 ·rw[zsr (fun h=>hh h.1)]
  by_cases h4:p.length<4
  ·rw[dt (show((List.length p:Nat):Int)<4 by omega)];rfl
  ·rw[df (show ¬((List.length p:Nat):Int)<4 by omega),dt (show((List.length p:Nat):Int)>60 by omega)];rfl
variable[Fuel]
-- an expression has no more nodes than what was read has tokens
theorem zAd{op:Int}{a b:Expr}:JY (zm6 op a b)=JY a+JY b+1:=by unfold zm6;rw[JY,K7,K7,K7];omega
theorem zAe:∀(n:Nat),(∀(lv:Nat)(r:List Token),lv≤8→r.length<n→TWF r→∀e r2,DE lv r=.ok (e,r2)→JY e+r2.length≤r.length)∧(∀(lv:Nat)(e:Expr)(r:List Token),lv<8→r.length<n→TWF r→∀e2 r2,LP lv e r=.ok (e2,r2)→JY e2+r2.length≤JY e+r.length):=by
 intro n
 induction n with
 |zero=>exact⟨fun _ _ _ h=>by omega,fun _ _ _ _ h=>by omega⟩
 |succ n ih =>
  have hLP:∀(lv:Nat)(e:Expr)(r:List Token),lv<8→r.length<n+1→TWF r→∀e2 r2,LP lv e r=.ok (e2,r2)→JY e2+r2.length≤JY e+r.length:=by
   intro lv e r hlv hn hr e2 r2 h;rw[zEm hr]at h;split at h
   ·cases h;omega
   ·rename_i op hop
    obtain⟨o,ho,_⟩:=Af hop;have ht:=zR hr (vI ho).1;obtain⟨a,r1,h1,h2⟩:=yd h;have g:=ht.lt;have ha:=xE ht.wf h1;have g1:=ha.lt;have k1:=ih.1 (lv+1) _ (by omega) (by omega) ht.wf _ _ h1;split at h2
    ·cases h2;rw[zAd];omega
    ·have:=ih.2 lv _ _ hlv (by omega) ha.wf _ _ h2
     rw[zAd]at this;omega
  refine⟨fun lv=>?_,hLP⟩
  have key:∀(k lv:Nat),8-lv=k→lv≤8→∀(r:List Token),r.length<n+1→TWF r→∀e r2,DE lv r=.ok (e,r2)→JY e+r2.length≤r.length:=by
   intro k
   induction k with
   |zero =>
    intro lv hk hl r hn hr e r2 h
    obtain rfl:lv=8:=by omega
    rw[zQl hr]at h;unfold zcb at h;split at h
    ·obtain⟨a,r1,h1,h2⟩:=yd h
     cases h2;have:=(wE hr h1).lt;rw[JY,K7];omega
    ·split at h
     ·rename_i hb
      have ht:=zR hr (zl hb);obtain⟨a,r1,h1,h2⟩:=yd h;obtain⟨b,r3,h3,h4⟩:=yd h2;cases h4;have q1:=wk ht.wf h1;have q2:=wk q1.wf h3;have:=ht.lt;have:=q1.lt;have:=q2.lt;rw[JY,K7];omega
     ·split at h
      ·rename_i hb
       have ht:=zR hr (zl hb);obtain⟨a,r1,h1,h2⟩:=yd h;cases h2;have:=ht.lt;have:=(wk ht.wf h1).lt;rw[JY,K7];omega
      ·split at h
       ·rename_i hb
        have ht:=zR hr (zl hb);obtain⟨a,r1,h1,h2⟩:=yd h;obtain⟨b,r3,h3,h4⟩:=yd h2;cases h4;have g:=ht.lt;have q1:=ih.1 0 _ (by omega) (by omega) ht.wf _ _ h1;have:=(xw (xE ht.wf h1).wf h3).lt;omega
       ·obtain⟨a,r1,h1,h2⟩:=yd h
        cases h2;have:=(wk hr h1).lt;rw[JY,K7];omega
   |succ k ihk =>
    intro lv hk hl r hn hr e r2 h;rw[zEl (by omega) hr]at h;split at h
    ·rename_i hb
     unfold ifS at h;have ht:=zR hr (zl hb.2);have g:=ht.lt;obtain⟨a,r1,h1,h⟩:=yd h;obtain⟨u,r3,h3,h⟩:=yd h;obtain⟨b,r4,h4,h⟩:=yd h;obtain⟨u,r5,h5,h⟩:=yd h;obtain⟨c,r6,h6,h⟩:=yd h;cases h;have w1:=xE ht.wf h1;have w3:=xw w1.wf h3;have w4:=xE w3.wf h4;have w5:=xw w4.wf h5;have:=w1.lt;have:=w3.lt;have:=w4.lt;have:=w5.lt;have q1:=ih.1 0 _ (by omega) (by omega) ht.wf _ _ h1;have q4:=ih.1 0 _ (by omega) (by omega) w3.wf _ _ h4;have q6:=ih.1 0 _ (by omega) (by omega) w5.wf _ _ h6;rw[JY,K7,K7,K7,K7];omega
    ·split at h
     ·rename_i hb
      have ht:=zR hr (zl hb.2);have g:=ht.lt;obtain⟨a,r1,h1,h⟩:=yd h;cases h;have q1:=ih.1 3 _ (by omega) (by omega) ht.wf _ _ h1;rw[JY,K7,K7];omega
     ·split at h
      ·rename_i hb
       have ht:=zR hr (zl hb.2);have g:=ht.lt;obtain⟨a,r1,h1,h⟩:=yd h;cases h;have q1:=ih.1 7 _ (by omega) (by omega) ht.wf _ _ h1;rw[JY,K7,K7];omega
      ·obtain⟨a,r1,h1,h⟩:=yd h
       have q1:=ihk (lv+1) (by omega) (by omega) r hn hr _ _ h1;have w1:=xE hr h1;have:=w1.lt;have:=ih.2 lv a r1 (by omega) (by omega) w1.wf _ _ h;omega
  exact fun r hl=>key _ lv rfl hl r
theorem zAf{lv:Nat}{r r2:List Token}{e:Expr}(hl:lv≤8)(hr:TWF r)(h:DE lv r=.ok (e,r2)):JY e+r2.length≤r.length:=(zAe (r.length+1)).1 lv r hl (Nat.lt_succ_self _) hr e r2 h
theorem zch{l r r2:List Token}{e:Expr}(hs:St l r)(h:DE 0 r=.ok (e,r2)):va KK e=some ((JX e:Nat):Int):=by
 have h1:=zAf (by omega) hs.wf h;have h2:=hs.lt;have h3:=hs.len;have h4:=Ag;exact zz2 1000000 e KK (by omega) (by omega) (by omega)
theorem W7{r r2:List Token}{L:List (List UInt8)}{s:List UInt8}(h:TWF r)(e:vn L r=.ok (s,r2)):Aft r r2:=by
 unfold vn at e;split at e
 ·rename_i hk
  split at e
  ·cases e
  ·cases e;exact zR h (Jl hk)
 ·cases e
theorem J1{r r2:List Token}{p:zf}(h:TWF r)(e:Ko r=.ok (p,r2)):Aft r r2:=by
 obtain⟨a,r1,h1,e⟩:=yd e;obtain⟨b,r3,h3,e⟩:=yd e;obtain⟨c,r4,h4,e⟩:=yd e;cases e;have q1:=wE h h1;have q3:=wE q1.wf h3;exact q1.trans (q3.trans (wE q3.wf h4).e).e
-- definitions
def zHk(L:List (List UInt8))(r:List Token):Except EE (Def×List Token):=thn (vn L r) fun s r=>thn (vD Q9 r) fun _ r=>thn (DE 0 r) fun e r=>thn (zvg (decide (JX e≤12)) 6 r) fun _ r=>.ok (Def.mk s e,r)
section
variable{b:BB}{r:List Token}{L:List (List UInt8)}
theorem zAg(h:At b r)(hm:MN b.n0 L)(hb:b.D.length≤1000):RR b.l (zHk L r) (oT b) (JK b) (fun d i y=>y.1=i∧y.2.1=b.D++[d]∧MN y.2.2 (L++[d.Name])):=by
 unfold oT JK zHk
 refine(zKu h hm).bind fun s r1 y h1 hs1 hy=>?_
 obtain⟨y1,y2,y3⟩:=y;obtain⟨rfl,rfl,hy⟩:=hy;dsimp only at hy ⊢;have a1:At { b with i:=zA b.l r1,n0:=y3 } r1:=yh rfl rfl hs1
 refine(a1.want Q9).bindR fun u r2 h2 hs2=>?_
 have a2:At { b with i:=zA b.l r2,n0:=y3 } r2:=yh rfl rfl hs2
 refine a2.expr.bindR fun e r3 h3 hs3=>?_
 have a3:At { b with i:=zA b.l r3,n0:=y3 } r3:=yh rfl rfl hs3;simp only[fE,xN];rw[zch hs2 h3,bsQ,bsQ,show decide (((JX e:Nat):Int)≤12)=decide (JX e≤12) from yn (by omega)]
 refine(zmo a3 (decide (JX e≤12)) 6).bindR fun u r4 h4 hs4=>?_
 rw[zx (by simp only[la,lc,List.length_nil];omega),bsQ,bsQ];exact RR.ret hs4 ⟨rfl,rfl,hy⟩
end
def zc9:Nat→List Entry→List Token→Except EE (List Entry×List Token)
 |0,_,_=>oof
 |n+1,acc,r=>if zfg r then thn (oa (decide (acc.length<60)) 6 r) fun _ r=>thn (vn (acc.map Entry.Name) r) fun s r=>thn (jO 1099511627776 r) fun v r=>zc9 n (acc++[Entry.mk s v]) r else .ok (acc,r)
def VE(L:List (List UInt8))(r:List Token):Except EE (Table×List Token):=thn (vn L r) fun s r=>thn (zc9 (r.length+1) [] r) fun rows r=>thn (vD vW r) fun _ r=>thn (jO 1099511627776 r) fun v r=>thn (vD yi r) fun _ r=>.ok (Table.mk s rows v,r)
def zA8:Nat→List zf→List Token→Except EE (List zf×List Token)
 |0,_,_=>oof
 |n+1,acc,r=>if Jk r then thn (oa (decide (acc.length<20)) 6 r) fun _ r=>thn (Ko r) fun p r=>zA8 n (acc++[p]) r else .ok (acc,r)
def zim(L:List (List UInt8))(r:List Token):Except EE (View×List Token):=thn (vn L r) fun s r=>thn (Ko r) fun eye r=>thn (vD ow r) fun _ r=>thn (Ad 0 20 r) fun n r=>thn (vD uK r) fun _ r=>thn (Ko r) fun p r=>thn (zA8 (r.length+1) [p] r) fun l r=>thn (vD yi r) fun _ r=>.ok (View.mk s eye n l,r)
noncomputable def zda(L:List (List UInt8))(over:Bool)(r:List Token):Except EE (yl×List Token):=thn (vn L r) fun s r=>thn (kq (r.length+1) [] r) fun c r=>thn (zvg (pd (zil c)) 10 r) fun _ r=>.ok (yl.mk s over c,r)
noncomputable def zLb(L:List (List UInt8))(r:List Token):Except EE (Cap×List Token):=thn (vn L r) fun s r=>thn (wV LOAD r) fun k r=>thn (Ad 0 1099511627776 r) fun n r=>thn (kq (r.length+1) [] r) fun c r=>thn (zvg (pd (zil c)) 10 r) fun _ r=>.ok (Cap.mk s k n c,r)
section
variable{b:BB}{r:List Token}{L:List (List UInt8)}
theorem zQ3{c15:List (List (List UInt8×Bool))}{c16:List UInt8}{c17:Int}:∀(n:Nat)(r:List Token)(acc:List Entry)(m:List (List UInt8×Bool))(K:Nat),St b.l r→r.length<n→n≤K→KN m (acc.map Entry.Name) →
  RJ b.l (zc9 n acc r) (kU b c15 c16 c17 K (zA b.l r,m,acc)) (kV b c15 c16 c17 K (zA b.l r,m,acc)) (fun v i=>(i,v)):=by
 intro n
 induction n with
 |zero=>intro r acc m K hs hn;omega
 |succ n ih =>
  intro r acc m K hs hn hK hm
  obtain⟨K,rfl⟩:∃k,K=k+1:=⟨K-1,by omega⟩
  rw[zc9,kU,kV];have a0:At { b with i:=zA b.l r,n1:=c15 } r:=yh rfl rfl hs;rw[a0.isName,bsQ,bsQ]
  cases hk:zfg r with
  |true =>
   simp only[if_true,ctQ];rw[show decide ((((List.length acc):Nat):Int)<60)=decide (acc.length<60) from yn (by omega)]
   refine(a0.check _ _).bindJ fun u r1 h1 hs1=>?_
   obtain⟨rfl,hc1⟩:=vt h1;have hl:=of_decide_eq_true hc1
   refine(zmn a0 hm).bindJ fun s r2 h2 hs2=>?_
   have q2:=W7 hs.wf h2;have a2:At { b with i:=zA b.l r2,n1:=c15 } r2:=yh rfl rfl hs2;dsimp only
   refine(VB a2 1099511627776 (by omega)).bindJ fun v r3 h3 hs3=>?_
   have q3:=vS hs2.wf h3;have g2:=q2.lt;have g3:=q3.lt;dsimp only;rw[zx (by simp only[la,lc,List.length_nil];omega),bsQ,bsQ];exact ih r3 _ _ K hs3 (by omega) (by omega) (by rw[List.map_append];exact hm.add s)
  |false=>exact⟨rfl,rfl,hs⟩
theorem zE5(h:At b r)(hm:MN b.n1 L)(hb:b.T.length≤1000):RR b.l (VE L r) (HW b) (Vd b) (fun d i y=>y.1=i∧y.2.1=b.T++[d]∧MN y.2.2 (L++[d.Name])):=by
 unfold HW Vd VE
 refine(zKv h hm).bind fun s r1 y h1 hs1 hy=>?_
 obtain⟨y1,y2,y3⟩:=y;obtain⟨rfl,rfl,hy⟩:=hy;dsimp only at hy ⊢
 refine(zQ3 (b:={ b with i:=0,n1:=[] }) (r1.length+1) r1 [] [] KK hs1 (Nat.lt_succ_self _) (zce hs1) zHf).bindR fun rows r2 h2 hs2=>?_
 have a2:At { b with i:=zA b.l r2,n1:=y3 } r2:=yh rfl rfl hs2
 refine(a2.want vW).bindR fun u r3 h3 hs3=>?_
 have a3:At { b with i:=zA b.l r3,n1:=y3 } r3:=yh rfl rfl hs3
 refine(VB a3 1099511627776 (by omega)).bindR fun v r4 h4 hs4=>?_
 have a4:At { b with i:=zA b.l r4,n1:=y3 } r4:=yh rfl rfl hs4
 refine(a4.want yi).bindR fun u r5 h5 hs5=>?_
 dsimp only;rw[zx (by simp only[la,lc,List.length_nil];omega),bsQ,bsQ];exact RR.ret hs5 ⟨rfl,rfl,hy⟩
theorem tgt_L{c15:List (List (List UInt8×Bool))}{c16:List UInt8}{c17 c18 c19 c20:Int}:∀(n:Nat)(r:List Token)(acc:List zf)(K:Nat),St b.l r→r.length<n→n≤K →
  RJ b.l (zA8 n acc r) (uo b c15 c16 c17 c18 c19 c20 K (zA b.l r,acc)) (ur b c15 c16 c17 c18 c19 c20 K (zA b.l r,acc)) (fun v i=>(i,v)):=by
 intro n
 induction n with
 |zero=>intro r acc K hs hn;omega
 |succ n ih =>
  intro r acc K hs hn hK
  obtain⟨K,rfl⟩:∃k,K=k+1:=⟨K-1,by omega⟩
  rw[zA8,uo,ur];have a0:At { b with i:=zA b.l r,n5:=c15 } r:=yh rfl rfl hs;rw[a0.isNumber,bsQ,bsQ]
  cases hk:Jk r with
  |true =>
   simp only[if_true,ctQ];rw[show decide ((((List.length acc):Nat):Int)<20)=decide (acc.length<20) from yn (by omega)]
   refine(a0.check _ _).bindJ fun u r1 h1 hs1=>?_
   obtain⟨rfl,hc1⟩:=vt h1;have hl:=of_decide_eq_true hc1
   refine(zig a0).bindJ fun p r2 h2 hs2=>?_
   have q2:=J1 hs.wf h2;have g2:=q2.lt;dsimp only;rw[zx (by simp only[la,lc,List.length_nil];omega),bsQ,bsQ];exact ih r2 _ K hs2 (by omega) (by omega)
  |false=>exact⟨rfl,rfl,hs⟩
theorem zLc(h:At b r)(hm:MN b.n5 L)(hb:b.V.length≤1000):RR b.l (zim L r) (AO b) (Vh b) (fun d i y=>y.1=i∧y.2.1=b.V++[d]∧MN y.2.2 (L++[d.Name])):=by
 unfold AO Vh zim
 refine(zKy h hm).bind fun s r1 y h1 hs1 hy=>?_
 obtain⟨y1,y2,y3⟩:=y;obtain⟨rfl,rfl,hy⟩:=hy;dsimp only at hy ⊢;have a1:At { b with i:=zA b.l r1,n5:=y3 } r1:=yh rfl rfl hs1
 refine(zig a1).bindR fun eye r2 h2 hs2=>?_
 have a2:At { b with i:=zA b.l r2,n5:=y3 } r2:=yh rfl rfl hs2
 refine(a2.want ow).bindR fun u r3 h3 hs3=>?_
 have a3:At { b with i:=zA b.l r3,n5:=y3 } r3:=yh rfl rfl hs3
 refine(a3.number 0 20).bindR fun n r4 h4 hs4=>?_
 have a4:At { b with i:=zA b.l r4,n5:=y3 } r4:=yh rfl rfl hs4
 refine(a4.want uK).bindR fun u r5 h5 hs5=>?_
 have a5:At { b with i:=zA b.l r5,n5:=y3 } r5:=yh rfl rfl hs5
 refine(zig a5).bindR fun p r6 h6 hs6=>?_
 dsimp only;rw[zx (by simp),bsQ,bsQ]
 refine(tgt_L (b:={ b with i:=0,n5:=[] }) (r6.length+1) r6 [p] KK hs6 (Nat.lt_succ_self _) (zce hs6)).bindR fun l r7 h7 hs7=>?_
 have a7:At { b with i:=zA b.l r7,n5:=y3 } r7:=yh rfl rfl hs7
 refine(a7.want yi).bindR fun u r8 h8 hs8=>?_
 dsimp only;rw[zx (by simp only[la,lc,List.length_nil];omega),bsQ,bsQ];exact RR.ret hs8 ⟨rfl,rfl,hy⟩
end
def zpt{α:Type}(t:List UInt8)(d:α)(f:List Token→Except EE (α×List Token))(r:List Token):Except EE (α×List Token):=if isB t r then f r.tail else .ok (d,r)
def zE6(t:List UInt8)(r:List Token):List Token:=if isB t r then r.tail else r
abbrev BD:=Int×Expr×zE×Int×Int×Int
def fB(v:BD)(i:Int):Int×Int×Int×Int×List UInt8×List UInt8×List Expr×Int×Int×Int×Int×Int×Int×Int:=(i,v.1,v.2.1.Op,v.2.1.N,v.2.1.S,v.2.1.Key,v.2.1.Args,v.2.2.1.Side,v.2.2.1.Base,v.2.2.1.Num,v.2.2.1.Den,v.2.2.2.1,v.2.2.2.2.1,v.2.2.2.2.2)
def ex0:Expr:=Expr.mk 0 0 [] [] []
def pl0:zE:=zE.mk 0 0 0 0
def zmw(r:List Token):Except EE (BD×List Token):=thn (Ad 0 3 r) fun a r=>thn (vD Ke r) fun _ r=>thn (Ad 0 4096 r) fun b r=>thn (vD oy r) fun _ r=>thn (Ad 0 4096 r) fun c r=>thn (Ad 1 4096 r) fun d r=>thn (vD yi r) fun _ r=>.ok ((1,ex0,zE.mk a b c d,0,0,0),r)
def zAh(r:List Token):Except EE (BD×List Token):=thn (zz4 (r.length+1) 0 r) fun s r=>thn (vD yi r) fun _ r=>.ok ((2,ex0,pl0,((s:Nat):Int),0,0),r)
def zmx(r:List Token):Except EE (BD×List Token):=thn (wV USE r) fun a r=>thn (wV USE r) fun b r=>thn (Ad 0 1048576 r) fun n r=>thn (vD yi r) fun _ r=>.ok ((3,ex0,pl0,a,b,n),r)
def zAi(r:List Token):Except EE (BD×List Token):=thn (DE 0 r) fun e r=>thn (zvg (decide (JX e≤12)) 6 r) fun _ r=>.ok ((0,e,pl0,0,0,0),r)
def zin(r:List Token):Except EE (BD×List Token):=if isB AD r then zmw r.tail else if isB Q8 r then zAh r.tail else if isB AA r then zmx r.tail else zAi r
def zio(L:List (List UInt8))(r:List Token):Except EE (zX×List Token):=thn (vn L r) fun s r=>thn (zpt zDt [] K5 r) fun z r=>thn (zpt qm [] K5 r) fun x r=>thn (zpt Q7 0 (Ad 0 1073741824) r) fun f r=>thn (zpt AF 0 (Ad (f+1) 1073741824) r) fun u r=>thn (zpt AB 0 (Ad 0 1073741824) r) fun g r=>thn (vD uK (zE6 kP r)) fun _ r2=>thn (zin r2) fun b r3=>.ok (zX.mk s z x f u g (isB kP r) b.1 b.2.1 b.2.2.1 b.2.2.2.1 b.2.2.2.2.1 b.2.2.2.2.2,r3)
theorem zAj{lo hi n:Int}{r r2:List Token}(h:Ad lo hi r=.ok (n,r2)):lo≤n∧n≤hi:=by
 unfold Ad at h;split at h
 ·split at h
  ·rename_i hh;cases h;exact hh
  ·cases h
 ·cases h
theorem zss{lo hi n:Int}{t:List UInt8}{r r2:List Token}(hl:lo≤0∧0≤hi)(h:zpt t 0 (Ad lo hi) r=.ok (n,r2)):lo≤n∧n≤hi:=by
 unfold zpt at h;split at h
 ·exact zAj h
 ·cases h;exact hl
section
variable{b:BB}{r:List Token}{L:List (List UInt8)}
theorem zmy{α:Type}{t:List UInt8}{d:α}{f:List Token→Except EE (α×List Token)}{sf:Int→Option (α×Int)}{pf:Int→Option EE}(h:At b r)(hf:isB t r=true→RT b.l (f r.tail) (sf (zA b.l r.tail)) (pf (zA b.l r.tail)) (fun v i=>(v,i))):
  RJ b.l (zpt t d f r) ((zD b t).bind fun x3=>(bif x3.1 then(sf x3.2).bind fun x4=>some (x4.2,x4.1)else some (x3.2,d))) ((zD b t).bind fun x4=>(bif x4.1 then(orC (pf x4.2) (fun x5=>some (Sum.inl x5)) ((sf x4.2).bind fun x6=>some (Sum.inr (x6.2,x6.1))))else some (Sum.inr (x4.2,d)))) (fun v i=>(i,v)):=by
 unfold zpt;rw[h.has,bsQ,bsQ]
 cases hb:isB t r with
 |true =>
  simp only[if_true,ctQ]
  have:=(hf hb).bindJ (g:=fun v r=>.ok (v,r)) (s2:=fun x4=>some (x4.2,x4.1)) (p2:=fun x6=>some (Sum.inr (x6.2,x6.1))) (fj:=fun v i=>(i,v)) fun v r1 h1 hs=>⟨rfl,rfl,hs⟩
  rw[oc]at this;exact this
 |false =>
  simp only[if_neg (show ¬(false=true) by simp),cf];exact⟨rfl,rfl,h.st⟩
theorem zAk{l:List Token}{t:List UInt8}(h:St l r):St l (zE6 t r)∧(if isB t r then zA l r.tail else zA l r)=zA l (zE6 t r):=by
 unfold zE6;split
 ·rename_i hb;exact⟨h.tail (zl hb),rfl⟩
 ·exact⟨h,rfl⟩
theorem zLd(h:At b r)(hm:MN b.n3 L)(hb:b.R.length≤1000):RR b.l (zio L r) (AN b) (Vf b) (fun d i y=>y.1=i∧y.2.1=b.R++[d]∧MN y.2.2 (L++[d.Name])):=by
 unfold AN Vf zio
 refine(zKw h hm).bind fun s r1 y h1 hs1 hy=>?_
 obtain⟨y1,y2,y3⟩:=y;obtain⟨rfl,rfl,hy⟩:=hy;dsimp only at hy ⊢;have a1:At { b with i:=zA b.l r1,n3:=y3 } r1:=yh rfl rfl hs1
 refine(zmy (t:=zDt) (d:=[]) (f:=K5) (sf:=fun i=>qt { b with i:=i,n3:=y3 }) (pf:=fun i=>AT { b with i:=i,n3:=y3 }) a1 fun hb=>zz0 (yh rfl rfl (hs1.tail (zl hb)))).bindR fun z r2 h2 hs2=>?_
 have a2:At { b with i:=zA b.l r2,n3:=y3 } r2:=yh rfl rfl hs2
 refine(zmy (t:=qm) (d:=[]) (f:=K5) (sf:=fun i=>qt { b with i:=i,n3:=y3 }) (pf:=fun i=>AT { b with i:=i,n3:=y3 }) a2 fun hb=>zz0 (yh rfl rfl (hs2.tail (zl hb)))).bindR fun x r3 h3 hs3=>?_
 have a3:At { b with i:=zA b.l r3,n3:=y3 } r3:=yh rfl rfl hs3
 refine(zmy (t:=Q7) (d:=0) (f:=Ad 0 1073741824) (sf:=fun i=>zk { b with i:=i,n3:=y3 } 0 1073741824) (pf:=fun i=>zB { b with i:=i,n3:=y3 } 0 1073741824) a3 fun hb=>(yh rfl rfl (hs3.tail (zl hb)):At { b with i:=zA b.l r3.tail,n3:=y3 } r3.tail).number 0 1073741824).bindR fun f r4 h4 hs4=>?_
 have hf:=zss (by omega) h4;have a4:At { b with i:=zA b.l r4,n3:=y3 } r4:=yh rfl rfl hs4;dsimp only;rw[xv (n:=f+1) (by omega) (by omega)]
 refine(zmy (t:=AF) (d:=0) (f:=Ad (f+1) 1073741824) (sf:=fun i=>zk { b with i:=i,n3:=y3 } (f+1) 1073741824) (pf:=fun i=>zB { b with i:=i,n3:=y3 } (f+1) 1073741824) a4 fun hb=>(yh rfl rfl (hs4.tail (zl hb)):At { b with i:=zA b.l r4.tail,n3:=y3 } r4.tail).number (f+1) 1073741824).bindR fun u r5 h5 hs5=>?_
 have a5:At { b with i:=zA b.l r5,n3:=y3 } r5:=yh rfl rfl hs5
 refine(zmy (t:=AB) (d:=0) (f:=Ad 0 1073741824) (sf:=fun i=>zk { b with i:=i,n3:=y3 } 0 1073741824) (pf:=fun i=>zB { b with i:=i,n3:=y3 } 0 1073741824) a5 fun hb=>(yh rfl rfl (hs5.tail (zl hb)):At { b with i:=zA b.l r5.tail,n3:=y3 } r5.tail).number 0 1073741824).bindR fun g r6 h6 hs6=>?_
 have a6:At { b with i:=zA b.l r6,n3:=y3 } r6:=yh rfl rfl hs6;dsimp only;obtain⟨hs7,e7⟩:=zAk (t:=kP) hs6;rw[a6.has,bsQ,bsQ];dsimp only;rw[e7];have a7:At { b with i:=zA b.l (zE6 kP r6),n3:=y3 } (zE6 kP r6):=yh rfl rfl hs7
 refine(a7.want uK).bindR fun w r8 h8 hs8=>?_
 have a8:At { b with i:=zA b.l r8,n3:=y3 } r8:=yh rfl rfl hs8
 refine RJ.bindR (fj:=fB) (x:=zin r8) ?_ fun v r9 h9 hs9=>?_
 ·unfold zin
  rw[a8.has,bsQ,bsQ]
  cases hb1:isB AD r8 with
  |true =>
   simp only[if_true,ctQ,zmw];have s0:=hs8.tail (zl hb1);have b0:At { b with i:=zA b.l r8.tail,n3:=y3 } r8.tail:=yh rfl rfl s0
   refine(b0.number 0 3).bindJ fun p1 k1 _ s1=>?_
   have b1:At { b with i:=zA b.l k1,n3:=y3 } k1:=yh rfl rfl s1
   refine(b1.want Ke).bindJ fun p2 k2 _ s2=>?_
   have b2:At { b with i:=zA b.l k2,n3:=y3 } k2:=yh rfl rfl s2
   refine(b2.number 0 4096).bindJ fun p3 k3 _ s3=>?_
   have b3:At { b with i:=zA b.l k3,n3:=y3 } k3:=yh rfl rfl s3
   refine(b3.want oy).bindJ fun p4 k4 _ s4=>?_
   have b4:At { b with i:=zA b.l k4,n3:=y3 } k4:=yh rfl rfl s4
   refine(b4.number 0 4096).bindJ fun p5 k5 _ s5=>?_
   have b5:At { b with i:=zA b.l k5,n3:=y3 } k5:=yh rfl rfl s5
   refine(b5.number 1 4096).bindJ fun p6 k6 _ s6=>?_
   have b6:At { b with i:=zA b.l k6,n3:=y3 } k6:=yh rfl rfl s6
   exact(b6.want yi).bindJ fun p7 k7 _ s7=>⟨rfl,rfl,s7⟩
  |false =>
   simp only[if_neg (show ¬(false=true) by simp),cf];rw[a8.has,bsQ,bsQ]
   cases hb2:isB Q8 r8 with
   |true =>
    simp only[if_true,ctQ,zAh];have s0:=hs8.tail (zl hb2);have b0:At { b with i:=zA b.l r8.tail,n3:=y3 } r8.tail:=yh rfl rfl s0
    refine(zQv b0).bindJ fun p1 k1 _ s1=>?_
    have b1:At { b with i:=zA b.l k1,n3:=y3 } k1:=yh rfl rfl s1
    exact(b1.want yi).bindJ fun p7 k7 _ s7=>⟨rfl,rfl,s7⟩
   |false =>
    simp only[if_neg (show ¬(false=true) by simp),cf];rw[a8.has,bsQ,bsQ]
    cases hb3:isB AA r8 with
    |true =>
     simp only[if_true,ctQ,zmx];have s0:=hs8.tail (zl hb3);have b0:At { b with i:=zA b.l r8.tail,n3:=y3 } r8.tail:=yh rfl rfl s0
     refine(VC b0 JW (by decide)).bindJ fun p1 k1 _ s1=>?_
     have b1:At { b with i:=zA b.l k1,n3:=y3 } k1:=yh rfl rfl s1
     refine(VC b1 JW (by decide)).bindJ fun p2 k2 _ s2=>?_
     have b2:At { b with i:=zA b.l k2,n3:=y3 } k2:=yh rfl rfl s2
     refine(b2.number 0 1048576).bindJ fun p3 k3 _ s3=>?_
     have b3:At { b with i:=zA b.l k3,n3:=y3 } k3:=yh rfl rfl s3
     exact(b3.want yi).bindJ fun p7 k7 _ s7=>⟨rfl,rfl,s7⟩
    |false =>
     simp only[if_neg (show ¬(false=true) by simp),cf,zAi]
     refine a8.expr.bindJ fun e k1 h1 s1=>?_
     have b1:At { b with i:=zA b.l k1,n3:=y3 } k1:=yh rfl rfl s1;simp only[fE,xN];rw[zch hs8 h1,bsQ,bsQ,show decide (((JX e:Nat):Int)≤12)=decide (JX e≤12) from yn (by omega)]
     exact(zmo b1 (decide (JX e≤12)) 6).bindJ fun u k2 _ s2=>⟨rfl,rfl,s2⟩
 ·dsimp only
  rw[zx (by simp only[la,lc,List.length_nil];omega),bsQ,bsQ];obtain⟨v1,v2,v3,v4,v5,v6⟩:=v;refine RR.ret hs9 ⟨rfl,?_,hy⟩;simp only[fB,xN]
end
def MV{α:Type}(r:List Token)(x:Except EE (α×List Token)):Prop:=∀a r2,x=.ok (a,r2)→zco r r2
section
variable{α β:Type}{r:List Token}
theorem MV.thn{x:Except EE (α×List Token)}{g:α→List Token→Except EE (β×List Token)}(h:MV r x)(hg:∀a r1,x=.ok (a,r1)→zco r r1→MV r1 (g a r1)):MV r (thn x g):=fun b r2 e=>by
 obtain⟨a,r1,h1,h2⟩:=yd e;have:=h a r1 h1;exact this.trans (hg a r1 h1 this b r2 h2)
theorem MV.ret{a:α}(h:TWF r):MV r (.ok (a,r)):=fun _ _ e=>by cases e;exact zco.refl h
theorem MV.err{e:EE}:MV r (.error e:Except EE (α×List Token)):=fun _ _ e=>by cases e
theorem MV.ite{c:Prop}[Decidable c]{x y:Except EE (α×List Token)}(h1:c→MV r x)(h2:¬c→MV r y):MV r (if c then x else y):=by
 split
 ·rename_i h;exact h1 h
 ·rename_i h;exact h2 h
theorem MV.of{x:Except EE (α×List Token)}(h:∀a r2,x=.ok (a,r2)→Aft r r2):MV r x:=fun a r2 e=>(h a r2 e).e
theorem MV.tail{x:Except EE (α×List Token)}(ht:TWF r)(hk:(hdT r).Kind≠3)(h:MV r.tail x):MV r x:=fun a r2 e=>((zR ht hk).trans (h a r2 e)).e
theorem VF{c:Bool}{e:Int}(h:TWF r):MV r (oa c e r):=fun _ _ k=>by obtain⟨rfl,_⟩:=vt k;exact zco.refl h
theorem wW{lo hi:Int}(h:TWF r):MV r (Ad lo hi r):=MV.of fun _ _ e=>wE h e
theorem zpu(h:TWF r):MV r (uL r):=MV.of fun _ _ e=>wk h e
theorem xJ{t:List UInt8}(h:TWF r):MV r (vD t r):=MV.of fun _ _ e=>xw h e
theorem yZ{L:List (List UInt8)}(h:TWF r):MV r (vn L r):=MV.of fun _ _ e=>W7 h e
theorem VG(h:TWF r):MV r (Ko r):=MV.of fun _ _ e=>J1 h e
theorem VH{m:Int}(h:TWF r):MV r (jO m r):=MV.of fun _ _ e=>vS h e
theorem zLe{lv:Nat}(h:TWF r):MV r (DE lv r):=MV.of fun _ _ e=>xE h e
theorem Ai{w:List (List UInt8)}(h:TWF r):MV r (wV w r):=by
 unfold wV
 refine MV.ite (fun hk=>?_) fun _=>MV.err
 split
 ·exact MV.tail h (by omega) (MV.ret (h.tail (by omega)))
 ·exact MV.err
theorem Jn{c:Bool}{e:Int}(h:TWF r):MV r (zvg c e r):=by
 unfold zvg
 refine(VF h).thn fun _ r1 h1 q1=>(VF q1.wf).thn fun _ r2 h2 q2=>?_
 obtain⟨rfl,hb⟩:=vt h1;obtain⟨rfl,_⟩:=vt h2;exact MV.tail h (zl hb) (MV.ret (h.tail (zl hb)))
theorem jP:∀(n:Nat)(acc:List zG)(r:List Token),TWF r→MV r (kq n acc r)
 |0,_,_,_=>MV.err
 |n+1,acc,r,h=>by
  rw[kq]
  exact(wW h).thn fun _ r1 _ q1=>(wW q1.wf).thn fun _ r2 _ q2=>MV.ite (fun _=>jP n _ r2 q2.wf) fun _=>MV.ret q2.wf
theorem zAl:∀(n:Nat)(acc:List Entry)(r:List Token),TWF r→MV r (zc9 n acc r)
 |0,_,_,_=>MV.err
 |n+1,acc,r,h=>by
  rw[zc9]
  exact MV.ite (fun _=>(VF h).thn fun _ r1 _ q1=>(yZ q1.wf).thn fun _ r2 _ q2=>(VH q2.wf).thn fun _ r3 _ q3=>zAl n _ r3 q3.wf) fun _=>MV.ret h
theorem zHl:∀(n:Nat)(acc:List zf)(r:List Token),TWF r→MV r (zA8 n acc r)
 |0,_,_,_=>MV.err
 |n+1,acc,r,h=>by
  rw[zA8]
  exact MV.ite (fun _=>(VF h).thn fun _ r1 _ q1=>(VG q1.wf).thn fun _ r2 _ q2=>zHl n _ r2 q2.wf) fun _=>MV.ret h
theorem zAm:∀(n:Nat)(acc:List (List UInt8))(r:List Token),TWF r→MV r (YQ n acc r)
 |0,_,_,_=>MV.err
 |n+1,acc,r,h=>by
  rw[YQ]
  exact MV.ite (fun _=>(zpu h).thn fun _ r1 _ q1=>zAm n _ r1 q1.wf) fun _=>MV.ret h
theorem ziq(h:TWF r):MV r (K5 r):=by
 unfold K5
 exact(zpu h).thn fun _ r1 _ q1=>zAm _ _ r1 q1.wf
theorem zHm:∀(n:Nat)(s:Nat)(r:List Token),TWF r→MV r (zz4 n s r)
 |0,_,_,_=>MV.err
 |n+1,s,r,h=>by
  rw[zz4];split
  ·exact MV.ite (fun _=>MV.ret h) fun _=>MV.err
  ·exact MV.ite (fun _=>MV.ret h) fun _=>MV.ite (fun _=>MV.err) fun _=>MV.ite (fun hk=>MV.tail h (by omega) (zHm n _ _ (h.tail (by omega)))) fun _=>MV.err
theorem zHn:∀(n:Nat)(acc:List zf)(r:List Token),TWF r→MV r (zA6 n acc r)
 |0,_,_,_=>MV.err
 |n+1,acc,r,h=>by
  rw[zA6]
  exact(VF h).thn fun _ r1 _ q1=>(VF q1.wf).thn fun _ r2 _ q2=>(VH q2.wf).thn fun _ r3 _ q3=>(VH q3.wf).thn fun _ r4 _ q4=>(wW q4.wf).thn fun _ r5 _ q5=>MV.ite (fun hb=>MV.tail q5.wf (zl hb) (zHn n _ _ (q5.wf.tail (zl hb)))) fun _=>MV.ret q5.wf
theorem zpv{acc:List zf}(h:TWF r):MV r (zA7 acc r):=by
 unfold zA7
 exact(zHn _ _ r h).thn fun _ r1 _ q1=>(xJ q1.wf).thn fun _ r2 _ q2=>MV.ret q2.wf
theorem Kq{t:List UInt8}{d:α}{f:List Token→Except EE (α×List Token)}(h:TWF r)(hf:∀r,TWF r→MV r (f r)):MV r (zpt t d f r):=by
 unfold zpt
 exact MV.ite (fun hb=>MV.tail h (zl hb) (hf _ (h.tail (zl hb)))) fun _=>MV.ret h
theorem zHo{L:List (List UInt8)}(h:TWF r):MV r (zHk L r):=by
 unfold zHk
 exact(yZ h).thn fun _ r1 _ q1=>(xJ q1.wf).thn fun _ r2 _ q2=>(zLe q2.wf).thn fun _ r3 _ q3=>(Jn q3.wf).thn fun _ r4 _ q4=>MV.ret q4.wf
theorem zir{L:List (List UInt8)}(h:TWF r):MV r (VE L r):=by
 unfold VE
 exact(yZ h).thn fun _ r1 _ q1=>(zAl _ _ r1 q1.wf).thn fun _ r2 _ q2=>(xJ q2.wf).thn fun _ r3 _ q3=>(VH q3.wf).thn fun _ r4 _ q4=>(xJ q4.wf).thn fun _ r5 _ q5=>MV.ret q5.wf
theorem zpw{L:List (List UInt8)}(h:TWF r):MV r (zim L r):=by
 unfold zim
 exact(yZ h).thn fun _ r1 _ q1=>(VG q1.wf).thn fun _ r2 _ q2=>(xJ q2.wf).thn fun _ r3 _ q3=>(wW q3.wf).thn fun _ r4 _ q4=>(xJ q4.wf).thn fun _ r5 _ q5=>(VG q5.wf).thn fun _ r6 _ q6=>(zHl _ _ r6 q6.wf).thn fun _ r7 _ q7=>(xJ q7.wf).thn fun _ r8 _ q8=>MV.ret q8.wf
theorem zAn{L:List (List UInt8)}{o:Bool}(h:TWF r):MV r (zda L o r):=by
 unfold zda
 exact(yZ h).thn fun _ r1 _ q1=>(jP _ _ r1 q1.wf).thn fun _ r2 _ q2=>(Jn q2.wf).thn fun _ r3 _ q3=>MV.ret q3.wf
theorem zQ4{L:List (List UInt8)}(h:TWF r):MV r (zLb L r):=by
 unfold zLb
 exact(yZ h).thn fun _ r1 _ q1=>(Ai q1.wf).thn fun _ r2 _ q2=>(wW q2.wf).thn fun _ r3 _ q3=>(jP _ _ r3 q3.wf).thn fun _ r4 _ q4=>(Jn q4.wf).thn fun _ r5 _ q5=>MV.ret q5.wf
theorem zLf(h:TWF r):MV r (zin r):=by
 unfold zin
 refine MV.ite (fun hb=>MV.tail h (zl hb) ?_) fun _=>MV.ite (fun hb=>MV.tail h (zl hb) ?_) fun _=>MV.ite (fun hb=>MV.tail h (zl hb) ?_) fun _=>?_
 ·have k:=h.tail (zl hb)
  unfold zmw
  exact(wW k).thn fun _ r1 _ q1=>(xJ q1.wf).thn fun _ r2 _ q2=>(wW q2.wf).thn fun _ r3 _ q3=>(xJ q3.wf).thn fun _ r4 _ q4=>(wW q4.wf).thn fun _ r5 _ q5=>(wW q5.wf).thn fun _ r6 _ q6=>(xJ q6.wf).thn fun _ r7 _ q7=>MV.ret q7.wf
 ·have k:=h.tail (zl hb)
  unfold zAh
  exact(zHm _ _ _ k).thn fun _ r1 _ q1=>(xJ q1.wf).thn fun _ r2 _ q2=>MV.ret q2.wf
 ·have k:=h.tail (zl hb)
  unfold zmx
  exact(Ai k).thn fun _ r1 _ q1=>(Ai q1.wf).thn fun _ r2 _ q2=>(wW q2.wf).thn fun _ r3 _ q3=>(xJ q3.wf).thn fun _ r4 _ q4=>MV.ret q4.wf
 ·unfold zAi
  exact(zLe h).thn fun _ r1 _ q1=>(Jn q1.wf).thn fun _ r2 _ q2=>MV.ret q2.wf
theorem zis{t:List UInt8}(h:TWF r):zco r (zE6 t r):=by
 unfold zE6;split
 ·rename_i hb;exact(zR h (zl hb)).e
 ·exact zco.refl h
theorem MV.from{x:Except EE (α×List Token)}{r1:List Token}(h:zco r r1)(k:MV r1 x):MV r x:=fun a r2 e=>h.trans (k a r2 e)
theorem zpx{L:List (List UInt8)}(h:TWF r):MV r (zio L r):=by
 unfold zio
 exact(yZ h).thn fun _ r1 _ q1=>(Kq q1.wf fun r h=>ziq h).thn fun _ r2 _ q2=>(Kq q2.wf fun r h=>ziq h).thn fun _ r3 _ q3=>(Kq q3.wf fun r h=>wW h).thn fun _ r4 _ q4=>(Kq q4.wf fun r h=>wW h).thn fun _ r5 _ q5=>(Kq q5.wf fun r h=>wW h).thn fun _ r6 _ q6=>(MV.from (zis q6.wf) (xJ (zis q6.wf).wf)).thn fun _ r7 _ q7=>(zLf q7.wf).thn fun _ r8 _ q8=>MV.ret q8.wf
end
def YR(n most:Nat)(r:List Token):Except EE (Unit×List Token):=thn (oa (decide (n<most)) 6 r) fun _ r=>.ok ((),r.tail)
noncomputable def zpy(p:wB)(h:Bool)(r:List Token):Except EE ((wB×Bool)×List Token) :=
 if isB ql r then thn (YR p.Defs.length 60 r) fun _ r=>thn (zHk (p.Defs.map Def.Name) r) fun d r=>.ok (({ p with Defs:=p.Defs++[d] },h),r)
 else if isB xG r then thn (YR p.Tables.length 60 r) fun _ r=>thn (VE (p.Tables.map Table.Name) r) fun d r=>.ok (({ p with Tables:=p.Tables++[d] },h),r)
 else if isB wH r then thn (YR p.Zones.length 60 r) fun _ r=>thn (zda (p.Zones.map yl.Name) false r) fun d r=>.ok (({ p with Zones:=p.Zones++[d] },h),r)
 else if isB xf r then thn (YR p.Zones.length 60 r) fun _ r=>thn (zda (p.Zones.map yl.Name) true r) fun d r=>.ok (({ p with Zones:=p.Zones++[d] },h),r)
 else if isB Hs r then thn (YR p.Rules.length 200 r) fun _ r=>thn (zio (p.Rules.map zX.Name) r) fun d r=>.ok (({ p with Rules:=p.Rules++[d] },h),r)
 else if isB zag r then thn (YR p.Caps.length 30 r) fun _ r=>thn (zLb (p.Caps.map Cap.Name) r) fun d r=>.ok (({ p with Caps:=p.Caps++[d] },h),r)
 else if isB HQ r then thn (YR p.Views.length 60 r) fun _ r=>thn (zim (p.Views.map View.Name) r) fun d r=>.ok (({ p with Views:=p.Views++[d] },h),r)
 else if isB Wf r then thn (oa (decide (p.Sun.length=0)) 5 r) fun _ r=>thn (zA7 p.Sun r.tail) fun s r=>.ok (({ p with Sun:=s },h),r)
 else if isB jW r then thn (oa (!h) 5 r) fun _ r=>thn (Ad 0 24 r.tail) fun n r=>thn (vD yi r) fun _ r=>.ok (({ p with Hours:=n },true),r)
 else .error (YO r 14)
noncomputable def YS:Nat→wB→Bool→List Token→Except EE ((wB×Bool)×List Token)
 |0,_,_,_=>oof
 |n+1,p,h,r=>if(hdT r).Kind=3 then .ok ((p,h),r)else thn (zpy p h r) fun x r=>YS n x.1 x.2 r
def RP{α γ:Type}(l:List Token)(x:Except EE (α×List Token))(s:Option γ)(p:Option (EE⊕γ))(S:α→Int→γ→Prop):Prop:=match x with
 |.ok (v,r)=>(∃y,s=some y∧p=some (.inr y)∧S v (zA l r) y)∧St l r
 |.error e=>s=none∧p=some (.inl e)
theorem RR.bindP{α β α' γ:Type}{l:List Token}{x:Except EE (α×List Token)}{s:Option β}{p:Option EE}{S:α→Int→β→Prop}{g:α→List Token→Except EE (α'×List Token)}{s2:β→Option γ}{p2:β→Option (EE⊕γ)}{S2:α'→Int→γ→Prop}(h:RR l x s p S)(h2:∀v r y,x=.ok (v,r)→St l r→S v (zA l r) y→RP l (g v r) (s2 y) (p2 y) S2):RP l (thn x g) (s.bind s2) (orC p (fun q=>some (.inl q)) (s.bind p2)) S2:=by
 match x,h,h2 with
 |.error e,⟨h,h'⟩,_=>exact⟨by rw[h];rfl,by rw[h'];rfl⟩
 |.ok (v,r),⟨⟨y,h,hy⟩,h',hs⟩,h2 =>
  have:=h2 v r y rfl hs hy;rw[h,h'];exact this
theorem RT.bindP{α β α' γ:Type}{l:List Token}{x:Except EE (α×List Token)}{s:Option β}{p:Option EE}{f:α→Int→β}{g:α→List Token→Except EE (α'×List Token)}{s2:β→Option γ}{p2:β→Option (EE⊕γ)}{S2:α'→Int→γ→Prop}(h:RT l x s p f)(h2:∀v r,x=.ok (v,r)→St l r→RP l (g v r) (s2 (f v (zA l r))) (p2 (f v (zA l r))) S2):RP l (thn x g) (s.bind s2) (orC p (fun q=>some (.inl q)) (s.bind p2)) S2 :=
 h.rr.bindP fun v r y h1 hs hy=>by subst hy;exact h2 v r h1 hs
abbrev NM:=List (List (List UInt8×Bool))
def qT(l:List Token)(p:wB)(h:Bool)(r:List Token)(n0 n1 n2 n3 n4 n5:NM):Int×Int×Bool×List Def×List Table×List yl×List zX×List Cap×List View×List zf×NM×NM×NM×NM×NM×NM :=
 (zA l r,p.Hours,h,p.Defs,p.Tables,p.Zones,p.Rules,p.Caps,p.Views,p.Sun,n0,n1,n2,n3,n4,n5)
def QS(v:wB×Bool)(i:Int)(y:Int×Int×Bool×List Def×List Table×List yl×List zX×List Cap×List View×List zf×NM×NM×NM×NM×NM×NM):Prop:=y.1=i∧y.2.1=v.1.Hours∧y.2.2.1=v.2∧y.2.2.2.1=v.1.Defs∧y.2.2.2.2.1=v.1.Tables∧y.2.2.2.2.2.1=v.1.Zones∧y.2.2.2.2.2.2.1=v.1.Rules∧y.2.2.2.2.2.2.2.1=v.1.Caps∧y.2.2.2.2.2.2.2.2.1=v.1.Views∧y.2.2.2.2.2.2.2.2.2.1=v.1.Sun
theorem yR{n most:Nat}{r r2:List Token}{u:Unit}(h:YR n most r=.ok (u,r2)):r2=r.tail∧n<most:=by
 obtain⟨a,r1,h1,h2⟩:=yd h;obtain⟨rfl,hc⟩:=vt h1;cases h2;exact⟨rfl,of_decide_eq_true hc⟩
section
variable{b:BB}
theorem zpz{r:List Token}{t:List UInt8}(hk:¬(hdT r).Kind=3):isB t r=decide ((hdT r).Text=t):=by
 unfold isB;rw[df hk];rfl
theorem zQ5:∀(n:Nat)(r:List Token)(p:wB)(h:Bool)(n0 n1 n2 n3 n4 n5:NM)(K:Nat),St b.l r→r.length<n→n≤K →
  MN n0 (p.Defs.map Def.Name)→MN n1 (p.Tables.map Table.Name)→MN n2 (p.Zones.map yl.Name)→MN n3 (p.Rules.map zX.Name)→MN n4 (p.Caps.map Cap.Name)→MN n5 (p.Views.map View.Name) →
  RP b.l (YS n p h r) (ye b K (qT b.l p h r n0 n1 n2 n3 n4 n5)) (yf b K (qT b.l p h r n0 n1 n2 n3 n4 n5)) QS:=by
 intro n
 induction n with
 |zero=>intro r p h n0 n1 n2 n3 n4 n5 K hs hn;omega
 |succ n ih =>
  intro r p h n0 n1 n2 n3 n4 n5 K hs hn hK m0 m1 m2 m3 m4 m5
  obtain⟨K,rfl⟩:∃k,K=k+1:=⟨K-1,by omega⟩
  rw[YS,ye,yf,show za=zb from rfl];have a0:At { (zb b (qT b.l p h r n0 n1 n2 n3 n4 n5))with l:=b.l } r:=yh rfl rfl hs;simp only[a0.next,bsQ];by_cases hk:(hdT r).Kind=3
  ·rw[if_pos hk,dt hk]
   exact⟨⟨_,rfl,rfl,rfl,rfl,rfl,rfl,rfl,rfl,rfl,rfl,rfl,rfl⟩,hs⟩
  ·rw[if_neg hk,df hk,Bool.not_false,ctQ,ctQ]
   have hlt:=oF hs.wf;unfold zpy;simp only[← zpz hk]
   have go:∀{r2:List Token},zco r.tail r2→r2.length<n∧n≤K:=fun h=>⟨by have:=h.le;omega,by omega⟩
   cases e1:isB ql r with
   |true =>
    simp only[if_true,ctQ,zy]
    refine(K6 a0 p.Defs.length 60 hk).bindP fun u r1 h1 hs1=>?_
    obtain⟨rfl,hl⟩:=yR h1
    refine(zAg (yh rfl rfl hs1:At { zb b (qT b.l p h r n0 n1 n2 n3 n4 n5)with l:=b.l,i:=zA b.l r.tail } r.tail) m0 (show p.Defs.length≤1000 by omega)).bindP fun d r2 y h2 hs2 hy=>?_
    obtain⟨y1,y2,y3⟩:=y;obtain⟨rfl,rfl,hy⟩:=hy;have g:=go (zHo hs1.wf _ _ h2);exact ih r2 { p with Defs:=p.Defs++[d] } h y3 n1 n2 n3 n4 n5 K hs2 g.1 g.2 (by rw[List.map_append];exact hy) m1 m2 m3 m4 m5
   |false =>
   simp only[if_neg (show ¬(false=true) by simp),cf]
   cases e2:isB xG r with
   |true =>
    simp only[if_true,ctQ,zy]
    refine(K6 a0 p.Tables.length 60 hk).bindP fun u r1 h1 hs1=>?_
    obtain⟨rfl,hl⟩:=yR h1
    refine(zE5 (yh rfl rfl hs1:At { zb b (qT b.l p h r n0 n1 n2 n3 n4 n5)with l:=b.l,i:=zA b.l r.tail } r.tail) m1 (show p.Tables.length≤1000 by omega)).bindP fun d r2 y h2 hs2 hy=>?_
    obtain⟨y1,y2,y3⟩:=y;obtain⟨rfl,rfl,hy⟩:=hy;have g:=go (zir hs1.wf _ _ h2);exact ih r2 { p with Tables:=p.Tables++[d] } h n0 y3 n2 n3 n4 n5 K hs2 g.1 g.2 m0 (by rw[List.map_append];exact hy) m2 m3 m4 m5
   |false =>
   simp only[if_neg (show ¬(false=true) by simp),cf]
   cases e3:isB wH r with
   |true =>
    simp only[if_true,ctQ,zy]
    have ho:isB xf r=false:=by
     rw[zpz hk]at e3 ⊢;rw[of_decide_eq_true e3];rfl
    rw[a0.is,ho,bsQ,bsQ]
    refine(K6 a0 p.Zones.length 60 hk).bindP fun u r1 h1 hs1=>?_
    obtain⟨rfl,hl⟩:=yR h1;unfold zda;simp only[zy]
    refine(zz3 (yh rfl rfl hs1:At { zb b (qT b.l p h r n0 n1 n2 n3 n4 n5)with l:=b.l,i:=zA b.l r.tail } r.tail) m2).bindP fun s r2 y h2 hs2 hy=>?_
    obtain⟨y1,y2,y3⟩:=y;obtain⟨rfl,rfl,hy⟩:=hy;have q2:=yZ hs1.wf _ _ h2
    refine(zcf (yh rfl rfl hs2:At { zb b (qT b.l p h r n0 n1 n2 n3 n4 n5)with l:=b.l,i:=zA b.l r2,n2:=y3 } r2)).bindP fun c r3 h3 hs3=>?_
    have q3:=q2.trans (jP _ _ _ hs2.wf _ _ h3);dsimp only;rw[zps,bsQ,bsQ]
    refine(zmo (yh rfl rfl hs3:At { zb b (qT b.l p h r n0 n1 n2 n3 n4 n5)with l:=b.l,i:=zA b.l r3,n2:=y3 } r3) _ _).bindP fun u r4 h4 hs4=>?_
    have g:=go (q3.trans (Jn hs3.wf _ _ h4));rw[zx (by show(p.Zones++_).length*48≤_;simp only[la,lc,List.length_nil];omega),bsQ,bsQ];exact ih r4 { p with Zones:=p.Zones++[yl.mk y1 false c] } h n0 n1 y3 n3 n4 n5 K hs4 g.1 g.2 m0 m1 (by rw[List.map_append];exact hy) m3 m4 m5
   |false =>
   simp only[if_neg (show ¬(false=true) by simp),cf]
   cases e4:isB xf r with
   |true =>
    simp only[if_true,ctQ,zy];rw[a0.is,e4,bsQ,bsQ]
    refine(K6 a0 p.Zones.length 60 hk).bindP fun u r1 h1 hs1=>?_
    obtain⟨rfl,hl⟩:=yR h1;unfold zda;simp only[zy]
    refine(zz3 (yh rfl rfl hs1:At { zb b (qT b.l p h r n0 n1 n2 n3 n4 n5)with l:=b.l,i:=zA b.l r.tail } r.tail) m2).bindP fun s r2 y h2 hs2 hy=>?_
    obtain⟨y1,y2,y3⟩:=y;obtain⟨rfl,rfl,hy⟩:=hy;have q2:=yZ hs1.wf _ _ h2
    refine(zcf (yh rfl rfl hs2:At { zb b (qT b.l p h r n0 n1 n2 n3 n4 n5)with l:=b.l,i:=zA b.l r2,n2:=y3 } r2)).bindP fun c r3 h3 hs3=>?_
    have q3:=q2.trans (jP _ _ _ hs2.wf _ _ h3);dsimp only;rw[zps,bsQ,bsQ]
    refine(zmo (yh rfl rfl hs3:At { zb b (qT b.l p h r n0 n1 n2 n3 n4 n5)with l:=b.l,i:=zA b.l r3,n2:=y3 } r3) _ _).bindP fun u r4 h4 hs4=>?_
    have g:=go (q3.trans (Jn hs3.wf _ _ h4));rw[zx (by show(p.Zones++_).length*48≤_;simp only[la,lc,List.length_nil];omega),bsQ,bsQ];exact ih r4 { p with Zones:=p.Zones++[yl.mk y1 true c] } h n0 n1 y3 n3 n4 n5 K hs4 g.1 g.2 m0 m1 (by rw[List.map_append];exact hy) m3 m4 m5
   |false =>
   simp only[if_neg (show ¬(false=true) by simp),cf]
   cases e5:isB Hs r with
   |true =>
    simp only[if_true,ctQ,zy]
    refine(K6 a0 p.Rules.length 200 hk).bindP fun u r1 h1 hs1=>?_
    obtain⟨rfl,hl⟩:=yR h1
    refine(zLd (yh rfl rfl hs1:At { zb b (qT b.l p h r n0 n1 n2 n3 n4 n5)with l:=b.l,i:=zA b.l r.tail } r.tail) m3 (show p.Rules.length≤1000 by omega)).bindP fun d r2 y h2 hs2 hy=>?_
    obtain⟨y1,y2,y3⟩:=y;obtain⟨rfl,rfl,hy⟩:=hy;have g:=go (zpx hs1.wf _ _ h2);exact ih r2 { p with Rules:=p.Rules++[d] } h n0 n1 n2 y3 n4 n5 K hs2 g.1 g.2 m0 m1 m2 (by rw[List.map_append];exact hy) m4 m5
   |false =>
   simp only[if_neg (show ¬(false=true) by simp),cf]
   cases e6:isB zag r with
   |true =>
    simp only[if_true,ctQ,zy]
    refine(K6 a0 p.Caps.length 30 hk).bindP fun u r1 h1 hs1=>?_
    obtain⟨rfl,hl⟩:=yR h1;unfold zLb;simp only[zy]
    refine(zKx (yh rfl rfl hs1:At { zb b (qT b.l p h r n0 n1 n2 n3 n4 n5)with l:=b.l,i:=zA b.l r.tail } r.tail) m4).bindP fun s r2 y h2 hs2 hy=>?_
    obtain⟨y1,y2,y3⟩:=y;obtain⟨rfl,rfl,hy⟩:=hy;have q2:=yZ hs1.wf _ _ h2
    refine(VC (yh rfl rfl hs2:At { zb b (qT b.l p h r n0 n1 n2 n3 n4 n5)with l:=b.l,i:=zA b.l r2,n4:=y3 } r2) zpq (by decide)).bindP fun k r3 h3 hs3=>?_
    have q3:=q2.trans (Ai hs2.wf _ _ h3)
    refine((yh rfl rfl hs3:At { zb b (qT b.l p h r n0 n1 n2 n3 n4 n5)with l:=b.l,i:=zA b.l r3,n4:=y3 } r3).number 0 1099511627776).bindP fun m r4 h4 hs4=>?_
    have q4:=q3.trans (wW hs3.wf _ _ h4)
    refine(zcf (yh rfl rfl hs4:At { zb b (qT b.l p h r n0 n1 n2 n3 n4 n5)with l:=b.l,i:=zA b.l r4,n4:=y3 } r4)).bindP fun c r5 h5 hs5=>?_
    have q5:=q4.trans (jP _ _ _ hs4.wf _ _ h5);dsimp only;rw[zps,bsQ,bsQ]
    refine(zmo (yh rfl rfl hs5:At { zb b (qT b.l p h r n0 n1 n2 n3 n4 n5)with l:=b.l,i:=zA b.l r5,n4:=y3 } r5) _ _).bindP fun u r6 h6 hs6=>?_
    have g:=go (q5.trans (Jn hs5.wf _ _ h6));rw[zx (by show(p.Caps++_).length*56≤_;simp only[la,lc,List.length_nil];omega),bsQ,bsQ];exact ih r6 { p with Caps:=p.Caps++[Cap.mk y1 k m c] } h n0 n1 n2 n3 y3 n5 K hs6 g.1 g.2 m0 m1 m2 m3 (by rw[List.map_append];exact hy) m5
   |false =>
   simp only[if_neg (show ¬(false=true) by simp),cf]
   cases e7:isB HQ r with
   |true =>
    simp only[if_true,ctQ,zy]
    refine(K6 a0 p.Views.length 60 hk).bindP fun u r1 h1 hs1=>?_
    obtain⟨rfl,hl⟩:=yR h1
    refine(zLc (yh rfl rfl hs1:At { zb b (qT b.l p h r n0 n1 n2 n3 n4 n5)with l:=b.l,i:=zA b.l r.tail } r.tail) m5 (show p.Views.length≤1000 by omega)).bindP fun d r2 y h2 hs2 hy=>?_
    obtain⟨y1,y2,y3⟩:=y;obtain⟨rfl,rfl,hy⟩:=hy;have g:=go (zpw hs1.wf _ _ h2);exact ih r2 { p with Views:=p.Views++[d] } h n0 n1 n2 n3 n4 y3 K hs2 g.1 g.2 m0 m1 m2 m3 m4 (by rw[List.map_append];exact hy)
   |false =>
   simp only[if_neg (show ¬(false=true) by simp),cf]
   cases e8:isB Wf r with
   |true =>
    simp only[if_true,ctQ,zy];have hst:=hs.tail hk
    refine(a0.check (decide (p.Sun.length=0)) 5).bindP fun u r1 h1 hs1=>?_
    obtain⟨rfl,hl⟩:=vt h1;rw[a0.step]
    refine(zQx (b:={ zb b (qT b.l p h r1 n0 n1 n2 n3 n4 n5)with l:=b.l,i:=zA b.l r1.tail }) (yh rfl rfl hst)).bindP fun s r2 h2 hs2=>?_
    have g:=go (zpv hst.wf _ _ h2);exact ih r2 { p with Sun:=s } h n0 n1 n2 n3 n4 n5 K hs2 g.1 g.2 m0 m1 m2 m3 m4 m5
   |false =>
   simp only[if_neg (show ¬(false=true) by simp),cf]
   cases e9:isB jW r with
   |true =>
    simp only[if_true,ctQ,zy];have hst:=hs.tail hk
    refine(a0.check (!h) 5).bindP fun u r1 h1 hs1=>?_
    obtain⟨rfl,hl⟩:=vt h1;rw[a0.step]
    refine((yh rfl rfl hst:At { zb b (qT b.l p h r1 n0 n1 n2 n3 n4 n5)with l:=b.l,i:=zA b.l r1.tail } r1.tail).number 0 24).bindP fun m r2 h2 hs2=>?_
    have q2:=wW hst.wf _ _ h2
    refine((yh rfl rfl hs2:At { zb b (qT b.l p h r1 n0 n1 n2 n3 n4 n5)with l:=b.l,i:=zA b.l r2,H:=m,h:=true } r2).want yi).bindP fun u r3 h3 hs3=>?_
    have g:=go (q2.trans (xJ hs2.wf _ _ h3));exact ih r3 { p with Hours:=m } true n0 n1 n2 n3 n4 n5 K hs3 g.1 g.2 m0 m1 m2 m3 m4 m5
   |false =>
   simp only[if_neg (show ¬(false=true) by simp),cf];refine⟨rfl,?_⟩;unfold oV;rw[a0.next];rfl
end
def DD{γ:Type}(e:EE)(s:Option γ)(pe:γ→EE):Prop:=∃y,s=some y∧pe y=e
theorem DD.some{γ:Type}{e:EE}{y:γ}{pe:γ→EE}(h:pe y=e):DD e (some y) pe:=⟨y,rfl,h⟩
def RF{α γ:Type}(l:List Token)(x:Except EE (α×List Token))(s:Option γ)(f:α→Int→γ)(pe:γ→EE):Prop:=match x with
 |.ok (v,r)=>s=some (f v (zA l r))∧St l r
 |.error e=>e.2≠0∧DD e s pe
section
variable{α γ α' γ':Type}{l:List Token}{x:Except EE (α×List Token)}{s:Option γ}{f:α→Int→γ}{pe:γ→EE}{g:α→List Token→Except EE (α'×List Token)}{s2:γ→Option γ'}{f2:α'→Int→γ'}{pe2:γ'→EE}
theorem RF.bind(h:RF l x s f pe)(hd:∀y e,e.2≠0→pe y=e→DD e (s2 y) pe2)(hk:∀v r,x=.ok (v,r)→St l r→RF l (g v r) (s2 (f v (zA l r))) f2 pe2):RF l (thn x g) (s.bind s2) f2 pe2:=by
 match x,h,hk with
 |.error e,⟨he,y,h1,h2⟩,_ =>
  refine⟨he,?_⟩;rw[h1];exact hd y e he h2
 |.ok (v,r),⟨h1,hs⟩,hk =>
  have:=hk v r rfl hs;rw[h1];exact this
theorem RF.err{r:List Token}{e:Int}{y:γ}(he:e≠0)(h:pe y=YO r e):RF l (.error (YO r e):Except EE (α×List Token)) (some y) f pe:=⟨he,y,rfl,h⟩
end
section
variable{l:List Token}{a E P:Int}{r:List Token}
-- with an error, nothing more is read
theorem kr(h:E≠0){t:List UInt8}:yr l a E P t=some false:=by unfold yr;rw[df h];rfl
theorem VI(h:E≠0){e:Int}:yD l a E P e=some (E,P):=by unfold yD;rw[df h];rfl
theorem YI(h:E≠0):wN l a E P=some false:=by unfold wN;rw[df h];rfl
theorem kG(h:E≠0):yP l a E P=some false:=by unfold yP;rw[df h];rfl
theorem qb(h:E≠0){L:List (List UInt8)}{m:Int}:yL l a E P L m=some ([],a,E,P):=by unfold yL;rw[YI h,VI h];rfl
theorem zC(h:E≠0){lo hi:Int}:zN l a E P lo hi=some (0,a,E,P):=by unfold zN;rw[kG h,VI h];rfl
theorem zu(h:E≠0){t:List UInt8}:yp l a E P t=some (a,E,P):=by unfold yp;rw[kr h,VI h];rfl
theorem xy(h:E≠0){m:Int}:vg l a E P m=some (0,a,E,P):=by unfold vg;simp only[kr h,zC h,bsQ,cf]
theorem VJ(h:E≠0){L:List (List UInt8)}:vh l a E P L=some (0,a,E,P):=by unfold vh;rw[VI h,df h];rfl
theorem jf(h:E≠0):ux l a E P=some (a,E,P,0,0,0):=by unfold ux;simp only[zC h,bsQ]
theorem xT(h:E≠0){c:List zG}:uw l a E P c=some (a,E,P):=by unfold uw;rw[kr h];simp only[bsQ,cf,zu h]
theorem qQ(h:E≠0){e:Expr}:uv l a E P e=some (a,E,P):=by unfold uv;rw[kr h];simp only[bsQ,cf,zu h]
theorem zit(h:E≠0){lv:Int}:wO l a E P lv=some (-1):=by unfold wO;rw[df h];rfl
theorem Jo(h:E≠0){lv:Int}(K:Nat):yM (K+1) l a E P lv=some (a,E,P,0,0,[],[],[]):=by rw[yM,df h];rfl
theorem ku:∃k,KK=k+1+1:=⟨KK-2,by have:=Ag;omega⟩
theorem J2(h:E≠0){lv:Int}:yM KK l a E P lv=some (a,E,P,0,0,[],[],[]):=by
 obtain⟨k,hk⟩:=ku;rw[hk];exact Jo h (k+1)
theorem zfk(h:E≠0){F:List Token→Int→Int→Int→Int→Option (Int×Int×Int×Int×Int×List UInt8×List UInt8×List Expr)}{lv c2:Int}{c3:List UInt8}{c4:List Expr}{x:Int×Int×List UInt8×List UInt8×List Expr}(K:Nat):vO F l lv c2 c3 c4 (K+1) (a,E,P,x)=some (.inr (a,E,P,x)):=by
 rw[vO,zit h];rfl
theorem wX(h:E≠0):kd l a E P=some ([zG.mk 0 0],a,E,P):=by
 unfold kd;obtain⟨k,hk⟩:=ku;rw[hk,yQ];simp only[zC h,bsQ,List.length_nil,show decide (((0:Nat):Int)=0)=true from rfl,ctQ];rw[zx (by decide),bsQ,yQ];simp only[kG h];rfl
theorem uH(h:E≠0){c1 c3:List UInt8}{c2:Int}{c4 y:List Entry}{x:List (List UInt8)}(K:Nat):wP l c1 c2 c3 c4 (K+1) (a,E,P,x,y)=some (a,E,P,y):=by
 rw[wP,YI h];rfl
theorem YJ(h:E≠0){y:List zG}(hy:y≠[])(K:Nat):yQ l (K+1) (a,E,P,y)=some (a,E,P,y):=by
 rw[yQ,kG h];have:0<y.length:=List.length_pos_iff.2 hy;rw[df (show ¬(((y.length:Nat):Int)=0) by omega)];rfl
theorem J3(h:E≠0){c1 c3:List UInt8}{c2 c4 c5 c6 c7:Int}{c8 y:List zf}(hy:y≠[])(K:Nat):xH l c1 c2 c3 c4 c5 c6 c7 c8 (K+1) (a,E,P,y)=some (a,E,P,y):=by
 rw[xH,kG h];have:0<y.length:=List.length_pos_iff.2 hy;rw[df (show ¬(((y.length:Nat):Int)=0) by omega)];rfl
theorem kv(h:E≠0){c1 c3:List UInt8}{c2 c4 c5 c6 c7:Int}{c8:List zf}(K:Nat):xH l c1 c2 c3 c4 c5 c6 c7 c8 (K+1+1) (a,E,P,[])=some (a,E,P,[zf.mk 0 0 0]):=by
 rw[xH];simp only[bsQ,List.length_nil,show decide (((0:Nat):Int)=0)=true from rfl,show decide (((0:Nat):Int)=20)=false from rfl,ctQ,cf,jf h];rw[zx (by decide),bsQ];exact J3 h (by simp) K
theorem Aj(h:E≠0){y:List zf}(hy:y≠[])(K:Nat):vi l (K+1) (a,E,P,y)=some (a,E,P,y):=by
 rw[vi,kr h];have:0<y.length:=List.length_pos_iff.2 hy;rw[df (show ¬(((y.length:Nat):Int)=0) by omega)];rfl
theorem zE7(h:E≠0):WJ l a E P=some ([zf.mk 0 0 0],a,E,P):=by
 unfold WJ;obtain⟨k,hk⟩:=ku;rw[hk,vi];simp only[bsQ,List.length_nil,show decide (((0:Nat):Int)=0)=true from rfl,show decide (((0:Nat):Int)>0)=false from rfl,show decide (((0:Nat):Int)=24)=false from rfl,ctQ,cf,xy h,zC h];rw[zx (by decide),bsQ,Aj h (by simp)];simp only[bsQ,zu h];rfl
theorem qc(h:E≠0){q:zX}:JN l a E P q=some (a,E,P,q.Name,q.Zones,q.Except,q.From,q.Until,q.Grace,q.Vary,0,0,0,[],[],[],q.zE.Side,q.zE.Base,q.zE.Num,q.zE.Den,q.Uses,q.Other,q.N):=by
 unfold JN;simp only[kr h,bsQ,cf,J2 h,qQ h]
-- without one, asZ it is said
theorem zmz(h:St l r)(t:List UInt8):yr l (zA l r) 0 0 t=some (isB t r):=by
 unfold yr isB;rw[h.idx,show decide ((0:Int)=0)=true from rfl];simp only[ctQ,bsQ];cases decide ((hdT r).Kind=3)<;>rfl
theorem jg(h:St l r)(e:Int):yD l (zA l r) 0 0 e=some (e,(hdT r).Pos):=by
 unfold yD;rw[h.idx];rfl
theorem Jp(h:St l r):wN l (zA l r) 0 0=some (zfg r):=by
 unfold wN zfg;rw[h.idx,show decide ((0:Int)=0)=true from rfl];simp only[ctQ,bsQ,zmj h.text];cases decide ((hdT r).Kind=0)<;>rfl
theorem ky(h:St l r):yP l (zA l r) 0 0=some (Jk r):=by
 unfold yP Jk;rw[h.idx];rfl
def pe3(y:Int×Int×Int):EE:=(y.2.2,y.2.1)
def pe4{γ:Type}(y:γ×Int×Int×Int):EE:=(y.2.2.2,y.2.2.1)
def peH{γ:Type}(y:Int×Int×Int×γ):EE:=(y.2.2.1,y.2.1)
abbrev fv4{α:Type}(v:α)(i:Int):α×Int×Int×Int:=(v,i,0,0)
abbrev fu3(_:Unit)(i:Int):Int×Int×Int:=(i,0,0)
theorem xK(h:St l r)(t:List UInt8):RF l (vD t r) (yp l (zA l r) 0 0 t) fu3 pe3:=by
 unfold yp vD;rw[zmz h,bsQ,jg h,h.step]
 cases hb:isB t r with
 |true=>exact⟨rfl,h.tail (zl hb)⟩
 |false=>exact RF.err (by decide) rfl
theorem W8(h:St l r):RF l (uL r) (yL l (zA l r) 0 0 [] 1) fv4 pe4:=by
 unfold yL uL;rw[Jp h,bsQ,jg h,h.idx,h.step]
 cases hb:zfg r with
 |true=>exact⟨by simp only[Bool.not_true,cf,bsQ,zb6 (show([]:List (List UInt8)).length<4611686018427387904 by decide)];rfl,h.tail (Jl hb)⟩
 |false=>exact RF.err (by decide) rfl
theorem oe(h:St l r){L:List (List UInt8)}{m:Nat}(hm:L.length<m)(hL:L.length<1000000):RF l (vn L r) (yL l (zA l r) 0 0 L (m:Int)) fv4 pe4:=by
 unfold yL vn;simp only[Jp h,bsQ,jg h,h.idx,h.step]
 cases hb:zfg r with
 |true =>
  have hf:=zb7 (s:=(hdT r).Text) (l:=L);rw[zb6 (by omega),df (show ¬(((L.length:Nat):Int)≥(m:Int)) by omega)];simp only[bsQ,Bool.not_true,cf,if_true]
  cases hq:vC (hdT r).Text L with
  |some j =>
   rw[hq]at hf;have:(hdT r).Text∈L:=of_decide_eq_true hf.symm;rw[if_pos this,show decide (wy (some j)≥0)=true from dt (show((j:Int))≥0 by omega)];exact RF.err (by decide) rfl
  |none =>
   rw[hq]at hf;have:¬(hdT r).Text∈L:=of_decide_eq_false hf.symm;rw[if_neg this];exact⟨rfl,h.tail (Jl hb)⟩
 |false=>exact RF.err (by decide) rfl
theorem zLg(h:St l r){L:List (List UInt8)}{m:Nat}(hm:m≤L.length)(hb:zfg r=true):yL l (zA l r) 0 0 L (m:Int)=some ([],zA l r,6,(hdT r).Pos):=by
 unfold yL;simp only[Jp h,bsQ,jg h,h.idx,hb];rw[dt (show(((L.length:Nat):Int)≥(m:Int)) by omega)];rfl
theorem yz(h:St l r)(lo hi:Int):RF l (Ad lo hi r) (zN l (zA l r) 0 0 lo hi) fv4 pe4:=by
 unfold zN Ad;rw[ky h,bsQ,jg h,h.idx,h.step]
 cases hb:Jk r with
 |false=>exact RF.err (by decide) rfl
 |true =>
  rw[if_pos rfl];simp only[bsQ,Bool.not_true,cf,jg h];by_cases h1:lo≤(hdT r).N
  ·rw[df (show ¬(hdT r).N<lo by omega)]
   by_cases h2:(hdT r).N≤hi
   ·rw[if_pos ⟨h1,h2⟩,df (show ¬(hdT r).N>hi by omega)]
    exact⟨rfl,h.tail (zb8 hb)⟩
   ·rw[if_neg (fun hh=>h2 hh.2),dt (show(hdT r).N>hi by omega)]
    exact RF.err (by decide) rfl
  ·rw[if_neg (fun hh=>h1 hh.1),dt (show(hdT r).N<lo by omega)]
   exact RF.err (by decide) rfl
theorem ziu(h:St l r){w:List (List UInt8)}(hw:w.length<1000):RF l (wV w r) (vh l (zA l r) 0 0 w) fv4 pe4:=by
 unfold vh wV;rw[h.back,h.step,show decide ((0:Int)=0)=true from rfl,Bool.not_true,cf];simp only[h.idx,bsQ,zb6 (show w.length<4611686018427387904 by omega),jg h];by_cases hk:(hdT r).Kind=0
 ·rw[if_pos hk,dt hk]
  cases hf:vC (hdT r).Text w with
  |none=>exact RF.err (by decide) rfl
  |some i =>
   rw[show decide (wy (some i)<0)=false from df (show ¬((i:Int))<0 by omega)];exact⟨rfl,h.tail (by omega)⟩
 ·rw[if_neg hk,df hk]
  exact RF.err (by decide) rfl
theorem Jq(h:St l r)(m:Int)(hm:m≤1099511627776):RF l (jO m r) (vg l (zA l r) 0 0 m) fv4 pe4:=by
 unfold vg jO;rw[zmz h,bsQ,h.step]
 cases hb:isB yT r with
 |true =>
  simp only[if_true,ctQ]
  refine(yz (h.tail (zl hb)) 0 m).bind (fun y e he hy=>DD.some hy) fun v r1 h1 hs=>?_
  have:=zAj h1;refine⟨?_,hs⟩
  show some (w64 (0-v),_,_,_)=_
  rw[xv (by omega) (by omega)]
 |false =>
  simp only[if_neg (show ¬(false=true) by simp),cf]
  have:=(yz h 0 m).bind (g:=fun v r=>.ok (v,r)) (s2:=fun x3=>some (x3.1,x3.2.1,x3.2.2.1,x3.2.2.2)) (f2:=fv4) (pe2:=pe4) (fun y e he hy=>DD.some hy) fun v r1 h1 hs=>⟨rfl,hs⟩
  rw[oc]at this;exact this
abbrev fP3(v:zf)(i:Int):Int×Int×Int×Int×Int×Int:=(i,0,0,v.X,v.Y,v.Z_)
theorem zci(h:St l r):RF l (Ko r) (ux l (zA l r) 0 0) fP3 peH:=by
 unfold ux Ko
 refine(yz h 0 1048576).bind (fun y e he hy=>?_) fun x r1 h1 hs1=>?_
 ·obtain⟨y1,y2,y3,y4⟩:=y;cases hy;have he:y3≠0:=he
  simp only[zC he,bsQ];exact DD.some rfl
 refine(yz hs1 0 1048576).bind (fun y e he hy=>?_) fun x r2 h2 hs2=>?_
 ·obtain⟨y1,y2,y3,y4⟩:=y;cases hy;have he:y3≠0:=he
  simp only[zC he,bsQ];exact DD.some rfl
 exact(yz hs2 0 4096).bind (fun y e he hy=>DD.some hy) fun x r3 h3 hs3=>⟨rfl,hs3⟩
end
def zLh:Option Int→Int
 |some o=>o
 |none=>-1
def ziv:List (List (List UInt8)):=[[],[zJ7],[zoj],[],[ju,zam,jt],[zak,yT],[zaj,zal,zai],[],[]]
def opT(lv:Nat)(T:List UInt8):Option Int:=(idx ziv (lv:Int)).bind fun x3=>(some (wy (vC T x3))).bind fun x5=>(bif (decide (x5<0))then some (-1)else(bif (decide ((lv:Int)=1))then some 14 else(idx ([0,14,13,0,10,4,6,0,0]:List Int) (lv:Int)).bind fun x6=>some (w64 (x6+x5))))
def opO(lv:Nat)(T:List UInt8):Option Int:=match OPS.find? (fun o=>decide (T=o.text))with
 |some o=>if o.form=(lv:Int)then some o.op else none
 |none=>none
theorem zQ6{lv:Nat}(hl:lv<9)(T:List UInt8):opT lv T=some (zLh (opO lv T)):=by
 have hv:lv=0∨lv=1∨lv=2∨lv=3∨lv=4∨lv=5∨lv=6∨lv=7∨lv=8:=by omega
 by_cases h1:T=zJ7
 ·subst h1;rcases hv with rfl|rfl|rfl|rfl|rfl|rfl|rfl|rfl|rfl<;>rfl
 by_cases h2:T=zoj
 ·subst h2;rcases hv with rfl|rfl|rfl|rfl|rfl|rfl|rfl|rfl|rfl<;>rfl
 by_cases h3:T=ju
 ·subst h3;rcases hv with rfl|rfl|rfl|rfl|rfl|rfl|rfl|rfl|rfl<;>rfl
 by_cases h4:T=zam
 ·subst h4;rcases hv with rfl|rfl|rfl|rfl|rfl|rfl|rfl|rfl|rfl<;>rfl
 by_cases h5:T=jt
 ·subst h5;rcases hv with rfl|rfl|rfl|rfl|rfl|rfl|rfl|rfl|rfl<;>rfl
 by_cases h6:T=zak
 ·subst h6;rcases hv with rfl|rfl|rfl|rfl|rfl|rfl|rfl|rfl|rfl<;>rfl
 by_cases h7:T=yT
 ·subst h7;rcases hv with rfl|rfl|rfl|rfl|rfl|rfl|rfl|rfl|rfl<;>rfl
 by_cases h8:T=zaj
 ·subst h8;rcases hv with rfl|rfl|rfl|rfl|rfl|rfl|rfl|rfl|rfl<;>rfl
 by_cases h9:T=zal
 ·subst h9;rcases hv with rfl|rfl|rfl|rfl|rfl|rfl|rfl|rfl|rfl<;>rfl
 by_cases h10:T=zai
 ·subst h10;rcases hv with rfl|rfl|rfl|rfl|rfl|rfl|rfl|rfl|rfl<;>rfl
 have e:opO lv T=none:=by
  unfold opO OPS;simp only[List.find?,h1,h2,h3,h4,h5,h6,h7,h8,h9,h10,decide_false]
 rw[e]
 have f:∀w:List (List UInt8),w∈ziv→vC T w=none:=fun w hw=>by
  simp only[ziv,List.mem_cons,List.mem_nil_iff,or_false]at hw
  rcases hw with rfl|rfl|rfl|rfl|rfl|rfl|rfl|rfl|rfl<;>simp only[vC,Ne.symm h1,Ne.symm h2,Ne.symm h3,Ne.symm h4,Ne.symm h5,Ne.symm h6,Ne.symm h7,Ne.symm h8,Ne.symm h9,Ne.symm h10,if_false,Option.map_none]
 unfold opT;have hi:idx ziv (lv:Int)=some (ziv[lv]'hl):=yv (List.getElem?_eq_getElem hl);rw[hi,bsQ,f _ (List.getElem_mem hl)];rfl
section
variable{l r:List Token}
theorem zLi(hk:¬(hdT r).Kind=3){lv:Nat}:zfh lv r=opO lv (hdT r).Text:=by
 unfold zfh opO opR;rw[if_neg hk];try(cases List.find? (fun o=>decide ((hdT r).Text=o.text)) OPS<;>rfl)
theorem zu6(h:St l r){lv:Nat}(hl:lv<9):wO l (zA l r) 0 0 (lv:Int)=some (zLh (zfh lv r)):=by
 unfold wO;rw[h.idx,show decide ((0:Int)=0)=true from rfl];simp only[Bool.not_true,cf,bsQ];by_cases hk:(hdT r).Kind=3
 ·rw[dt hk,zfh,opR,if_pos hk];rfl
 ·rw[df hk,cf,zLi hk]
  have:=zQ6 hl (hdT r).Text;unfold opT at this;rw[← this];have hi:idx ziv (lv:Int)=some (ziv[lv]'hl):=yv (List.getElem?_eq_getElem hl)
  have hlen:∀w∈ziv,w.length<4611686018427387904:=by decide
  show(idx ziv (lv:Int)).bind _=_
  rw[hi,bsQ,bsQ,zb6 (hlen _ (List.getElem_mem hl))]
theorem zQ7{lv:Nat}{op:Int}(h:zfh lv r=some op):0≤op:=by
 obtain⟨o,h1,_,rfl⟩:=Af h;have:=(vI h1).2.1;simp only[OPS,List.mem_cons,List.mem_nil_iff,or_false]at this
 rcases this with rfl|rfl|rfl|rfl|rfl|rfl|rfl|rfl|rfl|rfl<;>decide
end
abbrev XT:=Int×Int×Int×Int×Int×List UInt8×List UInt8×List Expr
abbrev fX(e:Expr)(i:Int):XT:=(i,0,0,e.Op,e.N,e.S,e.Key,e.Args)
def RL{l:List Token}(x:Except EE (Expr×List Token))(s:Option (XT⊕XT)):Prop:=match x with
 |.ok (v,r)=>(s=some (.inl (fX v (zA l r)))∨s=some (.inr (fX v (zA l r))))∧St l r
 |.error e=>e.2≠0∧∃y,(s=some (.inl y)∨s=some (.inr y))∧peH y=e
theorem RL.rf{l:List Token}{x:Except EE (Expr×List Token)}{s:Option (XT⊕XT)}{k:XT→Option XT}(hk:∀y,k y=some y)(h:RL (l:=l) x s):RF l x (s.bind (xB some k)) fX peH:=by
 match x,h with
 |.ok (v,r),⟨h,hs⟩ =>
  rcases h with h|h
  ·rw[h];exact⟨rfl,hs⟩
  ·rw[h];exact⟨hk _,hs⟩
 |.error e,⟨he,y,h,hy⟩ =>
  refine⟨he,y,?_,hy⟩
  rcases h with h|h
  ·rw[h];rfl
  ·rw[h];exact hk _
theorem exprR(l:List Token):∀(m lv:Nat)(r:List Token)(K:Nat),lv≤8→10*r.length+(9-lv)≤m→10*r.length+(9-lv)≤K→St l r→RF l (DE lv r) (yM K l (zA l r) 0 0 (lv:Int)) fX peH:=by
 intro m
 induction m with
 |zero=>intro lv r K hl hm;omega
 |succ m ih =>
  intro lv r K hl hm hK hs
  obtain⟨K,rfl⟩:∃k,K=k+1:=⟨K-1,by omega⟩
  rw[yM,show decide ((0:Int)=0)=true from rfl,Bool.not_true,cf];have hlen:=hs.lt.2
  obtain⟨K',hK'⟩:∃k,K=k+1:=⟨K-1,by omega⟩
  by_cases h8:lv=8
  ·subst h8
   rw[show decide (((8:Nat):Int)=8)=true from rfl,ctQ,zQl hs.wf]
   obtain⟨m,rfl⟩:∃k,m=k+1:=⟨m-1,by omega⟩
   have prim:RF l (zcb r) (A5 K l (zA l r) 0 0) fX peH:=by
    rw[hK',A5,zcb,ky hs,bsQ]
    cases hn:Jk r with
    |true =>
     simp only[if_true,ctQ]
     exact(yz hs 0 1099511627776).bind (fun y e he hy=>DD.some hy) fun v r1 h1 hs1=>⟨rfl,hs1⟩
    |false =>
    simp only[if_neg (show ¬(false=true) by simp),cf];rw[zmz hs,bsQ,hs.step]
    cases hb:isB xG r with
    |true =>
     simp only[if_true,ctQ]
     refine(W8 (hs.tail (zl hb))).bind (fun y e he hy=>?_) fun v r1 h1 hs1=>?_
     ·obtain⟨y1,y2,y3,y4⟩:=y;cases hy;have he:y3≠0:=he
      simp only[qb he,bsQ];exact DD.some rfl
     exact(W8 hs1).bind (fun y e he hy=>DD.some hy) fun v r1 h1 hs1=>⟨rfl,hs1⟩
    |false =>
    simp only[if_neg (show ¬(false=true) by simp),cf];rw[zmz hs,bsQ]
    cases hb2:isB wH r with
    |true =>
     simp only[if_true,ctQ]
     exact(W8 (hs.tail (zl hb2))).bind (fun y e he hy=>DD.some hy) fun v r1 h1 hs1=>⟨rfl,hs1⟩
    |false =>
    simp only[if_neg (show ¬(false=true) by simp),cf];rw[zmz hs,bsQ]
    cases hb3:isB HA r with
    |true =>
     simp only[if_true,ctQ];have ht:=oF hs.wf
     refine(ih 0 r.tail K' (by omega) (by omega) (by omega) (hs.tail (zl hb3))).bind (fun y e he hy=>?_) fun v r1 h1 hs1=>?_
     ·obtain⟨y1,y2,y3,y4⟩:=y;cases hy;have he:y2≠0:=he
      simp only[zu he,bsQ];exact DD.some rfl
     exact(xK hs1 AG).bind (fun y e he hy=>DD.some hy) fun u r2 h2 hs2=>⟨rfl,hs2⟩
    |false =>
    simp only[if_neg (show ¬(false=true) by simp),cf]
    exact(W8 hs).bind (fun y e he hy=>DD.some hy) fun v r1 h1 hs1=>⟨rfl,hs1⟩
   have:=prim.bind (g:=fun v r=>.ok (v,r)) (s2:=fun x1=>some (x1.1,x1.2.1,x1.2.2.1,x1.2.2.2.1,x1.2.2.2.2.1,x1.2.2.2.2.2.1,x1.2.2.2.2.2.2.1,x1.2.2.2.2.2.2.2)) (f2:=fX) (pe2:=peH) (fun y e he hy=>DD.some hy) fun v r1 h1 hs1=>⟨rfl,hs1⟩
   rw[oc]at this;exact this
  ·have h8':lv<8:=by omega
   rw[df (show ¬((lv:Int)=8) by omega),cf,zEl h8' hs.wf]
   have ifc:∀(k:Nat)(t:List UInt8),((bif (decide ((lv:Int)=(k:Int)))then(yr l (zA l r) 0 0 t).bind fun x3=>some x3 else some false))=some (decide (lv=k∧isB t r=true)):=fun k t=>by
    by_cases hk:lv=k
    ·rw[dt (show(lv:Int)=(k:Int) by omega),ctQ,zmz hs,bsQ]
     cases isB t r<;>simp[hk]
    ·rw[df (show ¬(lv:Int)=(k:Int) by omega)]
     simp[hk]
   have ht:=oF hs.wf;rw[show(bif (decide ((lv:Int)=0))then(yr l (zA l r) 0 0 zah).bind fun x3=>some x3 else some false)=_ from ifc 0 zah,bsQ,hs.step];by_cases c0:lv=0∧isB zah r=true
   ·rw[if_pos c0,dt c0,ctQ,ifS]
    refine(ih 0 r.tail K (by omega) (by omega) (by omega) (hs.tail (zl c0.2))).bind (fun y e he hy=>?_) fun a r1 h1 hs1=>?_
    ·obtain⟨y1,y2,y3,y4⟩:=y;cases hy;have he:y2≠0:=he
     rw[hK'];simp only[zu he,Jo he,bsQ];exact DD.some rfl
    have q1:=(xE (hs.tail (zl c0.2)).wf h1).lt
    refine(xK hs1 Ht).bind (fun y e he hy=>?_) fun u r2 h2 hs2=>?_
    ·obtain⟨y1,y2,y3⟩:=y;cases hy;have he:y2≠0:=he
     rw[hK'];simp only[zu he,Jo he,bsQ];exact DD.some rfl
    have q2:=(xw hs1.wf h2).lt
    refine(ih 0 r2 K (by omega) (by omega) (by omega) hs2).bind (fun y e he hy=>?_) fun b r3 h3 hs3=>?_
    ·obtain⟨y1,y2,y3,y4⟩:=y;cases hy;have he:y2≠0:=he
     rw[hK'];simp only[zu he,Jo he,bsQ];exact DD.some rfl
    have q3:=(xE hs2.wf h3).lt
    refine(xK hs3 vW).bind (fun y e he hy=>?_) fun u r4 h4 hs4=>?_
    ·obtain⟨y1,y2,y3⟩:=y;cases hy;have he:y2≠0:=he
     rw[hK'];simp only[zu he,Jo he,bsQ];exact DD.some rfl
    have q4:=(xw hs3.wf h4).lt
    refine(ih 0 r4 K (by omega) (by omega) (by omega) hs4).bind (fun y e he hy=>DD.some hy) fun c r5 h5 hs5=>⟨?_,hs5⟩
    simp only[fX,xN,fu3]
   ·rw[if_neg c0,df c0,cf]
    rw[show(bif (decide ((lv:Int)=3))then(yr l (zA l r) 0 0 ox).bind fun x10=>some x10 else some false)=_ from ifc 3 ox,bsQ];by_cases c3:lv=3∧isB ox r=true
    ·rw[if_pos c3,dt c3,ctQ]
     refine(ih 3 r.tail K (by omega) (by omega) (by omega) (hs.tail (zl c3.2))).bind (fun y e he hy=>DD.some hy) fun a r1 h1 hs1=>⟨?_,hs1⟩
     simp only[fX,xN]
    ·rw[if_neg c3,df c3,cf]
     rw[show(bif (decide ((lv:Int)=7))then(yr l (zA l r) 0 0 yT).bind fun x13=>some x13 else some false)=_ from ifc 7 yT,bsQ];by_cases c7:lv=7∧isB yT r=true
     ·rw[if_pos c7,dt c7,ctQ]
      refine(ih 7 r.tail K (by omega) (by omega) (by omega) (hs.tail (zl c7.2))).bind (fun y e he hy=>DD.some hy) fun a r1 h1 hs1=>⟨?_,hs1⟩
      simp only[fX,xN]
     ·rw[if_neg c7,df c7,cf,xv (n:=(lv:Int)+1) (by omega) (by omega),show(lv:Int)+1=((lv+1:Nat):Int) from rfl]
      refine(ih (lv+1) r K (by omega) (by omega) (by omega) hs).bind (fun y e he hy=>?_) fun e r1 h1 hs1=>?_
      ·obtain⟨y1,y2,y3,y4⟩:=y;cases hy;have he:y2≠0:=he
       obtain⟨k,hk⟩:=ku;rw[hk,show(y1,y2,y3,y4).1=y1 from rfl];simp only[zfk he];exact DD.some rfl
      have q1:=(xE hs.wf h1).lt
      have loop:∀(n:Nat)(r':List Token)(e:Expr)(Q:Nat),r'.length<n→n≤Q→r'.length<r.length→St l r'→RL (l:=l) (LP lv e r') (vO (yM K) l (lv:Int) 0 ([]:List UInt8) [] Q (fX e (zA l r'))):=by
       intro n
       induction n with
       |zero=>intro r' e Q hn;omega
       |succ n ihn =>
        intro r' e Q hn hQ hlt hs'
        obtain⟨Q,rfl⟩:∃k,Q=k+1:=⟨Q-1,by omega⟩
        rw[zEm hs'.wf,vO];simp only[fX,zu6 hs' (show lv<9 by omega),bsQ,hs'.step,xv (n:=(lv:Int)+1) (by omega) (by omega)]
        cases ho:zfh lv r' with
        |none=>exact⟨.inr rfl,hs'⟩
        |some op =>
         obtain⟨o,ho1,_⟩:=Af ho;have hk:=(vI ho1).1;have htl:=oF hs'.wf;have hst:=hs'.tail hk;have hx:=ih (lv+1) r'.tail K (by omega) (by omega) (by omega) hst;dsimp only;rw[show decide (zLh (some op)≥0)=true from dt (zQ7 ho),ctQ];rw[show(lv:Int)+1=((lv+1:Nat):Int) from rfl]
         cases hd:DE (lv+1) r'.tail with
         |error er =>
          rw[hd]at hx;obtain⟨he,y,hy1,hy2⟩:=hx;rw[hy1,bsQ];obtain⟨y1,y2,y3,y4⟩:=y;cases hy2;have he':y2≠0:=he;refine⟨he,?_⟩;by_cases h4:lv=4
          ·rw[dt (show(lv:Int)=4 by omega),ctQ]
           exact⟨_,.inl rfl,rfl⟩
          ·rw[df (show ¬(lv:Int)=4 by omega),cf]
           obtain⟨Q,rfl⟩:∃k,Q=k+1:=⟨Q-1,by have:=hs'.lt.2;omega⟩
           refine⟨_,.inr (zfk he' Q),rfl⟩
         |ok x =>
          obtain⟨e2,r2⟩:=x;rw[hd]at hx;obtain⟨hx1,hs2⟩:=hx;rw[hx1,bsQ];have q2:=(xE hst.wf hd).lt
          show RL (if lv=4 then _ else _) _
          by_cases h4:lv=4
          ·rw[dt (show(lv:Int)=4 by omega),ctQ,if_pos h4]
           refine⟨.inl ?_,hs2⟩;simp only[fX,xN];rfl
          ·rw[df (show ¬(lv:Int)=4 by omega),cf,if_neg h4]
           have:=ihn r2 (zm6 op e e2) Q (by omega) (by omega) (by omega) hs2;simp only[fX,zm6,xN]at this ⊢;exact this
      have hkk:=zce hs1;exact(loop (r1.length+1) r1 e KK (by omega) hkk q1 hs1).rf (fun y=>rfl)
theorem zp0{l r:List Token}(h:St l r):RF l (DE 0 r) (yM KK l (zA l r) 0 0 0) fX peH:=by
 have h1:=h.lt;have h2:=h.len;have h3:=Ag;exact exprR l (10*r.length+9) 0 r KK (by omega) (by omega) (by omega) h
theorem zfl{α β:Type}(g:α→β):∀(l:List α)(s:List β),l.foldl (fun s x=>s++[g x]) s=s++l.map g
 |[],s=>by simp
 |x::l,s=>by rw[List.foldl_cons,zfl g l];simp
theorem zu7{α τ:Type}(l:List α)(g:α→List UInt8)(L:Nat→(Int×List (List UInt8))→τ)(fin:List (List UInt8)→τ)(hs:l.length≤1000)
  (hL:∀K (i:Nat) x s,l[i]?=some x→List.length s≤1000→L (K+1) ((i:Int),s)=L K (((i+1:Nat):Int),s++[g x])) (hE:∀K s,L (K+1) ((l.length:Int),s)=fin s):L KK (0,[])=fin (l.map g):=by
 have:=(zms l (fun s x=>s++[g x]) fin (fun i s=>s.length=i∧i≤l.length) (fun K q s=>L K (q,s)) [] (by omega) ⟨rfl,Nat.zero_le _⟩ (fun K i x s h hi=>⟨hL K i x s h (by omega),by have:=zK7 h;simp;omega⟩) (fun K s _=>hE K s)).1;rw[zfl]at this;simpa using this
theorem ziw{p:Prop}(h:p):pd p=true:=uF.2 h
def zLj(p:wB):Nat→List (List UInt8)
 |0=>p.Defs.map Def.Name
 |1=>p.Tables.map Table.Name
 |2=>p.Zones.map yl.Name
 |3=>p.Rules.map zX.Name
 |4=>p.Caps.map Cap.Name
 |_=>p.Views.map View.Name
theorem zfm{α:Type}[Inhabited α](l:List α)(g:α→List UInt8)(c j:Int)(L:Nat→(Int×List (List UInt8))→Option (List (List UInt8)))(hs:l.length≤1000)
  (hL:∀K q,L (K+1) q=((bif (decide (q.1<((List.length l:Nat):Int)))then some (decide (c=j))else some false)).bind fun x1=>(bif x1 then(idx l q.1).bind fun x2=>(grd (List.length (q.2++([g x2]:List (List UInt8)))*16≤140737488355328)).bind fun _=>L K ((w64 (q.1+1)),(q.2++([g x2]:List (List UInt8))))else some q.2)) (a:List (List UInt8)):
  (¬c=j→L KK (0,a)=some a)∧(c=j→a=[]→L KK (0,a)=some (l.map g)):=by
 constructor
 ·intro h
  obtain⟨K,hK⟩:∃k,KK=k+1:=⟨KK-1,by have:=km (n:=1) (by omega);omega⟩
  rw[hK,hL,df h];cases decide ((0:Int)<((List.length l:Nat):Int))<;>rfl
 ·rintro h rfl
  refine zu7 l g L some hs (fun K i x s hx h2=>?_) (fun K s=>by rw[hL];simp only[zHi];rfl);have:=zK7 hx;rw[hL];simp only[lt_at hx,ctQ,yv hx,bsQ,dt h];rw[zx (by rw[la,List.length_singleton];omega),bsQ,xL (by omega)]
theorem zp1{p:wB}(l1:p.Defs.length≤1000)(l2:p.Tables.length≤1000)(l3:p.Zones.length≤1000)(l4:p.Rules.length≤1000)(l5:p.Caps.length≤1000)(l6:p.Views.length≤1000):∀i:Nat,i<6→xu p (i:Int)=some (zLj p i):=by
 intro i hi;generalize hc:(i:Int)=c
 have h1:=fun a=>zfm p.Defs Def.Name c 0 (uV c p.Defs p.Tables p.Zones p.Rules p.Caps p.Views p.Sun p.Hours) (by omega) (fun K q=>rfl) a
 have h2:=fun a=>zfm p.Tables Table.Name c 1 (uW c p.Defs p.Tables p.Zones p.Rules p.Caps p.Views p.Sun p.Hours) (by omega) (fun K q=>rfl) a
 have h3:=fun a=>zfm p.Zones yl.Name c 2 (uX c p.Defs p.Tables p.Zones p.Rules p.Caps p.Views p.Sun p.Hours) (by omega) (fun K q=>rfl) a
 have h4:=fun a=>zfm p.Rules zX.Name c 3 (uY c p.Defs p.Tables p.Zones p.Rules p.Caps p.Views p.Sun p.Hours) (by omega) (fun K q=>rfl) a
 have h5:=fun a=>zfm p.Caps Cap.Name c 4 (uZ c p.Defs p.Tables p.Zones p.Rules p.Caps p.Views p.Sun p.Hours) (by omega) (fun K q=>rfl) a
 have h6:=fun a=>zfm p.Views View.Name c 5 (u0 c p.Defs p.Tables p.Zones p.Rules p.Caps p.Views p.Sun p.Hours) (by omega) (fun K q=>rfl) a
 unfold xu
 obtain rfl|rfl|rfl|rfl|rfl|rfl:i=0∨i=1∨i=2∨i=3∨i=4∨i=5:=by omega
 ·obtain rfl:c=0:=by omega
  rw[(h1 _).2 rfl rfl,bsQ,(h2 _).1 (by decide),bsQ,(h3 _).1 (by decide),bsQ,(h4 _).1 (by decide),bsQ,(h5 _).1 (by decide),bsQ,(h6 _).1 (by decide),bsQ];rfl
 ·obtain rfl:c=1:=by omega
  rw[(h1 _).1 (by decide),bsQ,(h2 _).2 rfl rfl,bsQ,(h3 _).1 (by decide),bsQ,(h4 _).1 (by decide),bsQ,(h5 _).1 (by decide),bsQ,(h6 _).1 (by decide),bsQ];rfl
 ·obtain rfl:c=2:=by omega
  rw[(h1 _).1 (by decide),bsQ,(h2 _).1 (by decide),bsQ,(h3 _).2 rfl rfl,bsQ,(h4 _).1 (by decide),bsQ,(h5 _).1 (by decide),bsQ,(h6 _).1 (by decide),bsQ];rfl
 ·obtain rfl:c=3:=by omega
  rw[(h1 _).1 (by decide),bsQ,(h2 _).1 (by decide),bsQ,(h3 _).1 (by decide),bsQ,(h4 _).2 rfl rfl,bsQ,(h5 _).1 (by decide),bsQ,(h6 _).1 (by decide),bsQ];rfl
 ·obtain rfl:c=4:=by omega
  rw[(h1 _).1 (by decide),bsQ,(h2 _).1 (by decide),bsQ,(h3 _).1 (by decide),bsQ,(h4 _).1 (by decide),bsQ,(h5 _).2 rfl rfl,bsQ,(h6 _).1 (by decide),bsQ];rfl
 ·obtain rfl:c=5:=by omega
  rw[(h1 _).1 (by decide),bsQ,(h2 _).1 (by decide),bsQ,(h3 _).1 (by decide),bsQ,(h4 _).1 (by decide),bsQ,(h5 _).1 (by decide),bsQ,(h6 _).2 rfl rfl,bsQ];rfl
theorem zp2:∀(n:Nat)(e:Expr)(K:Nat),JY e≤n→n≤K→n≤1000000000→wo K e=some ((JX e:Nat):Int):=by
 intro n
 induction n with
 |zero=>intro e K h;have:=zij e;omega
 |succ n ih =>
  intro e K h hK hn
  obtain⟨K,rfl⟩:∃k,K=k+1:=⟨K-1,by omega⟩
  obtain⟨op,nn,ss,kk,az⟩:=e;rw[JY]at h
  have loop:∀(l:List Expr)(i Q m:Nat),az.drop i=l→i≤az.length→l.length<Q→m≤1000000000→vf (wo K) op nn ss kk az Q ((m:Int),(i:Int))=some ((max m (zA5 l):Nat):Int):=by
   intro l
   induction l with
   |nil =>
    intro i Q m hd hi hQ hm
    obtain⟨Q,rfl⟩:∃k,Q=k+1:=⟨Q-1,by omega⟩
    have:=drop_nil hd hi;rw[vf,df (show ¬((i:Int)<(az.length:Int)) by omega)];simp[zA5]
   |cons a l ihl =>
    intro i Q m hd hi hQ hm
    obtain⟨Q,rfl⟩:∃k,Q=k+1:=⟨Q-1,by omega⟩
    obtain⟨h1,h2,h3⟩:=yA hd;simp only[lc]at hQ
    have hna:JY a+K7 l≤n:=by
     have:=zcg az i;rw[hd,K7]at this;omega
    have hlen:=JZ az;have hla:=zpr a;rw[vf,dt (show((i:Int)<(az.length:Int)) by omega),ctQ,yv h1,bsQ,ih a K (by omega) (by omega) (by omega),bsQ,xL (by omega)]
    have e:max (m:Int) ((JX a:Nat):Int)=((max m (JX a):Nat):Int):=by omega
    simp only;rw[e,ihl (i+1) Q (max m (JX a)) h2 (by omega) (by omega) (by omega),zA5,Nat.max_assoc]
  have hlen:=JZ az;have hlv:=Zq az;rw[wo,JX];have:=loop az 0 KK 0 rfl (by omega) (km (by omega)) (by omega);rw[show(((0:Nat):Int))=(0:Int) from rfl]at this;simp only;rw[this,bsQ,Nat.zero_max,xv (by omega) (by omega)];rfl
section
variable{l r:List Token}
theorem K9{r2:List Token}{e:Expr}(hs:St l r)(h:DE 0 r=.ok (e,r2)):wo KK e=some ((JX e:Nat):Int):=by
 have h1:=zAf (by omega) hs.wf h;have h2:=hs.lt;have h3:=hs.len;have h4:=Ag;exact zp2 1000000 e KK (by omega) (by omega) (by omega)
theorem zAo{c:Bool}{e:Int}(hs:St l r):zvg c e r=if isB yi r then(if c then .ok ((),r.tail)else .error (YO r e))else .error (YO r 14):=by
 unfold zvg oa
 cases isB yi r with
 |false=>rfl
 |true=>cases c<;>rfl
theorem zst{e:Expr}(h:St l r)(he:wo KK e=some ((JX e:Nat):Int)):RF l (zvg (decide (JX e≤12)) 6 r) (uv l (zA l r) 0 0 e) fu3 pe3:=by
 unfold uv;rw[zAo h,zmz h,xN,he];simp only[bsQ];have ht:=xK h yi;unfold vD at ht
 cases hb:isB yi r with
 |false =>
  rw[hb]at ht;obtain⟨h1,y,h2,h3⟩:=ht;simp only[cf,bsQ];rw[h2];exact⟨h1,y,rfl,h3⟩
 |true =>
  rw[hb]at ht;simp only[ctQ,bsQ,if_true];by_cases hl:JX e≤12
  ·rw[dt hl,df (show ¬((JX e:Nat):Int)>12 by omega)]
   simp only[cf,bsQ,if_true];rw[ht.1];exact⟨rfl,ht.2⟩
  ·rw[df hl,dt (show((JX e:Nat):Int)>12 by omega)]
   simp only[ctQ,jg h,bsQ];rw[zu (by decide)];exact RF.err (by decide) rfl
theorem zix{c:List zG}(h:St l r):RF l (zvg (pd (zil c)) 10 r) (uw l (zA l r) 0 0 c) fu3 pe3:=by
 unfold uw;rw[zAo h,zmz h,zLa];simp only[bsQ];have ht:=xK h yi;unfold vD at ht
 cases hb:isB yi r with
 |false =>
  rw[hb]at ht;obtain⟨h1,y,h2,h3⟩:=ht;simp only[cf,bsQ];rw[h2];exact⟨h1,y,rfl,h3⟩
 |true =>
  rw[hb]at ht;simp only[ctQ,bsQ,if_true]
  cases hp:pd (zil c)with
  |true =>
   simp only[Bool.not_true,cf,bsQ,if_true];rw[ht.1];exact⟨rfl,ht.2⟩
  |false =>
   simp only[Bool.not_false,ctQ,jg h,bsQ];rw[zu (by decide)];exact RF.err (by decide) rfl
-- points
abbrev fH{α:Type}(v:α)(i:Int):Int×Int×Int×α:=(i,0,0,v)
theorem zAp:∀(n:Nat)(r:List Token)(acc:List zG)(K:Nat),St l r→r.length<n→n≤K→acc.length+r.length≤2000000→(acc=[]∨Jk r=true) →
  RF l (kq n acc r) (yQ l K (zA l r,0,0,acc)) fH peH:=by
 intro n
 induction n with
 |zero=>intro r acc K hs hn;omega
 |succ n ih =>
  intro r acc K hs hn hK hacc hor
  obtain⟨K,rfl⟩:∃k,K=k+1:=⟨K-1,by omega⟩
  obtain⟨K',hK'⟩:∃k,K=k+1:=⟨K-1,by have:=hs.lt.2;omega⟩
  rw[kq,yQ];simp only[ky hs,bsQ]
  have first:(bif decide (((acc.length:Nat):Int)=0)then some true else some (Jk r))=some true:=by
   rcases hor with rfl|hk
   ·rfl
   ·rw[hk];cases decide (((acc.length:Nat):Int)=0)<;>rfl
  rw[first,bsQ,ctQ]
  refine(yz hs 0 1048576).bind (fun y e he hy=>?_) fun x r1 h1 hs1=>?_
  ·obtain⟨y1,y2,y3,y4⟩:=y;cases hy;have he:y3≠0:=he
   simp only[zC he,bsQ];rw[zx (by simp only[la,lc,List.length_nil];omega),bsQ,hK',YJ he (by simp)];exact DD.some rfl
  have q1:=(wE hs.wf h1).lt
  refine(yz hs1 0 1048576).bind (fun y e he hy=>?_) fun x2 r2 h2 hs2=>?_
  ·obtain⟨y1,y2,y3,y4⟩:=y;cases hy;have he:y3≠0:=he
   rw[zx (by simp only[la,lc,List.length_nil];omega),bsQ,hK',YJ he (by simp)];exact DD.some rfl
  have q2:=(wE hs1.wf h2).lt;dsimp only[fv4];rw[zx (by simp only[la,lc,List.length_nil];omega),bsQ]
  cases hk:Jk r2 with
  |true =>
   rw[if_pos rfl];exact ih r2 _ K hs2 (by omega) (by omega) (by simp only[la,lc,List.length_nil];omega) (.inr hk)
  |false =>
   rw[if_neg (by simp),hK',yQ];simp only[ky hs2,hk,la,List.length_singleton];rw[df (by omega)];exact⟨rfl,hs2⟩
theorem W9(h:St l r):RF l (kq (r.length+1) [] r) (kd l (zA l r) 0 0) fv4 pe4:=by
 unfold kd;have h1:=h.lt;have h2:=h.len
 have:=(zAp (r.length+1) r [] KK h (Nat.lt_succ_self _) (zce h) (by simp;omega) (.inl rfl)).bind (g:=fun v r=>.ok (v,r)) (s2:=fun x1=>some (x1.2.2.2,x1.1,x1.2.1,x1.2.2.1)) (f2:=fv4) (pe2:=pe4) (fun y e he hy=>by exact DD.some hy) fun v r1 h1 hs=>⟨rfl,hs⟩
 rw[oc]at this;exact this
-- tables
abbrev fT(v:List Entry)(i:Int):Int×Int×Int×List Entry:=(i,0,0,v)
theorem zLk{c1 c3:List UInt8}{c2:Int}{c4:List Entry}:∀(n:Nat)(r:List Token)(acc:List Entry)(K:Nat),St l r→r.length<n→n≤K→acc.length≤60 →
  RF l (zc9 n acc r) (wP l c1 c2 c3 c4 K (zA l r,0,0,acc.map Entry.Name,acc)) fT peH:=by
 intro n
 induction n with
 |zero=>intro r acc K hs hn;omega
 |succ n ih =>
  intro r acc K hs hn hK hacc
  obtain⟨K,rfl⟩:∃k,K=k+1:=⟨K-1,by omega⟩
  obtain⟨K',hK'⟩:∃k,K=k+1:=⟨K-1,by have:=hs.lt.2;omega⟩
  rw[zc9,wP];simp only[Jp hs,bsQ]
  cases hk:zfg r with
  |false=>exact⟨rfl,hs⟩
  |true =>
   simp only[if_true,ctQ];by_cases hl:acc.length<60
   ·rw[dt hl]
    show RF l (thn (vn (acc.map Entry.Name) r) _) _ _ _
    refine(oe hs (m:=60) (by rw[List.length_map];exact hl) (by rw[List.length_map];omega)).bind (fun y e he hy=>?_) fun s r2 h2 hs2=>?_
    ·obtain⟨y1,y2,y3,y4⟩:=y;cases hy;have he:y3≠0:=he
     rw[zx (by simp only[la,lc,List.length_nil,List.length_map];omega),bsQ];simp only[xy he,bsQ];rw[zx (by simp only[la,lc,List.length_nil];omega),bsQ,hK',uH he];exact DD.some rfl
    have q2:=(W7 hs.wf h2).lt;dsimp only[fv4];rw[zx (by simp only[la,lc,List.length_nil,List.length_map];omega),bsQ]
    refine(Jq hs2 1099511627776 (by omega)).bind (fun y e he hy=>?_) fun v r3 h3 hs3=>?_
    ·obtain⟨y1,y2,y3,y4⟩:=y;cases hy;have he:y3≠0:=he
     rw[zx (by simp only[la,lc,List.length_nil];omega),bsQ,hK',uH he];exact DD.some rfl
    have q3:=(vS hs2.wf h3).lt;dsimp only[fv4];rw[zx (by simp only[la,lc,List.length_nil];omega),bsQ];have:=ih r3 (acc++[Entry.mk s v]) K hs3 (by omega) (by omega) (by simp only[la,lc,List.length_nil];omega);rw[List.map_append]at this;exact this
   ·rw[df hl]
    have e:=zLg hs (L:=acc.map Entry.Name) (m:=60) (by rw[List.length_map];omega) hk;have e':yL l (zA l r) 0 0 (acc.map Entry.Name) 60=_:=e;rw[e',bsQ,zx (by simp only[la,lc,List.length_nil,List.length_map];omega),bsQ];simp only[xy (show(6:Int)≠0 by decide),bsQ];rw[zx (by simp only[la,lc,List.length_nil];omega),bsQ,hK',uH (show(6:Int)≠0 by decide)];exact RF.err (by decide) rfl
abbrev fTab(v:Table)(i:Int):Int×Int×Int×List UInt8×Int×List Entry:=(i,0,0,v.Name,v.Else,v.Rows)
theorem zAq{L:List (List UInt8)}(h:St l r)(hL:L.length≤60):RF l (VE L r) (oY l (zA l r) 0 0 L) fTab peH:=by
 unfold oY VE
 refine(oe h (m:=61) (by omega) (by omega)).bind (fun y e he hy=>?_) fun s r1 h1 hs1=>?_
 ·obtain⟨y1,y2,y3,y4⟩:=y;cases hy;have he:y3≠0:=he
  obtain⟨kk,hkk⟩:=ku;rw[hkk];simp only[uH he,zu he,xy he,bsQ];exact DD.some rfl
 refine(zLk (r1.length+1) r1 [] KK hs1 (Nat.lt_succ_self _) (zce hs1) (by simp)).bind (fun y e he hy=>?_) fun rows r2 h2 hs2=>?_
 ·obtain⟨y1,y2,y3,y4⟩:=y;cases hy;have he:y2≠0:=he
  simp only[zu he,xy he,bsQ];exact DD.some rfl
 refine(xK hs2 vW).bind (fun y e he hy=>?_) fun u r3 h3 hs3=>?_
 ·obtain⟨y1,y2,y3⟩:=y;cases hy;have he:y2≠0:=he
  simp only[zu he,xy he,bsQ];exact DD.some rfl
 refine(Jq hs3 1099511627776 (by omega)).bind (fun y e he hy=>?_) fun v r4 h4 hs4=>?_
 ·obtain⟨y1,y2,y3,y4⟩:=y;cases hy;have he:y3≠0:=he
  simp only[zu he,bsQ];exact DD.some rfl
 exact(xK hs4 yi).bind (fun y e he hy=>DD.some hy) fun u r5 h5 hs5=>⟨rfl,hs5⟩
-- names
def RLs(x:Except EE (List (List UInt8)×List Token))(s:Option ((List (List UInt8)×Int×Int×Int)⊕(Int×Int×Int×List (List UInt8)))):Prop:=match x with
 |.ok (v,r)=>s=some (.inr (zA l r,0,0,v))∧St l r
 |.error e=>e.2≠0∧∃y,s=some (.inl y)∧pe4 y=e
theorem zLl:∀(n:Nat)(r:List Token)(acc:List (List UInt8))(K:Nat),St l r→r.length<n→n≤K→acc.length+r.length≤2000000→acc≠[] →
  RLs (l:=l) (YQ n acc r) (vP l K (zA l r,0,0,acc)):=by
 intro n
 induction n with
 |zero=>intro r acc K hs hn;omega
 |succ n ih =>
  intro r acc K hs hn hK hacc hne
  obtain⟨K,rfl⟩:∃k,K=k+1:=⟨K-1,by omega⟩
  have hp:=List.length_pos_iff.2 hne;rw[YQ,vP];simp only[Jp hs,bsQ];rw[df (show ¬((acc.length:Nat):Int)=0 by omega),cf,bsQ]
  cases hk:zfg r with
  |false=>exact⟨rfl,hs⟩
  |true =>
   simp only[if_true,ctQ];have hx:=W8 hs
   cases hn1:uL r with
   |error e =>
    unfold uL at hn1;rw[hk]at hn1;cases hn1
   |ok y =>
    obtain⟨s,r1⟩:=y;rw[hn1]at hx;obtain⟨hx1,hs1⟩:=hx;have q1:=(wk hs.wf hn1).lt;rw[hx1,bsQ];dsimp only[fv4];rw[zx (by simp only[la,lc,List.length_nil];omega),bsQ];exact ih r1 _ K hs1 (by omega) (by omega) (by simp only[la,lc,List.length_nil];omega) (by simp)
theorem zsu(h:St l r):RF l (K5 r) (A7 l (zA l r) 0 0) fv4 pe4:=by
 unfold A7 K5;obtain⟨K,hK⟩:=ku;have h1:=h.lt;have h2:=h.len;have h3:=Ag;have hx:=W8 h;rw[hK,vP];simp only[List.length_nil,show decide (((0:Nat):Int)=0)=true from rfl,ctQ,bsQ]
 cases hn1:uL r with
 |error e =>
  rw[hn1]at hx;obtain⟨he,y,hy1,hy2⟩:=hx;rw[hy1,bsQ];obtain⟨y1,y2,y3,y4⟩:=y;cases hy2;have he:y3≠0:=he;rw[zx (by simp),bsQ];simp only[df he];exact⟨he,_,rfl,rfl⟩
 |ok y =>
  obtain⟨s,r1⟩:=y;rw[hn1]at hx;obtain⟨hx1,hs1⟩:=hx;have q1:=(wk h.wf hn1).lt;rw[hx1,bsQ,zx (by simp[fv4]),bsQ];dsimp only[fv4];have:=zLl (r1.length+1) r1 [s] (K+1) hs1 (Nat.lt_succ_self _) (by omega) (by simp;omega) (by simp)
  show RF l (YQ (r1.length+1) [s] r1) ((vP l (K+1) (zA l r1,0,0,[s])).bind _) fv4 pe4
  cases hm:YQ (r1.length+1) [s] r1 with
  |error e =>
   rw[hm]at this;obtain⟨he,y,hy1,hy2⟩:=this;rw[hy1];exact⟨he,y,rfl,hy2⟩
  |ok z =>
   obtain⟨v,r2⟩:=z;rw[hm]at this;rw[this.1];exact⟨rfl,this.2⟩
end
theorem zAr:∀k<6,WI ((k:Nat):Int)=some ((2 ^ k:Nat):Int):=by decide +kernel
theorem zLm:∀s<64,∀k<6,decide ((Int.tmod (w64 (Int.tdiv ((s:Nat):Int) ((2 ^ k:Nat):Int))) 2)=1)=Nat.testBit s k:=by decide +kernel
theorem zLn:∀s<64,∀k<6,Nat.testBit s k=false→w64 (((s:Nat):Int)+((2 ^ k:Nat):Int))=((s ||| 2 ^ k:Nat):Int):=by decide +kernel
theorem zm0:wQ=some USE:=rfl
theorem zu8:A8=some LOAD:=rfl
abbrev fU(v:Nat)(i:Int):Int×Int×Int×Int:=((v:Int),i,0,0)
def RU{l:List Token}(x:Except EE (Nat×List Token))(s:Option ((Int×Int×Int×Int)⊕(Int×Int×Int×Int))):Prop:=match x with
 |.ok (v,r)=>s=some (.inr (zA l r,0,0,(v:Int)))∧St l r
 |.error e=>e.2≠0∧∃a b,s=some (.inl (a,b,e.2,e.1))∨s=some (.inr (b,e.2,e.1,a))
section
variable{l r:List Token}
theorem zfn{a E P s:Int}(h:E≠0)(hs:s≠0)(K:Nat):vQ l (K+1) (a,E,P,s)=some (.inr (a,E,P,s)):=by
 rw[vQ,df hs,df h];rfl
theorem zQ8:∀(n:Nat)(r:List Token)(set K:Nat),St l r→r.length<n→n≤K→set<64→RU (l:=l) (zz4 n set r) (vQ l K (zA l r,0,0,(set:Int))):=by
 intro n
 induction n with
 |zero=>intro r set K hs hn;omega
 |succ n ih =>
  intro r set K hs hn hK h64
  obtain⟨K,rfl⟩:∃k,K=k+1:=⟨K-1,by omega⟩
  obtain⟨K',hK'⟩:∃k,K=k+1:=⟨K-1,by have:=hs.lt.2;omega⟩
  rw[zz4,vQ];have e0:decide ((0:Int)=0)=true:=rfl;have hw:=ziu hs (w:=USE) (by decide);simp only[zm0,hs.idx,zb6 (show USE.length<4611686018427387904 by decide),bsQ,decide_true,ctQ,Bool.not_true,cf]
  have first:(bif decide (((set:Nat):Int)=0)then some true else(bif decide ((hdT r).Kind=0)then some (decide (wy (vC (hdT r).Text USE)≥0))else some false))=some (decide (set=0∨((hdT r).Kind=0∧(vC (hdT r).Text USE).isSome=true))):=by
   by_cases h0:set=0
   ·rw[dt (show((set:Nat):Int)=0 by omega),dt (show set=0∨((hdT r).Kind=0∧(vC (hdT r).Text USE).isSome=true) from .inl h0)];rfl
   ·rw[df (show ¬((set:Nat):Int)=0 by omega),cf]
    by_cases hk:(hdT r).Kind=0
    ·rw[dt hk,ctQ]
     cases hf:vC (hdT r).Text USE with
     |none=>simp[wy,h0]
     |some j=>rw[dt (show wy (some j)≥0 from show((j:Int))≥0 by omega)];simp[hk]
    ·rw[df hk];simp[h0,hk]
  rw[first,bsQ]
  cases hf:vC (hdT r).Text USE with
  |none =>
   dsimp only;by_cases h0:0<set
   ·rw[if_pos h0,df (by simp;omega)]
    exact⟨rfl,hs⟩
   ·rw[if_neg h0,dt (.inl (by omega)),ctQ]
    rw[show decide (wy none≥0)=false from rfl];simp only[cf,bsQ]
    have hc:wV USE r=.error (YO r 14):=by unfold wV;rw[hf];split<;>rfl
    rw[hc]at hw;obtain⟨he,y,hy1,hy2⟩:=hw;obtain⟨y1,y2,y3,y4⟩:=y
    have hz:y1=0:=by
     have:vh l (zA l r) 0 0 USE=some (0,zA l r,14,(hdT r).Pos):=by
      unfold vh;rw[hs.idx,e0];simp only[Bool.not_true,cf,bsQ,zb6 (show USE.length<4611686018427387904 by decide),hf,jg hs];cases decide ((hdT r).Kind=0)<;>rfl
     rw[this]at hy1;cases hy1;rfl
    rw[hy1,bsQ];subst hz;obtain rfl:y3=14:=congrArg Prod.snd hy2;obtain rfl:y4=(hdT r).Pos:=congrArg Prod.fst hy2
    have he':(14:Int)≠0:=by decide
    refine⟨he,?_⟩;dsimp only;rw[show WI 0=some 1 from rfl,bsQ,hK',zfn he' (by rw[show set=0 by omega];decide)];exact⟨_,_,.inr rfl⟩
  |some k =>
   have hk6:=zHg hf;dsimp only;by_cases hq:0<set∧(hdT r).Kind≠0
   ·rw[if_pos hq,df (by intro hh;rcases hh with hh|hh<;>omega)]
    exact⟨rfl,hs⟩
   ·rw[if_neg hq,dt (by by_cases h0:set=0;exact .inl h0;exact .inr ⟨Classical.byContradiction fun hh=>hq ⟨by omega,hh⟩,rfl⟩),ctQ]
    have e3:wy (some k)=((k:Nat):Int):=rfl;rw[e3,dt (show((k:Nat):Int)≥0 by omega),ctQ,zAr k hk6,bsQ,zx (by have:=Nat.two_pow_pos k;omega),bsQ,zLm set h64 k hk6,bsQ]
    cases hb:Nat.testBit set k with
    |true =>
     rw[if_pos rfl,ctQ,jg hs,bsQ];exact⟨by show(5:Int)≠0;decide,_,_,.inl rfl⟩
    |false =>
     rw[if_neg (by simp),cf];by_cases hk:(hdT r).Kind=0
     ·rw[if_pos hk]
      have hc:wV USE r=.ok ((k:Int),r.tail):=by unfold wV;rw[if_pos hk,hf]
      rw[hc]at hw;rw[hw.1,bsQ];dsimp only[fv4];rw[zAr k hk6,bsQ,zLn set h64 k hk6 hb];have:=JU hs.wf;exact ih r.tail _ K (hs.tail (by omega)) (by omega) (by omega) (zQu set h64 k hk6).1
     ·rw[if_neg hk]
      have hc:wV USE r=.error (YO r 14):=by unfold wV;rw[if_neg hk]
      rw[hc]at hw
      have h0:set=0:=Classical.byContradiction fun hh=>hq ⟨by omega,hk⟩
      obtain⟨he,y,hy1,hy2⟩:=hw;obtain⟨y1,y2,y3,y4⟩:=y
      have hz:y1=0:=by
       have:vh l (zA l r) 0 0 USE=some (0,zA l r,14,(hdT r).Pos):=by
        unfold vh;rw[hs.idx,e0];simp only[Bool.not_true,cf,bsQ,df hk,Bool.not_false,ctQ,jg hs]
       rw[this]at hy1;cases hy1;rfl
      rw[hy1,bsQ];subst hz;obtain rfl:y3=14:=congrArg Prod.snd hy2;obtain rfl:y4=(hdT r).Pos:=congrArg Prod.fst hy2
      have he':(14:Int)≠0:=by decide
      refine⟨he,?_⟩;dsimp only;rw[show WI 0=some 1 from rfl,bsQ,hK',zfn he' (by rw[h0];decide)];exact⟨_,_,.inr rfl⟩
theorem zLo(h:St l r):RF l (zz4 (r.length+1) 0 r) (Zc l (zA l r) 0 0) fU pe4:=by
 unfold Zc;have:=zQ8 (r.length+1) r 0 KK h (Nat.lt_succ_self _) (zce h) (by decide);rw[show(((0:Nat):Int))=(0:Int) from rfl]at this
 cases hx:zz4 (r.length+1) 0 r with
 |ok y =>
  obtain⟨v,r1⟩:=y;rw[hx]at this;rw[this.1];exact⟨rfl,this.2⟩
 |error e =>
  rw[hx]at this;obtain⟨he,a,b,h1|h1⟩:=this
  ·rw[h1];exact⟨he,_,rfl,rfl⟩
  ·rw[h1];exact⟨he,_,rfl,rfl⟩
-- views
theorem zQ9{c1 c3:List UInt8}{c2 c4 c5 c6 c7:Int}{c8:List zf}:∀(n:Nat)(r:List Token)(acc:List zf)(K:Nat),St l r→r.length<n→n≤K→acc.length≤20→acc≠[] →
  RF l (zA8 n acc r) (xH l c1 c2 c3 c4 c5 c6 c7 c8 K (zA l r,0,0,acc)) fH peH:=by
 intro n
 induction n with
 |zero=>intro r acc K hs hn;omega
 |succ n ih =>
  intro r acc K hs hn hK hacc hne
  obtain⟨K,rfl⟩:∃k,K=k+1:=⟨K-1,by omega⟩
  obtain⟨K',hK'⟩:∃k,K=k+1:=⟨K-1,by have:=hs.lt.2;omega⟩
  have hp:=List.length_pos_iff.2 hne;rw[zA8,xH];simp only[ky hs,bsQ];rw[df (show ¬((acc.length:Nat):Int)=0 by omega),cf,bsQ]
  cases hk:Jk r with
  |false=>exact⟨rfl,hs⟩
  |true =>
   simp only[if_true,ctQ];by_cases hl:acc.length<20
   ·rw[dt hl,df (show ¬((acc.length:Nat):Int)=20 by omega)]
    show RF l (thn (Ko r) _) _ _ _
    simp only[cf,bsQ]
    refine(zci hs).bind (fun y e he hy=>?_) fun p r2 h2 hs2=>?_
    ·obtain⟨y1,y2,y3,y4⟩:=y;cases hy;have he:y2≠0:=he
     dsimp only;rw[zx (by simp only[la,lc,List.length_nil];omega),bsQ,hK',J3 he (by simp)];exact DD.some rfl
    have q2:=(J1 hs.wf h2).lt;dsimp only[fP3];rw[zx (by simp only[la,lc,List.length_nil];omega),bsQ];exact ih r2 _ K hs2 (by omega) (by omega) (by simp only[la,lc,List.length_nil];omega) (by simp)
   ·rw[df hl,dt (show((acc.length:Nat):Int)=20 by omega)]
    simp only[ctQ,jg hs,bsQ,jf (show(6:Int)≠0 by decide)];rw[zx (by simp only[la,lc,List.length_nil];omega),bsQ,hK',J3 (show(6:Int)≠0 by decide) (by simp)];exact RF.err (by decide) rfl
abbrev fVw(v:View)(i:Int):Int×Int×Int×List UInt8×Int×Int×Int×Int×List zf:=(i,0,0,v.Name,v.Eye.X,v.Eye.Y,v.Eye.Z_,v.Least,v.Targets)
theorem zE8{L:List (List UInt8)}(h:St l r)(hL:L.length≤60):RF l (zim L r) (JP l (zA l r) 0 0 L) fVw peH:=by
 unfold JP zim
 refine(oe h (m:=61) (by omega) (by omega)).bind (fun y e he hy=>?_) fun s r1 h1 hs1=>?_
 ·obtain⟨y1,y2,y3,y4⟩:=y;cases hy;have he:y3≠0:=he
  obtain⟨kk,hkk⟩:=ku;rw[hkk];simp only[jf he,zu he,zC he,kv he,bsQ];exact DD.some rfl
 refine(zci hs1).bind (fun y e he hy=>?_) fun eye r2 h2 hs2=>?_
 ·obtain⟨y1,y2,y3,y4⟩:=y;cases hy;have he:y2≠0:=he
  obtain⟨kk,hkk⟩:=ku;rw[hkk];simp only[jf he,zu he,zC he,kv he,bsQ];exact DD.some rfl
 refine(xK hs2 ow).bind (fun y e he hy=>?_) fun u r3 h3 hs3=>?_
 ·obtain⟨y1,y2,y3⟩:=y;cases hy;have he:y2≠0:=he
  obtain⟨kk,hkk⟩:=ku;rw[hkk];simp only[jf he,zu he,zC he,kv he,bsQ];exact DD.some rfl
 refine(yz hs3 0 20).bind (fun y e he hy=>?_) fun n r4 h4 hs4=>?_
 ·obtain⟨y1,y2,y3,y4⟩:=y;cases hy;have he:y3≠0:=he
  obtain⟨kk,hkk⟩:=ku;rw[hkk];simp only[jf he,zu he,zC he,kv he,bsQ];exact DD.some rfl
 refine(xK hs4 uK).bind (fun y e he hy=>?_) fun u r5 h5 hs5=>?_
 ·obtain⟨y1,y2,y3⟩:=y;cases hy;have he:y2≠0:=he
  obtain⟨kk,hkk⟩:=ku;rw[hkk];simp only[jf he,zu he,zC he,kv he,bsQ];exact DD.some rfl
 obtain⟨K,hK⟩:∃k,KK=k+1:=⟨KK-1,by have:=Ag;omega⟩
 have hq:=zce hs5;have hxx:=hs5.lt.2;dsimp only[fu3,fv4,fP3];rw[hK,xH];simp only[List.length_nil,show decide (((0:Nat):Int)=0)=true from rfl,show decide (((0:Nat):Int)=20)=false from rfl,ctQ,cf,bsQ];rw[Option.bind_assoc]
 obtain⟨K',hK'⟩:∃k,K=k+1:=⟨K-1,by omega⟩
 refine(zci hs5).bind (fun y e he hy=>?_) fun p r6 h6 hs6=>?_
 ·obtain⟨y1,y2,y3,y4⟩:=y;cases hy;have he:y2≠0:=he
  dsimp only;rw[zx (by simp),bsQ,hK',J3 he (by simp)];simp only[zu he,bsQ];exact DD.some rfl
 have q6:=(J1 hs5.wf h6).lt;dsimp only[fP3];rw[zx (by simp),bsQ]
 refine(zQ9 (r6.length+1) r6 [p] K hs6 (Nat.lt_succ_self _) (by omega) (by simp) (by simp)).bind (fun y e he hy=>?_) fun tl r7 h7 hs7=>?_
 ·obtain⟨y1,y2,y3,y4⟩:=y;cases hy;have he:y2≠0:=he
  simp only[zu he,bsQ];exact DD.some rfl
 exact(xK hs7 yi).bind (fun y e he hy=>DD.some hy) fun u r8 h8 hs8=>⟨rfl,hs8⟩
-- directions of the sun
theorem zRa:∀(n:Nat)(r r':List Token)(acc:List zf)(K:Nat),St l r→r.length<n→n<K→acc.length≤24→((acc=[]∧r'=r)∨(acc≠[]∧St l r'∧isB KB r'=true∧r=r'.tail)) →
  RF l (zA6 n acc r) (vi l K (zA l r',0,0,acc)) fH peH:=by
 intro n
 induction n with
 |zero=>intro r r' acc K hs hn;omega
 |succ n ih =>
  intro r r' acc K hs hn hK hacc hor
  obtain⟨K,rfl⟩:∃k,K=k+1:=⟨K-1,by omega⟩
  obtain⟨K',hK'⟩:∃k,K=k+1:=⟨K-1,by omega⟩
  rw[zA6,vi]
  have e1:((bif (decide (((acc.length:Nat):Int)=0))then some true else(yr l (zA l r') 0 0 KB).bind fun x2=>some x2))=some true:=by
   rcases hor with⟨rfl,_⟩|⟨hne,hs',hb,_⟩
   ·rfl
   ·rw[zmz hs',hb];cases decide (((acc.length:Nat):Int)=0)<;>rfl
  have e2:((bif (decide (((acc.length:Nat):Int)>0))then some (w64 (zA l r'+1))else some (zA l r')))=some (zA l r):=by
   rcases hor with⟨rfl,rfl⟩|⟨hne,hs',hb,rfl⟩
   ·rfl
   ·have:=List.length_pos_iff.2 hne
    rw[dt (show((acc.length:Nat):Int)>0 by omega),ctQ,hs'.step]
  dsimp only;rw[e1,bsQ,ctQ,e2,bsQ,zmz hs,ky hs];simp only[bsQ]
  have e3:((bif (decide (((acc.length:Nat):Int)=24))then(bif isB yT r then some true else some (Jk r))else some false))=some (decide (acc.length=24)&&(isB yT r||Jk r)):=by
   by_cases h24:acc.length=24
   ·rw[dt (show((acc.length:Nat):Int)=24 by omega),dt h24]
    cases isB yT r<;>rfl
   ·rw[df (show ¬((acc.length:Nat):Int)=24 by omega),df h24];rfl
  rw[e3,bsQ]
  cases hc:(isB yT r||Jk r)with
  |false =>
   have hx:=Jq hs 4096 (by omega)
   have h1:jO 4096 r=.error (YO r 14):=by
    simp only[Bool.or_eq_false_iff]at hc;unfold jO Ad;rw[hc.1,hc.2];rfl
   rw[h1]at hx;obtain⟨he,y,hy1,hy2⟩:=hx;rw[Bool.and_false,cf,bsQ];dsimp only;rw[hy1,bsQ];obtain⟨y1,y2,y3,y4⟩:=y;obtain rfl:y3=14:=congrArg Prod.snd hy2;obtain rfl:y4=(hdT r).Pos:=congrArg Prod.fst hy2
   have he':(14:Int)≠0:=by decide
   refine⟨he,?_⟩;simp only[xy he',zC he',bsQ];rw[zx (by simp only[la,lc,List.length_nil];omega),bsQ,hK',Aj he' (by simp)];exact DD.some rfl
  |true =>
   show RF l (thn (oa (decide (acc.length<24)) 6 r) _) _ _ _
   by_cases h24:acc.length<24
   ·rw[dt h24,df (show ¬acc.length=24 by omega),Bool.false_and,cf,bsQ]
    show RF l (thn (jO 4096 r) _) _ _ _
    refine(Jq hs 4096 (by omega)).bind (fun y e he hy=>?_) fun x r1 h1 hs1=>?_
    ·obtain⟨y1,y2,y3,y4⟩:=y;cases hy;have he:y3≠0:=he
     simp only[xy he,zC he,bsQ];rw[zx (by simp only[la,lc,List.length_nil];omega),bsQ,hK',Aj he (by simp)];exact DD.some rfl
    have q1:=(vS hs.wf h1).lt
    refine(Jq hs1 4096 (by omega)).bind (fun y e he hy=>?_) fun y r2 h2 hs2=>?_
    ·obtain⟨y1,y2,y3,y4⟩:=y;cases hy;have he:y3≠0:=he
     simp only[xy he,zC he,bsQ];rw[zx (by simp only[la,lc,List.length_nil];omega),bsQ,hK',Aj he (by simp)];exact DD.some rfl
    have q2:=(vS hs1.wf h2).lt
    refine(yz hs2 1 4096).bind (fun y e he hy=>?_) fun z r3 h3 hs3=>?_
    ·obtain⟨y1,y2,y3,y4⟩:=y;cases hy;have he:y3≠0:=he
     dsimp only;rw[zx (by simp only[la,lc,List.length_nil];omega),bsQ,hK',Aj he (by simp)];exact DD.some rfl
    have q3:=(wE hs2.wf h3).lt;dsimp only[fv4];rw[zx (by simp only[la,lc,List.length_nil];omega),bsQ]
    cases hb:isB KB r3 with
    |true =>
     rw[if_pos rfl];have:=JU hs3.wf;exact ih r3.tail r3 _ K (hs3.tail (zl hb)) (by omega) (by omega) (by simp only[la,lc,List.length_nil];omega) (.inr ⟨by simp,hs3,hb,rfl⟩)
    |false =>
     rw[if_neg (by simp),hK',vi];simp only[zmz hs3,hb,la,List.length_singleton,bsQ];rw[df (by omega)];exact⟨rfl,hs3⟩
   ·rw[df h24,dt (show acc.length=24 by omega),Bool.and_true,ctQ,jg hs]
    simp only[xy (show(6:Int)≠0 by decide),zC (show(6:Int)≠0 by decide),bsQ];rw[zx (by simp only[la,lc,List.length_nil];omega),bsQ,hK',Aj (show(6:Int)≠0 by decide) (by simp)];exact RF.err (by decide) rfl
theorem zLp(h:St l r):RF l (zA7 [] r) (WJ l (zA l r) 0 0) fv4 pe4:=by
 unfold WJ zA7;have h1:=h.lt;have h2:=h.len;have h3:=Ag
 refine(zRa (r.length+1) r r [] KK h (Nat.lt_succ_self _) (by omega) (by simp) (.inl ⟨rfl,rfl⟩)).bind (fun y e he hy=>?_) fun out r1 _ hs1=>?_
 ·obtain⟨y1,y2,y3,y4⟩:=y;cases hy;have he:y2≠0:=he
  simp only[zu he,bsQ];exact DD.some rfl
 exact(xK hs1 yi).bind (fun y e he hy=>by exact DD.some hy) fun u r2 h2 hs2=>⟨rfl,hs2⟩
end
end Go.Proofs.YtffencjoddkghaaGreatDoor
