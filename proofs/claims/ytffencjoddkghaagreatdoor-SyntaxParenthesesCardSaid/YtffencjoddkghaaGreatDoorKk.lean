/- texts that the proof of SyntaxPrints reaches, part 11 -/
import Derived.Test.YtffencjoddkghaaGreatDoorKj
set_option linter.all false
set_option maxRecDepth 100000
namespace Go.Proofs.YtffencjoddkghaaGreatDoor
open Go Go.RowKit Go.Eng Go.EV Go.EQ
variable[Fuel]
theorem yA{p:Prop}{i:Decidable p}(h:p):@grd p i=some ():=if_pos h
theorem wy{n:Int}(h0:-9223372036854775808≤n)(h1:n≤9223372036854775807):EV.w64 n=n:=zpd h0 h1
theorem zG5{α:Type}[Inhabited α]{l:List α}{i:Nat}(h:i<l.length):idx l (i:Int)=some (l.getD i default):=by
 unfold idx;rw[if_pos ⟨by omega,by omega⟩];rfl
theorem xP{α:Type}[Inhabited α]{l:List α}{i:Nat}{x:α}(h:l[i]?=some x):idx l (i:Int)=some x:=by
 obtain⟨h1,h2⟩:=List.getElem?_eq_some_iff.1 h;rw[zG5 h1,List.getD_eq_getElem?_getD,h];rfl
theorem zAe{α:Type}{l:List α}{a b:Nat}(h1:a≤b)(h2:b≤l.length):cut l (a:Int) (b:Int)=some ((l.take b).drop a):=by
 unfold cut;rw[if_pos ⟨by omega,by omega,by omega⟩];rfl
theorem zcm{α:Type}{l:List α}{a:Nat}(h1:a≤l.length):cut l (a:Int) (l.length:Int)=some (l.drop a):=by
 rw[zAe h1 (Nat.le_refl _),List.take_length]
theorem kN{n:Nat}(h:n<9223372036854775807):w64 ((n:Int)+1)=((n+1:Nat):Int):=by rw[wy (by omega) (by omega)];rfl
theorem jx{n:Nat}(h:n<18446744073709551616):n<KK:=Nat.lt_of_lt_of_le h Fuel.big
theorem xD{α:Type}{l:List α}{i:Nat}{x:α}{r:List α}(h:l.drop i=x::r):l[i]?=some x∧l.drop (i+1)=r∧i<l.length:=by
 have h0:l[i]?=some x:=by
  have:=List.getElem?_drop (xs:=l) (i:=i) (j:=0);rw[h]at this;simpa using this.symm
 refine⟨h0,?_,(List.getElem?_eq_some_iff.1 h0).1⟩;rw[← List.drop_drop,h];rfl
theorem drop_nil{α:Type}{l:List α}{i:Nat}(h:l.drop i=[])(hi:i≤l.length):i=l.length:=by
 have:=congrArg List.length h;simp at this;omega
-- bytes
def wR(c:UInt8):Bool:=decide (97≤c.toNat)&&decide (c.toNat≤122)
def yG(c:UInt8):Bool:=decide (48≤c.toNat)&&decide (c.toNat≤57)
def zZ(c:UInt8):Bool:=decide (c.toNat=32)||(decide (c.toNat=9)||decide (c.toNat=10))
def yH(c:UInt8):Bool:=wR c||yG c
theorem zs5(a b:Bool):(bif a then some b else some false)=some (a&&b):=by cases a<;>rfl
theorem zlu(a b:Bool):(bif a then some true else some b)=some (a||b):=by cases a<;>rfl
theorem xn{p q:Prop}{i:Decidable p}{j:Decidable q}(h:p↔q):@decide p i=@decide q j:=by
 by_cases hq:q
 ·rw[dt hq,dt (h.2 hq)]
 ·rw[df hq,df (fun hp=>hq (h.1 hp))]
theorem zAf(n m:Nat){a:Int}(h:a=(m:Int)):decide ((n:Int)≥a)=decide (m≤n):=xn (by omega)
theorem zlv(n m:Nat){a:Int}(h:a=(m:Int)):decide ((n:Int)≤a)=decide (n≤m):=xn (by omega)
theorem zs6(n m:Nat){a:Int}(h:a=(m:Int)):decide ((n:Int)=a)=decide (n=m):=xn (by omega)
theorem zcn(c:UInt8):vD ((c.toNat:Nat):Int)=some (wR c):=by
 unfold vD;rw[zs5,wR,zAf _ 97 (a:=97) rfl,zlv _ 122 (a:=122) rfl]
theorem zjf(c:UInt8):jm ((c.toNat:Nat):Int)=some (yG c):=by
 unfold jm;rw[zs5,yG,zAf _ 48 (a:=48) rfl,zlv _ 57 (a:=57) rfl]
theorem zDn(c:UInt8):oK ((c.toNat:Nat):Int)=some (zZ c):=by
 unfold oK;rw[zlu,zlu,zZ,zs6 _ 32 (a:=32) rfl,zs6 _ 9 (a:=9) rfl,zs6 _ 10 (a:=10) rfl]
theorem zs7(c:UInt8):j4 ((c.toNat:Nat):Int)=some (yH c):=by
 unfold j4;rw[zcn,bsQ,zjf,bsQ,zlu,yH]
-- runs of bytes
theorem Q5(l:List UInt8)(f:UInt8→Bool)(G:UInt8→Option Bool)(F:Nat→Int→Option Int)(hG:∀b,G b=some (f b))
  (hF:∀K q,F (K+1) q=((bif (decide (q<((List.length l:Nat):Int)))then(idx l q).bind G else some false)).bind fun x1=>(bif x1 then F K (w64 (q+1))else some q)) (hl:l.length<4611686018427387904):
  ∀(r:List UInt8)(i K:Nat),l.drop i=r→i≤l.length→r.length<K→F K (i:Int)=some ((i+(r.takeWhile f).length:Nat):Int):=by
 intro r
 induction r with
 |nil =>
  intro i K hr hi hK
  obtain⟨K,rfl⟩:∃k,K=k+1:=⟨K-1,by omega⟩
  have:=drop_nil hr hi;rw[hF,df (by omega)];simp
 |cons c r ih =>
  intro i K hr hi hK
  obtain⟨K,rfl⟩:∃k,K=k+1:=⟨K-1,by omega⟩
  obtain⟨h1,h2,h3⟩:=xD hr;simp only[lc]at hK;rw[hF,dt (by omega),ctQ,xP h1,bsQ,hG,bsQ]
  cases hc:f c with
  |false=>simp[List.takeWhile,hc]
  |true =>
   rw[ctQ,kN (by omega),ih (i+1) K h2 (by omega) (by omega)];simp only[List.takeWhile,hc,lc]
   congr 2;omega
def xQ(f:UInt8→Bool)(l:List UInt8):Nat:=(l.takeWhile f).length
theorem qb(f:UInt8→Bool)(l:List UInt8):xQ f l≤l.length:=(List.takeWhile_sublist _).length_le
theorem zco{α:Type}(o:Option α):(o.bind fun x=>some x)=o:=by cases o<;>rfl
theorem zG6{s:List UInt8}(h:s.length<4611686018427387904):QV s=some ((xQ zZ s:Nat):Int):=by
 unfold QV;rw[zco,show((0:Int))=((0:Nat):Int) from rfl,Q5 s zZ (fun x2=>(oK ((x2.toNat:Nat):Int)).bind fun x3=>some x3) (uE s) (fun b=>by rw[zDn];rfl) (fun K q=>rfl) h s 0 KK rfl (by omega) (jx (by omega))];simp[xQ]
theorem zDo{s:List UInt8}(h:s.length<4611686018427387904):Am s=some ((xQ yH s:Nat):Int):=by
 unfold Am;rw[zco,show((0:Int))=((0:Nat):Int) from rfl,Q5 s yH (fun x2=>(Al ((x2.toNat:Nat):Int)).bind fun x3=>some x3) (jI s) (fun b=>by rw[show Al=j4 from rfl,zs7];rfl) (fun K q=>rfl) h s 0 KK rfl (by omega) (jx (by omega))];simp[xQ]
theorem zDp{s:List UInt8}(h:s.length<4611686018427387904):An s=some ((xQ yH s:Nat):Int):=by
 unfold An;rw[zco,show((0:Int))=((0:Nat):Int) from rfl,Q5 s yH (fun x2=>(j4 ((x2.toNat:Nat):Int)).bind fun x3=>some x3) (jJ s) (fun b=>by rw[zs7];rfl) (fun K q=>rfl) h s 0 KK rfl (by omega) (jx (by omega))];simp[xQ]
theorem zs8{s:List UInt8}(h:s.length<4611686018427387904):qL s=some ((xQ yG s:Nat):Int):=by
 unfold qL;rw[zco,show((0:Int))=((0:Nat):Int) from rfl,Q5 s yG (fun x2=>(jm ((x2.toNat:Nat):Int)).bind fun x3=>some x3) (jK s) (fun b=>by rw[zjf];rfl) (fun K q=>rfl) h s 0 KK rfl (by omega) (jx (by omega))];simp[xQ]
theorem zlw{f:UInt8→Bool}{l:List UInt8}:xQ f l=l.length↔l.all f=true:=by
 induction l with
 |nil=>simp[xQ]
 |cons c l ih =>
  simp only[xQ,List.takeWhile,List.all_cons]at ih ⊢
  cases f c with
  |false=>simp
  |true=>simp only[lc,Bool.true_and,← ih];omega
-- words
def QB(s:List UInt8):Bool:=match s with
 |[]=>false
 |c::r=>wR c&&(decide (s.length≤20)&&r.all yH)
theorem zAg{s:List UInt8}(h:s.length<4611686018427387904):Jn s=some (QB s):=by
 unfold Jn
 cases s with
 |nil=>rfl
 |cons c r =>
  rw[df (by simp),cf,show((0:Int))=((0:Nat):Int) from rfl,xP (x:=c) rfl,bsQ,zcn,bsQ,zlu,bsQ,zDp h,bsQ]
  have e:decide ((xQ yH (c::r):Int)=(((c::r).length:Nat):Int))=(yH c&&r.all yH):=by
   rw[← List.all_cons,Bool.eq_iff_iff,decide_eq_true_iff,← zlw];omega
  rw[e,QB]
  cases hc:wR c with
  |false=>simp
  |true =>
   have:yH c=true:=by rw[yH,hc];rfl
   rw[this];by_cases h20:(c::r).length≤20
   ·rw[dt h20,df (by omega)];simp
   ·rw[df h20,dt (by omega)];simp
def RES:List (List UInt8):=[zsa,zbn,zez,zn3,QT,wx,QU,zk2,zbo,J7,Jk,zIk,VP,jh,zGa,ji,zbq,VQ,VR,zn4,xb,jj,zbr,zk3,zk4,Y5,xU]
def wu(s:List UInt8):Bool:=QB s&&!(decide (s∈RES))
def zjg:List (List UInt8)→List UInt8
 |[]=>[32]
 |w::r=>32::(w++zjg r)
theorem zxm:∀l,∃t,zjg l=32::t
 |[]=>⟨[],rfl⟩
 |w::r=>⟨_,rfl⟩
theorem zAh{t:List UInt8}:∀{s w:List UInt8},(∀b∈s,b≠32)→(∀b∈w,b≠32)→(s++[32]).isPrefixOf (w++32::t)=decide (s=w)
 |[],[],_,_=>by simp[List.isPrefixOf]
 |[],b::w,_,h=>by
  have:=h b (List.mem_cons_self ..);simp[List.isPrefixOf,Ne.symm this]
 |a::s,[],h,_=>by
  have:=h a (List.mem_cons_self ..);simp[List.isPrefixOf,this]
 |a::s,b::w,h,h'=>by
  have ih:=zAh (t:=t) (s:=s) (w:=w) (fun x hx=>h x (mcQ _ hx)) (fun x hx=>h' x (mcQ _ hx));simp only[List.cons_append,List.isPrefixOf,ih];by_cases e:a=b
  ·subst e;simp
  ·simp[e]
theorem zlx{x y:List UInt8}:∀{w:List UInt8},(∀b∈w,b≠32)→oE (w++x) (32::y)=oE x (32::y)
 |[],_=>rfl
 |b::w,h=>by
  have h1:=h b (List.mem_cons_self ..);rw[List.cons_append,oE,zlx fun c hc=>h c (mcQ _ hc)];simp[List.isPrefixOf,Ne.symm h1]
theorem zgg{s:List UInt8}(hs:∀b∈s,b≠32):∀{l:List (List UInt8)},(∀w∈l,∀b∈w,b≠32)→oE (zjg l) (32::(s++[32]))=decide (s∈l)
 |[],_=>by cases s<;>simp[zjg,oE,List.isPrefixOf]
 |w::r,h=>by
  obtain⟨t,ht⟩:=zxm r;have hw:=h w (List.mem_cons_self ..);rw[zjg,oE,zlx hw,zgg hs fun x hx=>h x (mcQ _ hx)]
  have:(32::(s++[32])).isPrefixOf (32::(w++zjg r))=decide (s=w):=by
   rw[ht];simp only[List.isPrefixOf,beq_self_eq_true,Bool.true_and];exact zAh hs hw
  rw[this];by_cases e:s=w
  ·simp[e]
  ·simp[e]
theorem zxn{c:UInt8}(h:yH c=true):c≠32:=by
 rintro rfl;revert h;decide
theorem ZS{s:List UInt8}(h:QB s=true):s.all yH=true:=by
 cases s with
 |nil=>cases h
 |cons c r =>
  simp only[QB,bn]at h;simp only[List.all_cons,yH,h.1,Bool.true_or,Bool.true_and];exact h.2.2
theorem zly{s:List UInt8}(h:QB s=true):s.length≤20∧s≠[]:=by
 cases s with
 |nil=>cases h
 |cons c r =>
  simp only[QB,bn,decide_eq_true_eq]at h;exact⟨h.2.1,by simp⟩
theorem yB{s:List UInt8}(h:s.length<4611686018427387904):AL s=some (wu s):=by
 unfold AL wu;rw[zAg h,bsQ]
 cases hw:QB s with
 |false=>rfl
 |true =>
  have h20:=(zly hw).1
  have hs:∀b∈s,b≠32:=fun b hb=>zxn (List.all_eq_true.1 (ZS hw) b hb)
  have e:=zgg hs (l:=RES) (by decide)
  have e2:zjg RES=zg:=by decide
  rw[e2]at e;rw[ctQ,yA (by simp[t__];omega),bsQ,yA (by simp[t__];omega),bsQ]
  have:Ap zg ((t__++s)++t__)=some (decide (s∈RES)):=by
   unfold Ap Aj;rw[yA (by decide),bsQ,← e];rfl
  rw[this];rfl
def zoo(c:UInt8):Nat:=c.toNat-48
def KN:List UInt8→Nat→Nat
 |[],n=>n
 |c::r,n=>KN r (10*n+zoo c)
def Hz(n:Nat)(r:List UInt8):Nat:=KN r n
theorem KO(n:Nat)(c:UInt8)(r:List UInt8):Hz n (c::r)=Hz (10*n+zoo c) r:=by simp only[Hz,KN]
def zAi(s:List UInt8):Option Nat:=if s.all yG=true∧s≠[]∧(s.head?=some 48→s=[48])∧Hz 0 s≤1099511627776 then some (Hz 0 s)else none
def numR(s:List UInt8):Int×Bool:=match zAi s with
 |some v=>((v:Int),true)
 |none=>(0,false)
theorem zs9:∀(r:List UInt8)(n:Nat),n*10 ^ r.length≤Hz n r
 |[],n=>by simp[Hz,KN]
 |c::r,n=>by
  have:=zs9 r (10*n+zoo c);rw[KO];refine Nat.le_trans ?_ this;rw[lc,Nat.pow_succ,Nat.mul_comm (10 ^ r.length) 10,← Nat.mul_assoc];exact Nat.mul_le_mul_right _ (by omega)
theorem zcp{c:UInt8}(h:yG c=true):48≤c.toNat∧c.toNat≤57:=by
 simp only[yG,bn,decide_eq_true_eq]at h;exact h
theorem zDq(s:List UInt8)(hl:s.length≤13):∀(r:List UInt8)(i K n:Nat),s.drop i=r→i≤s.length→r.length<K→r.all yG=true→n<10 ^ i→wh s (s.length:Int) K ((n:Int),(i:Int))=some ((Hz n r:Nat):Int):=by
 intro r
 induction r with
 |nil =>
  intro i K n hr hi hK hd hn
  obtain⟨K,rfl⟩:∃k,K=k+1:=⟨K-1,by omega⟩
  have:=drop_nil hr hi;rw[wh,df (show ¬((i:Int)<(s.length:Int)) by omega)];rfl
 |cons c r ih =>
  intro i K n hr hi hK hd hn
  obtain⟨K,rfl⟩:∃k,K=k+1:=⟨K-1,by omega⟩
  obtain⟨h1,h2,h3⟩:=xD hr;simp only[lc]at hK;simp only[List.all_cons,bn]at hd;have hc:=zcp hd.1;have h13:10 ^ i≤10 ^ 12:=Nat.pow_le_pow_right (by omega) (by omega)
  have h13':(10:Nat) ^ 12=1000000000000:=by decide
  have hw:IntKind.u8.wrap (((c.toNat:Nat):Int)-48)=((zoo c:Nat):Int):=by
   unfold IntKind.wrap zoo;simp only[IntKind.bits,IntKind.signed];simp;omega
  have hdv:zoo c≤9:=by unfold zoo;omega
  rw[wh,dt (show((i:Int)<(s.length:Int)) by omega),ctQ,xP h1,bsQ,hw];simp only
  rw[wy (n:=10*(n:Int)) (by omega) (by omega),wy (n:=((zoo c:Nat):Int)) (by omega) (by omega),wy (by omega) (by omega),kN (by omega),
   show(10*(n:Int)+((zoo c:Nat):Int))=((10*n+zoo c:Nat):Int) by omega]
  rw[ih (i+1) K _ h2 (by omega) (by omega) hd.2 (by rw[Nat.pow_succ];omega),KO]
theorem zxo{s:List UInt8}(h:s.length<4611686018427387904):Ao s=some (numR s):=by
 unfold Ao numR zAi
 cases s with
 |nil=>rfl
 |cons c r =>
  have e1:decide ((c::r)=([]:List UInt8))=false:=by simp
  have e2:decide (((xQ yG (c::r):Nat):Int)=(((c::r).length:Nat):Int))=(c::r).all yG:=by
   rw[Bool.eq_iff_iff,decide_eq_true_iff,← zlw];omega
  rw[e1,cf,zs8 h,bsQ,e2]
  cases hd:(c::r).all yG with
  |false=>simp[hd]
  |true =>
   have e3:decide (((c.toNat:Nat):Int)=48)=decide (c=48):=xn ⟨fun h=>UInt8.toNat_inj.1 (by simpa using(by omega:c.toNat=48)),fun h=>by subst h;rfl⟩;rw[Bool.not_true,cf,show(0:Int)=((0:Nat):Int) from rfl,xP (x:=c) rfl,bsQ,e3];by_cases h48:c=48∧r≠[]
   ·obtain⟨rfl,hr⟩:=h48
    have:decide ((48::r)=t_0)=false:=df (by simp[t_0,hr]);rw[this];simp[hd,hr]
   ·have hv:((c::r).head?=some 48→(c::r)=[48]):=fun e=>by
     simp at e;subst e
     have:r=[]:=Classical.byContradiction fun hr=>h48 ⟨rfl,hr⟩
     rw[this]
    have e4:(bif decide (c=48)then(bif (!(decide ((c::r)=t_0)))then some true else some (decide ((((c::r).length:Nat):Int)>13)))else some (decide ((((c::r).length:Nat):Int)>13)))=some (decide (13<(c::r).length)):=by
     have e5:decide ((((c::r).length:Nat):Int)>13)=decide (13<(c::r).length):=xn (by omega);rw[e5];by_cases hc:c=48
     ·subst hc
      have:=hv rfl;rw[this];rfl
     ·rw[df hc,cf]
    rw[e4,bsQ];by_cases h13:13<(c::r).length
    ·rw[dt h13,ctQ]
     have hc:=zcp (c:=c) (by simp only[List.all_cons,bn]at hd;exact hd.1)
     have hc2:c≠48:=fun e=>by
      subst e;rw[hv rfl]at h13;simp at h13
     have hc3:c.toNat≠48:=fun e=>hc2 (UInt8.toNat_inj.1 (by simpa using e))
     have hg:1099511627776<Hz 0 (c::r):=by
      rw[KO];refine Nat.lt_of_lt_of_le ?_ (zs9 r _);simp only[lc]at h13;have h1:10 ^ 13≤10 ^ r.length:=Nat.pow_le_pow_right (by omega) (by omega)
      have h2:1≤10*0+zoo c:=by unfold zoo;omega
      have h3:=Nat.mul_le_mul h2 h1
      have h4:(10:Nat) ^ 13=10000000000000:=by decide
      omega
     rw[if_neg (fun hh=>by omega)]
    ·rw[df h13,cf,show((0:Nat):Int)=((0:Nat):Int) from rfl,zDq (c::r) (by omega) (c::r) 0 KK 0 rfl (by omega) (jx (by omega)) hd (by omega),bsQ]
     have e6:decide (((Hz 0 (c::r):Nat):Int)>1099511627776)=!decide (Hz 0 (c::r)≤1099511627776):=by
      rw[← decide_not];exact xn (by omega)
     rw[e6];by_cases hg:Hz 0 (c::r)≤1099511627776
     ·rw[if_pos ⟨rfl,by simp,hv,hg⟩,dt hg];rfl
     ·rw[if_neg (fun hh=>hg hh.2.2.2),df hg];rfl
def SG:List (List UInt8):=[vU,vV,wC,zbs,Jm,Yp,Yo,Ym,xA,Yl,Yn,Yk,wB,xL]
def zgh(s:List UInt8):Option (List UInt8):=SG.find? fun x=>x.isPrefixOf s
def tkS(s:List UInt8):Except Int (Int×List UInt8×Int):=match s with
 |[]=>.error 13
 |c::_=>if wR c then(if(s.takeWhile yH).length≤20 then .ok (0,s.takeWhile yH,0)else .error 15)
  else if yG c then(match zAi (s.takeWhile yG)with|some v=>.ok (1,s.takeWhile yG,(v:Int))|none=>.error 3)
  else match zgh s with|some t=>.ok (2,t,0)|none=>.error 13
def tokR:Except Int (Int×List UInt8×Int)→Int×Int×List UInt8×Int×Int
 |.ok (k,t,n)=>(0,k,t,n,0)
 |.error e=>(e,0,[],0,0)
theorem WM(f:UInt8→Bool)(s:List UInt8):s.take (xQ f s)=s.takeWhile f:=by
 induction s with
 |nil=>rfl
 |cons c s ih =>
  simp only[xQ,List.takeWhile]at ih ⊢
  cases f c with
  |false=>rfl
  |true=>simp only[lc,List.take_succ_cons,ih]
theorem JG(f:UInt8→Bool)(s:List UInt8):s.drop (xQ f s)=s.dropWhile f:=by
 induction s with
 |nil=>rfl
 |cons c s ih =>
  simp only[xQ,List.takeWhile,List.dropWhile]at ih ⊢
  cases f c with
  |false=>rfl
  |true=>simp only[lc,List.drop_succ_cons,ih]
theorem zxp(f:UInt8→Bool)(s:List UInt8):(s.takeWhile f).all f=true:=by
 induction s with
 |nil=>rfl
 |cons c s ih =>
  simp only[List.takeWhile]
  cases h:f c with
  |false=>rfl
  |true=>simp[h,ih]
theorem zta{c:UInt8}{r:List UInt8}(hc:wR c=true):QB ((c::r).takeWhile yH)=decide (((c::r).takeWhile yH).length≤20):=by
 have h:=zxp yH (c::r)
 have ha:yH c=true:=by rw[yH,hc];rfl
 simp only[List.takeWhile,ha]at h ⊢;simp only[List.all_cons,ha,Bool.true_and]at h;rw[QB,hc,h];simp
theorem zG7(s:List UInt8):∀(r:List (List UInt8))(i K:Nat),SG.drop i=r→i≤14→r.length<K→vE s vU vV wC zbs Jm Yp Yo Ym xA Yl Yn Yk wB xL 0 ([]:List UInt8) K (i:Int)=some (match r.find? fun x=>x.isPrefixOf s with|some t=>.inl (0,2,t,0,0)|none=>.inr ()):=by
 intro r
 induction r with
 |nil =>
  intro i K hr hi hK
  obtain⟨K,rfl⟩:∃k,K=k+1:=⟨K-1,by omega⟩
  have:=drop_nil hr hi;have:i=14:=this;rw[vE,df (by omega)];rfl
 |cons c r ih =>
  intro i K hr hi hK
  obtain⟨K,rfl⟩:∃k,K=k+1:=⟨K-1,by omega⟩
  obtain⟨h1,h2,h3⟩:=xD hr;have h3:i<14:=h3;simp only[lc]at hK;have hx:idx (α:=List UInt8) ([vU,vV,wC,zbs,Jm,Yp,Yo,Ym,xA,Yl,Yn,Yk,wB,xL]:List (List UInt8)) (i:Int)=some c:=xP h1;rw[vE,dt (by omega),ctQ,hx,bsQ,show A1 s c=some (c.isPrefixOf s) from rfl,bsQ,List.find?_cons]
  cases c.isPrefixOf s with
  |true=>rfl
  |false=>rw[cf,kN (by omega),ih (i+1) K h2 (by omega) (by omega)]
theorem zxq{c:UInt8}{r:List UInt8}:idx (c::r) 0=some c:=xP (i:=0) rfl
theorem zlz{α:Type}{l:List α}{b:Nat}(h:b≤l.length):cut l 0 (b:Int)=some (l.take b):=zAe (a:=0) (Nat.zero_le _) h
theorem wI(c:UInt8)(r:List UInt8):tkS (c::r)=(if wR c then(if((c::r).takeWhile yH).length≤20 then .ok (0,(c::r).takeWhile yH,0)else .error 15)
  else if yG c then(match zAi ((c::r).takeWhile yG)with|some v=>.ok (1,(c::r).takeWhile yG,(v:Int))|none=>.error 3)
  else match zgh (c::r)with|some t=>.ok (2,t,0)|none=>.error 13):=rfl
theorem zG8{s:List UInt8}(h:s.length<4611686018427387904)(h0:s≠[]):QW s=some (tokR (tkS s)):=by
 cases s with
 |nil=>exact absurd rfl h0
 |cons c r =>
  unfold QW;rw[wI,zxq,bsQ,zcn,bsQ]
  cases hc:wR c with
  |true =>
   rw[ctQ,zDo h,bsQ,zlz (qb _ _),bsQ,WM];have ht:((c::r).takeWhile yH).length<4611686018427387904:=Nat.lt_of_le_of_lt (qb yH _) h;rw[zAg ht,bsQ,zta hc,if_pos rfl];by_cases h20:((c::r).takeWhile yH).length≤20
   ·rw[dt h20,if_pos h20];rfl
   ·rw[df h20,if_neg h20];rfl
  |false =>
   rw[cf,bsQ,zjf,bsQ,if_neg (by simp)]
   cases hd:yG c with
   |true =>
    rw[ctQ,zs8 h,bsQ,zlz (qb _ _),bsQ,WM];have ht:((c::r).takeWhile yG).length<4611686018427387904:=Nat.lt_of_le_of_lt (qb yG _) h;rw[zxo ht,bsQ,numR,if_pos rfl]
    cases zAi ((c::r).takeWhile yG)with
    |none=>rfl
    |some v=>rfl
   |false =>
    rw[cf,if_neg (by simp)];have:=zG7 (c::r) SG 0 KK rfl (by omega) (jx (by decide));rw[show(((0:Nat):Int))=(0:Int) from rfl]at this;rw[this,zgh]
    cases SG.find? fun x=>x.isPrefixOf (c::r)with
    |none=>rfl
    |some t=>rfl
-- the reference
def ONE:List UInt8:=z7
theorem SG_hd:∀x∈SG,∃a t,x=a::t∧a∈ONE:=by
 intro x hx;simp only[SG,List.mem_cons,List.mem_nil_iff,or_false]at hx
 rcases hx with rfl|rfl|rfl|rfl|rfl|rfl|rfl|rfl|rfl|rfl|rfl|rfl|rfl|rfl<;>exact⟨_,_,rfl,by decide⟩
theorem ZT{c:UInt8}{r:List UInt8}(h:c ∉ ONE):zgh (c::r)=none:=by
 rw[zgh,List.find?_eq_none];intro x hx hp;obtain⟨a,t,rfl,ha⟩:=SG_hd x hx;simp only[List.isPrefixOf,bn,beq_iff_eq]at hp;exact h (hp.1▸ha)
theorem zl0{c:UInt8}{r:List UInt8}:zgh (c::r)=if r.head?=some 61∧(c=60∨c=61)then some [c,61]else if c∈ONE then some [c]else none:=by
 by_cases h:c∈ONE
 ·rw[if_pos h]
  simp only[ONE,z7,List.mem_cons,List.mem_nil_iff,or_false]at h
  cases r with
  |nil=>rcases h with rfl|rfl|rfl|rfl|rfl|rfl|rfl|rfl|rfl|rfl|rfl|rfl<;>rfl
  |cons d r =>
   by_cases hd:d=61
   ·subst hd
    rcases h with rfl|rfl|rfl|rfl|rfl|rfl|rfl|rfl|rfl|rfl|rfl|rfl<;>simp[zgh,SG,List.find?,List.isPrefixOf,vU,vV,wC,zbs,Jm,Yp,Yo,Ym,xA,Yl,Yn,Yk,wB,xL]
   ·have hd2:((61:UInt8)==d)=false:=by simp[Ne.symm hd]
    rcases h with rfl|rfl|rfl|rfl|rfl|rfl|rfl|rfl|rfl|rfl|rfl|rfl<;>simp[zgh,SG,List.find?,List.isPrefixOf,vU,vV,wC,zbs,Jm,Yp,Yo,Ym,xA,Yl,Yn,Yk,wB,xL,hd,hd2]
 ·rw[ZT h,if_neg (fun hh=>h (by rcases hh.2 with rfl|rfl<;>decide)),if_neg h]
theorem takeWhile_cons{f:UInt8→Bool}{c:UInt8}{r:List UInt8}(h:f c=true):(c::r).takeWhile f=c::r.takeWhile f:=by simp[List.takeWhile,h]
def wb(p:Nat):Token:=Token.mk 3 [] 0 (p:Int)
def QC:Nat→Nat→List UInt8→Except (Nat×Int) (List Token)
 |0,p,_=>.ok [wb p]
 |n+1,p,s=>match s.dropWhile zZ with
  |[]=>.ok [wb (p+xQ zZ s)]
  |c::r=>match tkS (c::r)with
   |.error e=>.error (p+xQ zZ s,e)
   |.ok (k,t,v)=>match QC n (p+xQ zZ s+t.length) ((c::r).drop t.length)with
    |.error e=>.error e
    |.ok l=>.ok (Token.mk k t v ((p+xQ zZ s:Nat):Int)::l)
def zDr(s:List UInt8):Except (Nat×Int) (List Token):=QC (s.length+1) 0 s
def zIm:Except (Nat×Int) (List Token)→List Token×Int×Int
 |.ok l=>(l,0,0)
 |.error (p,e)=>([],(p:Int),e)
theorem zcq{s t:List UInt8}{k n:Int}(h:tkS s=.ok (k,t,n)):t≠[]∧t=s.take t.length∧t.length≤s.length:=by
 have fin:∀{c:UInt8}{r:List UInt8}{f:UInt8→Bool},f c=true→(c::r).takeWhile f≠[]∧(c::r).takeWhile f=(c::r).take ((c::r).takeWhile f).length∧((c::r).takeWhile f).length≤(c::r).length:=fun{c r f} hc=>by
  refine⟨by simp[takeWhile_cons hc],?_,qb f _⟩;exact(WM f (c::r)).symm
 cases s with
 |nil=>cases h
 |cons c r =>
  rw[wI]at h;split at h
  ·rename_i hc
   split at h
   ·cases h
    exact fin (by rw[yH,hc];rfl)
   ·cases h
  ·split at h
   ·rename_i hd
    split at h
    ·cases h;exact fin hd
    ·cases h
   ·split at h
    ·rename_i hs
     cases h;rw[zl0]at hs;split at hs
     ·rename_i hh
      cases hs
      cases r with
      |nil=>simp at hh
      |cons d r =>
       have:d=61:=by simpa using hh.1
       subst this;exact⟨by simp,rfl,by simp⟩
     ·split at hs
      ·cases hs;exact⟨by simp,rfl,by simp⟩
      ·cases hs
    ·cases h
theorem zl1{s:List UInt8}{e:Int}(h:tkS s=.error e):e≠0:=by
 cases s with
 |nil=>cases h;decide
 |cons c r =>
  rw[wI]at h;split at h
  ·split at h
   ·cases h
   ·cases h;decide
  ·split at h
   ·split at h
    ·cases h
    ·cases h;decide
   ·split at h
    ·cases h
    ·cases h;decide
theorem zDs(s0:List UInt8)(hs:s0.length≤8000):∀(n i K:Nat)(out:List Token),i≤s0.length→s0.length-i<n→n≤K→out.length≤i→j5 s0 K ((i:Int),out)=some (.inl (match QC n i (s0.drop i)with|.ok l=>(out++l,0,0)|.error (p,e)=>([],(p:Int),e))):=by
 intro n
 induction n with
 |zero=>intro i K out hi hn;omega
 |succ n ih =>
  intro i K out hi hn hK ho
  obtain⟨K,rfl⟩:∃k,K=k+1:=⟨K-1,by omega⟩
  have hl:(s0.drop i).length=s0.length-i:=List.length_drop;have hsp:=qb zZ (s0.drop i)
  have e1:w64 ((i:Int)+((xQ zZ (s0.drop i):Nat):Int))=((i+xQ zZ (s0.drop i):Nat):Int):=by rw[wy (by omega) (by omega)];rfl
  rw[j5,QC];simp only;rw[zcm hi,bsQ,zG6 (by omega),bsQ,e1]
  cases hd:(s0.drop i).dropWhile zZ with
  |nil =>
   have h1:=JG zZ (s0.drop i);rw[hd]at h1;have h2:=drop_nil h1 (qb _ _);rw[dt (by omega),ctQ,yA (by simp only[la,lc,List.length_nil];omega),bsQ];rfl
  |cons c r =>
   have h1:=JG zZ (s0.drop i);rw[hd,List.drop_drop]at h1;obtain⟨g1,g2,g3⟩:=xD h1;rw[df (by omega),cf,zcm (by omega),bsQ,h1,zG8 (by rw[← h1,List.length_drop];omega) (by simp),bsQ];dsimp only
   cases ht:tkS (c::r)with
   |error e =>
    have he:=zl1 ht;simp only[tokR,he,decide_false,Bool.not_false,ctQ]
   |ok x =>
    obtain⟨k,t,v⟩:=x;obtain⟨t1,t2,t3⟩:=zcq ht;have t4:0<t.length:=List.length_pos_iff.2 t1;have t5:=congrArg List.length h1;simp only[List.length_drop]at t5;change (bif (!(decide ((0:Int)=0)))then some _ else(grd (List.length (out++([(Token.mk k t v (((i+xQ zZ (s0.drop i):Nat):Int)))]:List Token))*40≤140737488355328)).bind fun _=>j5 s0 K (w64 (((i+xQ zZ (s0.drop i):Nat):Int)+((t.length:Nat):Int)),out++([(Token.mk k t v (((i+xQ zZ (s0.drop i):Nat):Int)))]:List Token)))=_;rw[dt rfl,Bool.not_true,cf,yA (by simp only[la,lc,List.length_nil];omega),bsQ]
    have e2:w64 (((i+xQ zZ (s0.drop i):Nat):Int)+((t.length:Nat):Int))=((i+xQ zZ (s0.drop i)+t.length:Nat):Int):=by rw[wy (by omega) (by omega)];rfl
    rw[e2,ih (i+xQ zZ (s0.drop i)+t.length) K _ (by omega) (by omega) (by omega) (by simp only[la,lc,List.length_nil];omega),← List.drop_drop,h1];dsimp only
    cases hx:QC n (i+xQ zZ (s0.drop i)+t.length) ((c::r).drop t.length)with
    |error e=>rfl
    |ok l=>simp
theorem zG9{s:List UInt8}(h:s.length≤8000):oL s=some (zIm (zDr s)):=by
 unfold oL;have:=zDs s h (s.length+1) 0 KK [] (by omega) (by omega) (by have:=jx (n:=s.length) (by omega);omega) (by simp);rw[show(((0:Nat):Int))=(0:Int) from rfl]at this;rw[df (by omega),cf,this,List.drop_zero,zDr]
 cases QC (s.length+1) 0 s with
 |error e=>rfl
 |ok l=>rfl
theorem zop{c:UInt8}{r:List UInt8}(hc:zZ c=true)(n p:Nat):QC (n+1) p (c::r)=QC (n+1) (p+1) r:=by
 have e1:(c::r).dropWhile zZ=r.dropWhile zZ:=by simp[List.dropWhile,hc]
 have e2:p+xQ zZ (c::r)=p+1+xQ zZ r:=by simp only[xQ,takeWhile_cons hc,lc];omega
 rw[QC,QC,e1,e2]
theorem ztb{c:UInt8}{r:List UInt8}(hc:zZ c=false)(n p:Nat):QC (n+1) p (c::r)=match tkS (c::r)with
   |.error e=>.error (p,e)
   |.ok (k,t,v)=>match QC n (p+t.length) ((c::r).drop t.length)with
    |.error e=>.error e
    |.ok l=>.ok (Token.mk k t v (p:Int)::l):=by
 have e1:(c::r).dropWhile zZ=c::r:=by simp[List.dropWhile,hc]
 have e2:xQ zZ (c::r)=0:=by simp[xQ,List.takeWhile,hc]
 rw[QC,e1,e2];rfl
theorem zxr{s:List UInt8}(h:8000<s.length):oL s=some ([],0,6)∧zsh s=some ([],0,6):=by
 unfold oL zsh;rw[dt (by omega)];exact⟨rfl,rfl⟩
theorem zxs:∀(n p:Nat)(s:List UInt8)(l:List Token),s.length<n→QC n p s=.ok l→∃b,l=b++[wb (p+s.length)]∧∀t∈b,t.Kind≠3∧t.Text.length≤s.length:=by
 intro n
 induction n with
 |zero=>intro p s l hn;omega
 |succ n ih =>
  intro p s l hn h;rw[QC]at h;have hsp:=qb zZ s;have hds:=JG zZ s;split at h
  ·rename_i hd
   cases h;rw[hd]at hds;have:=drop_nil hds (qb _ _);exact⟨[],by simp[this],fun t ht=>by cases ht⟩
  ·rename_i c r hd
   rw[hd]at hds;have hl:=congrArg List.length hds;simp only[List.length_drop]at hl;split at h
   ·cases h
   ·rename_i k t v ht
    obtain⟨t1,t2,t3⟩:=zcq ht;have t4:0<t.length:=List.length_pos_iff.2 t1;split at h
    ·cases h
    ·rename_i l' hl'
     cases h;obtain⟨b,rfl,hb⟩:=ih _ _ _ (by rw[List.length_drop];omega) hl';rw[List.length_drop]at hb ⊢;refine⟨_::b,by rw[List.cons_append];congr 4;omega,fun x hx=>?_⟩
     rcases List.mem_cons.1 hx with rfl|hx
     ·refine⟨?_,by simp only;omega⟩
      rw[wI]at ht;simp only;split at ht
      ·split at ht
       ·cases ht;decide
       ·cases ht
      ·split at ht
       ·split at ht
        ·cases ht;decide
        ·cases ht
       ·split at ht
        ·cases ht;decide
        ·cases ht
     ·have:=hb x hx;exact⟨this.1,by omega⟩
abbrev T3:=Int×List UInt8×Int
def t3(t:Token):T3:=(t.Kind,t.Text,t.N)
theorem ztc{s t:List UInt8}{c:UInt8}{r:List UInt8}{k v:Int}{n:Nat}(hd:s.dropWhile zZ=c::r)(ht:tkS (c::r)=.ok (k,t,v))(h:s.length<n+1):((c::r).drop t.length).length<n:=by
 obtain⟨h1,_,h3⟩:=zcq ht
 have h4:(c::r).length≤s.length:=by
  rw[← hd];exact(List.dropWhile_sublist _).length_le
 have:0<t.length:=List.length_pos_iff.2 h1;rw[List.length_drop];omega
theorem WN:∀(n m p:Nat)(s:List UInt8),s.length<n→s.length<m→QC n p s=QC m p s
 |0,_,_,_,h,_=>absurd h (Nat.not_lt_zero _)
 |_+1,0,_,_,_,h=>absurd h (Nat.not_lt_zero _)
 |n+1,m+1,p,s,hn,hm=>by
  rw[QC,QC]
  cases hd:s.dropWhile zZ with
  |nil=>rfl
  |cons c r =>
   dsimp only
   cases ht:tkS (c::r)with
   |error e=>rfl
   |ok x =>
    obtain⟨k,t,v⟩:=x;dsimp only;rw[WN n m _ _ (ztc hd ht hn) (ztc hd ht hm)]
def zAj(p:Nat)(s:List UInt8):Except (Nat×Int) (List Token):=QC (s.length+1) p s
theorem zoq{c:UInt8}{r:List UInt8}(hc:zZ c=true)(p:Nat):zAj p (c::r)=zAj (p+1) r:=by
 unfold zAj;rw[zop hc];exact WN _ _ _ _ (by simp only[lc];omega) (by omega)
def zDt(l:List Token):Except (Nat×Int) (List Token)→Except (Nat×Int) (List Token)
 |.ok r=>.ok (l++r)
 |.error e=>.error e
theorem zxt(a b:List Token):∀x,zDt a (zDt b x)=zDt (a++b) x
 |.ok r=>by simp[zDt]
 |.error e=>rfl
theorem zxu:∀x,zDt [] x=x
 |.ok r=>rfl
 |.error e=>rfl
def BL(s:List UInt8):Prop:=∀c r,s=c::r→zZ c=true
theorem zAk:BL []:=fun _ _ h=>by cases h
theorem ztd{c:UInt8}{r:List UInt8}(h:zZ c=true):BL (c::r):=fun _ _ e=>by cases e;exact h
theorem zHa{a b:List UInt8}(ha:BL a)(hb:BL b):BL (a++b):=by
 cases a with
 |nil=>exact hb
 |cons c r=>exact ztd (ha c r rfl)
def okT(t:T3):Prop:=tkS t.2.1=.ok t
theorem WO{c:UInt8}(h:zZ c=true):c.toNat=32∨c.toNat=9∨c.toNat=10:=by
 simpa[zZ]using h
theorem JH{c:UInt8}(h:zZ c=true):wR c=false∧yG c=false∧yH c=false∧c≠61:=by
 have h:=WO h
 have h1:wR c=false:=by
  unfold wR;rw[df (show ¬97≤c.toNat by omega)];rfl
 have h2:yG c=false:=by
  unfold yG;rw[df (show ¬48≤c.toNat by omega)];rfl
 refine⟨h1,h2,by rw[yH,h1,h2];rfl,?_⟩;rintro rfl;exact absurd h (by decide)
theorem zDu{f:UInt8→Bool}(hf:∀c,zZ c=true→f c=false){r:List UInt8}(h:BL r):r.takeWhile f=[]:=by
 cases r with
 |nil=>rfl
 |cons c r=>rw[List.takeWhile_cons,hf c (h c r rfl)];rfl
theorem QQ{f:UInt8→Bool}(hf:∀c,zZ c=true→f c=false){a r:List UInt8}(h:BL r)(ha:a.takeWhile f=a):(a++r).takeWhile f=a:=by
 have:∀x∈a,f x=true:=by
  have:=List.all_takeWhile (p:=f) (l:=a);rw[ha]at this;exact List.all_eq_true.1 this
 rw[List.takeWhile_append_of_pos this,zDu hf h,List.append_nil]
theorem zDv{t:T3}(h:okT t){r:List UInt8}(hr:BL r):tkS (t.2.1++r)=.ok t:=by
 obtain⟨k,x,n⟩:=t;unfold okT at h;dsimp only at h ⊢
 cases x with
 |nil=>cases h
 |cons c x =>
  rw[List.cons_append,wI];rw[wI]at h;by_cases hl:wR c=true
  ·rw[if_pos hl]at h ⊢
   by_cases hn:((c::x).takeWhile yH).length≤20
   ·rw[if_pos hn]at h
    have e:(c::x).takeWhile yH=c::x:=by
     have:=Except.ok.inj h;exact congrArg (fun y=>y.2.1) this
    have e2:=QQ (f:=yH) (fun c h=>(JH h).2.2.1) hr e;rw[List.cons_append]at e2;rw[e]at h hn;rw[e2,if_pos hn];exact h
   ·rw[if_neg hn]at h;cases h
  ·rw[if_neg hl]at h ⊢
   by_cases hd:yG c=true
   ·rw[if_pos hd]at h ⊢
    cases hv:zAi ((c::x).takeWhile yG)with
    |none=>rw[hv]at h;cases h
    |some v =>
     rw[hv]at h;have e:(c::x).takeWhile yG=c::x:=congrArg (fun y=>y.2.1) (Except.ok.inj h);have e2:=QQ (f:=yG) (fun c h=>(JH h).2.1) hr e;rw[List.cons_append]at e2;rw[e]at h hv;rw[e2,hv];exact h
   ·rw[if_neg hd]at h ⊢
    rw[zl0]at h ⊢
    have h61:∀{d:UInt8},r.head?=some d→d≠61:=fun{d} e=>by
     cases r with
     |nil=>cases e
     |cons a r=>cases e;exact(JH (hr _ _ rfl)).2.2.2
    by_cases h1:x.head?=some 61∧(c=60∨c=61)
    ·rw[if_pos h1]at h
     rw[if_pos ⟨by cases x with
      |nil=>simp at h1
      |cons a x=>simpa using h1.1,h1.2⟩]
     exact h
    ·rw[if_neg h1]at h
     by_cases h2:c∈ONE
     ·rw[if_pos h2]at h
      have e:[c]=c::x:=congrArg (fun y=>y.2.1) (Except.ok.inj h)
      obtain rfl:x=[]:=by simpa using e.symm
      rw[List.nil_append,if_neg (fun hh=>h61 hh.1 rfl),if_pos h2];exact h
     ·rw[if_neg h2]at h;cases h
theorem zxv{t:T3}(h:okT t):∃c r,t.2.1=c::r∧zZ c=false:=by
 obtain⟨k,x,n⟩:=t;unfold okT at h;dsimp only at h ⊢
 cases x with
 |nil=>cases h
 |cons c x =>
  refine⟨c,x,rfl,?_⟩
  cases hb:zZ c with
  |false=>rfl
  |true =>
   exfalso;obtain⟨h1,h2,_,_⟩:=JH hb;rw[wI,h1,if_neg (by simp),h2,if_neg (by simp)]at h;have hc:=WO hb
   rw[ZT (fun hm=>by
    have:∀d∈ONE,¬(d.toNat=32∨d.toNat=9∨d.toNat=10):=by decide
    exact this c hm hc)]at h
   cases h
def mkT(t:T3)(p:Nat):Token:=Token.mk t.1 t.2.1 t.2.2 (p:Int)
theorem zxw{t:T3}(h:okT t){r:List UInt8}(hr:BL r)(p:Nat):zAj p (t.2.1++r)=zDt [mkT t p] (zAj (p+t.2.1.length) r):=by
 obtain⟨c,x,e,hb⟩:=zxv h;have hk:=zDv h hr;obtain⟨k,y,n⟩:=t;dsimp only at e hk ⊢;subst e;unfold zAj;rw[List.cons_append]at hk ⊢;rw[ztb hb,hk];dsimp only
 rw[show(c::(x++r)).drop (c::x).length=r from by rw[← List.cons_append];exact List.drop_left,
  WN _ (r.length+1) _ r (by simp only[lc,la];omega) (by omega)]
 cases QC (r.length+1) (p+(c::x).length) r<;>rfl
def LX(s:List UInt8)(ts:List T3):Prop:=∀p r,BL r→∃l,l.map t3=ts∧zAj p (s++r)=zDt l (zAj (p+s.length) r)
theorem zAl:LX [] []:=fun p r _=>⟨[],rfl,by rw[zxu];rfl⟩
theorem zAm{t:T3}(h:okT t):LX t.2.1 [t]:=fun p r hr=>⟨[mkT t p],rfl,zxw h hr p⟩
theorem zxx{c:UInt8}{s:List UInt8}{ts:List T3}(hc:zZ c=true)(h:LX s ts):LX (c::s) ts:=fun p r hr=>by
 obtain⟨l,h1,h2⟩:=h (p+1) r hr;refine⟨l,h1,?_⟩;rw[List.cons_append,zoq hc,h2,lc,Nat.add_assoc,Nat.add_comm 1]
theorem zAn{a b:List UInt8}{ts us:List T3}(ha:LX a ts)(hb:LX b us)(h:BL b):LX (a++b) (ts++us):=fun p r hr=>by
 obtain⟨l,h1,h2⟩:=ha p (b++r) (zHa h hr);obtain⟨m,h3,h4⟩:=hb (p+a.length) r hr;refine⟨l++m,by rw[List.map_append,h1,h3],?_⟩;rw[asc,h2,h4,zxt,la,Nat.add_assoc]
theorem zte{s:List UInt8}{ts:List T3}(h:LX s ts):∃l p,l.map t3=ts∧zDr s=.ok (l++[wb p]):=by
 obtain⟨l,h1,h2⟩:=h 0 [] zAk;refine⟨l,0+s.length,h1,?_⟩;rw[List.append_nil]at h2;exact h2
-- a token of each kind
theorem zgi{f:UInt8→Bool}{l:List UInt8}(h:l.all f=true):l.takeWhile f=l:=by
 have:=List.takeWhile_append_of_pos (l₂:=[]) (List.all_eq_true.1 h);simpa using this
theorem zxy{w:List UInt8}(h:QB w=true):okT (0,w,0):=by
 cases w with
 |nil=>cases h
 |cons c r =>
  have ha:=ZS h;have e:(c::r).takeWhile yH=c::r:=zgi ha;simp only[QB,bn,decide_eq_true_eq]at h;unfold okT;dsimp only;rw[wI,if_pos h.1,e,if_pos h.2.1]
theorem zxz{w:List UInt8}(h:wu w=true):okT (0,w,0):=by
 unfold wu at h;rw[bn]at h;exact zxy h.1
theorem zcr:∀n:Nat,(Lib.decDigits n).all yG=true
 |n=>by
  rw[Lib.decDigits]
  have one:∀m<10,yG (UInt8.ofNat (48+m))=true:=by decide
  split
  ·rename_i h
   rw[List.all_cons,one n h];rfl
  ·rename_i h
   rw[List.all_append,zcr (n / 10),List.all_cons,one (n % 10) (by omega)];rfl
theorem zgj:∀(a b:List UInt8)(n:Nat),KN (a++b) n=KN b (KN a n)
 |[],_,_=>rfl
 |c::a,b,n=>by rw[List.cons_append,KN,KN];exact zgj a b _
theorem zl2:∀n:Nat,Hz 0 (Lib.decDigits n)=n
 |n=>by
  rw[Lib.decDigits]
  have one:∀m<10,zoo (UInt8.ofNat (48+m))=m:=by decide
  unfold Hz;split
  ·rename_i h
   rw[KN,KN,one _ h];omega
  ·rename_i h
   have:=zl2 (n / 10);unfold Hz at this;rw[zgj,this];rw[KN,KN,one _ (Nat.mod_lt _ (by omega))];omega
theorem ztf(n:Nat):Lib.decDigits n≠[]:=by
 rw[Lib.decDigits];split<;>simp
theorem zl3:∀n:Nat,(Lib.decDigits n).head?=some 48→n=0
 |n=>by
  rw[Lib.decDigits]
  have one:∀m<10,UInt8.ofNat (48+m)=48→m=0:=by decide
  split
  ·rename_i h
   intro e;exact one n h (by simpa using e)
  ·rename_i h
   intro e;have h2:=ztf (n / 10)
   have e2:(Lib.decDigits (n / 10)).head?=some 48:=by
    cases hx:Lib.decDigits (n / 10)with
    |nil=>exact absurd hx h2
    |cons a b=>rw[hx]at e;simpa using e
   have:=zl3 (n / 10) e2;omega
theorem zx0{n:Nat}(h:n≤1099511627776):zAi (Lib.decDigits n)=some n:=by
 unfold zAi
 rw[zl2,if_pos ⟨zcr n,ztf n,fun e=>by
  have:=zl3 n e;subst this
  rw[Lib.decDigits];rfl,h⟩]
theorem zDw{n:Nat}(h:n≤1099511627776):okT (1,Lib.decDigits n,(n:Int)):=by
 unfold okT;dsimp only;have hn:=ztf n;have ha:=zcr n;have hb:=zx0 h
 cases hx:Lib.decDigits n with
 |nil=>exact absurd hx hn
 |cons c r =>
  rw[hx]at ha hb;have e:(c::r).takeWhile yG=c::r:=zgi ha
  have hc:yG c=true:=by rw[List.all_cons,bn]at ha;exact ha.1
  have hl:wR c=false:=by
   have:=zcp hc;unfold wR;rw[df (show ¬97≤c.toNat by omega)];rfl
  rw[wI,hl,if_neg (by simp),if_pos hc,e,hb]
abbrev EE:=Int×Int
def TWF:List Token→Prop
 |[]=>False
 |[t]=>t.Kind=3
 |t::u::r=>t.Kind≠3∧TWF (u::r)
def hdT(r:List Token):Token:=r.headD default
def wc(l r:List Token):Int:=((l.length-r.length:Nat):Int)
structure St(l r:List Token):Prop where
 suf:∃a,l=a++r
 wf:TWF r
 len:l.length≤1000000
 txt:∀t∈l,t.Text.length≤8000
section
variable{l r:List Token}
theorem TWF.ne(h:TWF r):r≠[]:=by rintro rfl;exact h
theorem TWF.tail(h:TWF r)(hk:(hdT r).Kind≠3):TWF r.tail:=by
 match r,h with
 |[t],h=>exact absurd h hk
 |t::u::r,h=>exact h.2
theorem St.idx(h:St l r):idx l (wc l r)=some (hdT r):=by
 obtain⟨a,rfl⟩:=h.suf;have:=h.wf.ne
 cases r with
 |nil=>exact absurd rfl this
 |cons t r =>
  refine xP ?_;rw[la,Nat.add_sub_cancel,List.getElem?_append_right (Nat.le_refl _),Nat.sub_self];rfl
theorem ztg(h:St l r):wc l r+1=wc l r.tail:=by
 obtain⟨a,rfl⟩:=h.suf;have:=h.wf.ne
 cases r with
 |nil=>exact absurd rfl this
 |cons t r=>simp only[wc,la,lc,List.tail_cons];omega
theorem St.bnd(h:St l r):0≤wc l r∧wc l r<1000000:=by
 have:=h.len;have h2:=h.wf.ne;obtain⟨a,rfl⟩:=h.suf
 cases r with
 |nil=>exact absurd rfl h2
 |cons t r=>simp only[wc,la,lc]at this ⊢;omega
theorem St.step(h:St l r):w64 (wc l r+1)=wc l r.tail:=by
 have:=h.bnd;rw[wy (by omega) (by omega),ztg h]
theorem St.back(h:St l r):w64 (w64 (wc l r+1)-1)=wc l r:=by
 have:=h.bnd;rw[wy (n:=wc l r+1) (by omega) (by omega),wy (by omega) (by omega)];omega
theorem St.tail(h:St l r)(hk:(hdT r).Kind≠3):St l r.tail:=by
 refine⟨?_,h.wf.tail hk,h.len,h.txt⟩;obtain⟨a,e⟩:=h.suf;have:=h.wf.ne
 cases r with
 |nil=>exact absurd rfl this
 |cons t r=>exact⟨a++[t],by rw[e];simp⟩
theorem St.mem(h:St l r):hdT r∈l:=by
 obtain⟨a,e⟩:=h.suf;have:=h.wf.ne
 cases r with
 |nil=>exact absurd rfl this
 |cons t r=>rw[e];simp[hdT]
theorem St.text(h:St l r):(hdT r).Text.length<4611686018427387904:=by have:=h.txt _ h.mem;omega
theorem St.lt(h:St l r):r.length≤l.length∧0<r.length:=by
 obtain⟨a,e⟩:=h.suf;exact⟨by rw[e,la];omega,List.length_pos_iff.2 h.wf.ne⟩
theorem vu(h:TWF r):r.tail.length+1=r.length:=by
 cases r with
 |nil=>exact h.elim
 |cons t r=>rfl
end
-- single tokens
def isB(s:List UInt8)(r:List Token):Bool:=(!(decide ((hdT r).Kind=3)))&&decide ((hdT r).Text=s)
def zl4(r:List Token):Bool:=decide ((hdT r).Kind=1)
def zAo(r:List Token):Bool:=decide ((hdT r).Kind=0)&&wu (hdT r).Text
def zEk(r:List Token)(e:Int):EE:=((hdT r).Pos,e)
def thn{α β:Type}(x:Except EE (α×List Token))(g:α→List Token→Except EE β):Except EE β:=match x with
 |.ok (a,r)=>g a r
 |.error e=>.error e
def zAp(b:Bool)(e:Int)(r:List Token):Except EE (Unit×List Token):=if b then .ok ((),r)else .error (zEk r e)
def KP(s:List UInt8)(r:List Token):Except EE (Unit×List Token):=if isB s r then .ok ((),r.tail)else .error (zEk r 14)
def qZ(r:List Token):Except EE (List UInt8×List Token):=if zAo r then .ok ((hdT r).Text,r.tail)else .error (zEk r 14)
def zth(lo hi:Int)(r:List Token):Except EE (Int×List Token):=if zl4 r then(if lo≤(hdT r).N∧(hdT r).N≤hi then .ok ((hdT r).N,r.tail)else .error (zEk r 3))else .error (zEk r 14)
theorem zC{s:List UInt8}{r:List Token}(h:isB s r=true):(hdT r).Kind≠3:=by
 simp only[isB,bn,Bool.not_eq_true',decide_eq_false_iff_not]at h;exact h.1
theorem zgk{r:List Token}(h:zl4 r=true):(hdT r).Kind≠3:=by
 have:=of_decide_eq_true h;omega
theorem zgl{r:List Token}(h:zAo r=true):(hdT r).Kind≠3:=by
 simp only[zAo,bn,decide_eq_true_eq]at h;omega
def RT{α β:Type}(l:List Token)(x:Except EE (α×List Token))(s:Option β)(p:Option EE)(f:α→Int→β):Prop:=match x with
 |.ok (v,r)=>s=some (f v (wc l r))∧p=none∧St l r
 |.error e=>s=none∧p=some e
theorem RT.bind{α β α' β':Type}{l:List Token}{x:Except EE (α×List Token)}{s:Option β}{p:Option EE}{f:α→Int→β}{g:α→List Token→Except EE (α'×List Token)}{s2:β→Option β'}{p2:β→Option EE}{f2:α'→Int→β'}
  (h:RT l x s p f) (h2:∀v r,x=.ok (v,r)→St l r→RT l (g v r) (s2 (f v (wc l r))) (p2 (f v (wc l r))) f2):RT l (thn x g) (s.bind s2) (orC p (fun q=>some q) (s.bind p2)) f2:=by
 match x,h,h2 with
 |.error e,⟨h,h'⟩,_=>exact⟨by rw[h];rfl,by rw[h'];rfl⟩
 |.ok (v,r),⟨h,h',hs⟩,h2 =>
  have:=h2 v r rfl hs;rw[h,h'];exact this
section
variable{l r:List Token}
theorem JI(h:St l r):wi l (wc l r)=some ((hdT r).Kind,(hdT r).Text,(hdT r).N,(hdT r).Pos):=by
 unfold wi;rw[h.idx];rfl
theorem q_is(h:St l r)(s:List UInt8):Y6 l (wc l r) s=some (isB s r):=by
 unfold Y6 isB;rw[JI h,bsQ];cases decide ((hdT r).Kind=3)<;>rfl
theorem zgm(h:St l r)(s:List UInt8):yQ l (wc l r) s=some (isB s r,if isB s r then wc l r.tail else wc l r):=by
 unfold yQ;rw[q_is h,bsQ,h.step];cases isB s r<;>rfl
theorem KQ(h:St l r):y7 l (wc l r)=some (zl4 r):=by
 unfold y7 zl4;rw[JI h];rfl
theorem zx1(h:St l r):qM l (wc l r)=some (zAo r):=by
 unfold qM zAo;rw[JI h,bsQ,bsQ];dsimp only;rw[yB h.text];cases decide ((hdT r).Kind=0)<;>rfl
theorem zti(h:St l r)(b:Bool)(e:Int):RT l (zAp b e r) (yj l (wc l r) b e) (xj l (wc l r) b e) (fun _ _=>()):=by
 unfold yj xj Aq zAp
 cases b with
 |true=>exact⟨rfl,rfl,h⟩
 |false=>rw[JI h];exact⟨rfl,rfl⟩
theorem JJ(h:St l r)(s:List UInt8):RT l (KP s r) (vh l (wc l r) s) (uF l (wc l r) s) (fun _ i=>i):=by
 unfold vh uF KP;rw[zgm h,bsQ,bsQ];dsimp only
 cases hb:isB s r with
 |true=>exact⟨rfl,rfl,h.tail (zC hb)⟩
 |false =>
  rw[if_neg (by simp),if_neg (by simp)];unfold yj xj Aq;rw[JI h];exact⟨rfl,rfl⟩
theorem ot(h:St l r):RT l (qZ r) (yR l (wc l r)) (vi l (wc l r)) (fun v i=>(v,i)):=by
 unfold yR vi qZ;rw[zx1 h,bsQ,bsQ,h.back,h.step,h.idx]
 cases hb:zAo r with
 |true=>exact⟨rfl,rfl,h.tail (zgl hb)⟩
 |false =>
  unfold yj xj Aq;rw[JI h];exact⟨rfl,rfl⟩
theorem zcs(h:St l r)(lo hi:Int):RT l (zth lo hi r) (vF l (wc l r) lo hi) (qN l (wc l r) lo hi) (fun v i=>(v,i)):=by
 unfold vF qN zth;rw[KQ h,bsQ,bsQ,h.step,JI h];unfold yj xj Aq;rw[JI h]
 cases hb:zl4 r with
 |false=>exact⟨rfl,rfl⟩
 |true =>
  rw[if_pos rfl];by_cases h1:lo≤(hdT r).N
  ·by_cases h2:(hdT r).N≤hi
   ·rw[if_pos ⟨h1,h2⟩]
    have e1:decide ((hdT r).N≥lo)=true:=dt h1;have e2:decide ((hdT r).N≤hi)=true:=dt h2;simp only[bsQ,e1,e2];exact⟨rfl,rfl,h.tail (zgk hb)⟩
   ·rw[if_neg (fun hh=>h2 hh.2)]
    have e1:decide ((hdT r).N≥lo)=true:=dt h1;have e2:decide ((hdT r).N≤hi)=false:=df h2;simp only[bsQ,e1,e2];exact⟨rfl,rfl⟩
  ·rw[if_neg (fun hh=>h1 hh.1)]
   have e1:decide ((hdT r).N≥lo)=false:=df h1;simp only[bsQ,e1];exact⟨rfl,rfl⟩
end
-- what a list of tokens and the end are
theorem zAq:∀{b:List Token}{e:Token},e.Kind=3→(∀t∈b,t.Kind≠3)→TWF (b++[e])
 |[],e,h,_=>h
 |[t],e,h,h2=>⟨h2 t (List.mem_cons_self ..),h⟩
 |t::u::b,e,h,h2=>⟨h2 t (List.mem_cons_self ..),zAq (b:=u::b) h fun x hx=>h2 x (mcQ _ hx)⟩
theorem zl5:∀(n p:Nat)(s:List UInt8)(l:List Token),s.length<n→QC n p s=.ok l→l.length≤s.length+1:=by
 intro n
 induction n with
 |zero=>intro p s l hn;omega
 |succ n ih =>
  intro p s l hn h;rw[QC]at h;have hsp:=qb zZ s;have hds:=JG zZ s;split at h
  ·cases h;simp
  ·rename_i c r hd
   rw[hd]at hds;have hl:=congrArg List.length hds;simp only[List.length_drop]at hl;split at h
   ·cases h
   ·rename_i k t v ht
    obtain⟨t1,t2,t3⟩:=zcq ht;have t4:0<t.length:=List.length_pos_iff.2 t1;split at h
    ·cases h
    ·rename_i l' hl'
     cases h;have:=ih _ _ _ (by rw[List.length_drop];omega) hl';rw[List.length_drop]at this;simp only[lc]at this hl t3 ⊢;omega
theorem zct{s:List UInt8}{l:List Token}(hs:s.length≤8000)(h:zDr s=.ok l):St l l∧wc l l=0:=by
 obtain⟨b,rfl,hb⟩:=zxs _ _ _ _ (Nat.lt_succ_self _) h;have hl:=zl5 _ _ _ _ (Nat.lt_succ_self _) h;refine⟨⟨⟨[],rfl⟩,zAq rfl fun t ht=>(hb t ht).1,by omega,fun t ht=>?_⟩,by simp[wc]⟩
 rcases List.mem_append.1 ht with ht|ht
 ·have:=(hb t ht).2;omega
 ·cases msQ.1 ht;simp[wb]
end Go.Proofs.YtffencjoddkghaaGreatDoor
set_option maxRecDepth 100000
namespace Go.Proofs.YtffencjoddkghaaGreatDoor
open Go Go.RowKit Go.Eng Go.EV Go.EQ
variable[Fuel]
def OPS:List zd:=[(zd.mk zGa 14 1),(zd.mk zsa 13 2),(zd.mk vV 10 4),(zd.mk Yo 11 4),(zd.mk vU 12 4),(zd.mk Ym 4 5),(zd.mk xA 5 5),(zd.mk Yl 6 6),(zd.mk Yn 7 6),(zd.mk Yk 8 6)]
def opR(r:List Token):Option zd:=if(hdT r).Kind=3 then none else OPS.find? fun o=>decide ((hdT r).Text=o.text)
def zcu(lv:Nat)(r:List Token):Option Int:=match opR r with
 |some o=>if o.form=(lv:Int)then some o.op else none
 |none=>none
def JK(op:Int)(a b:Expr):Expr:=Expr.mk op 0 [] [] [a,b]
def oof{α:Type}:Except EE α:=.error (0,-1)
mutual
def DE(lv:Nat)(r:List Token):Except EE (Expr×List Token) :=
 if lv≥8 then
  if zl4 r then thn (zth 0 1099511627776 r) fun n r=>.ok (Expr.mk 0 n [] [] [],r)
  else if isB xb r then thn (qZ r.tail) fun s r=>thn (qZ r) fun k r=>.ok (Expr.mk 2 0 s k [],r)
  else if isB xU r then thn (qZ r.tail) fun s r=>.ok (Expr.mk 3 0 s [] [],r)
  else if isB wB r then(if h:r.tail.length<r.length then thn (DE 0 r.tail) fun e r=>thn (KP xL r) fun _ r=>.ok (e,r)else oof)
  else thn (qZ r) fun s r=>.ok (Expr.mk 1 0 s [] [],r)
 else if lv=0∧isB Jk r=true then
  if h:r.tail.length<r.length then thn (DE 0 r.tail) fun a r1=>thn (KP jj r1) fun _ r2 =>
   if h2:r2.length<r.length then thn (DE 0 r2) fun b r3=>thn (KP wx r3) fun _ r4 =>
    if h4:r4.length<r.length then thn (DE 0 r4) fun c r5=>.ok (Expr.mk 16 0 [] [] [a,b,c],r5)else oof
   else oof
  else oof
 else if lv=3∧isB jh r=true then
  if h:r.tail.length<r.length then thn (DE 3 r.tail) fun a r1=>.ok (Expr.mk 15 0 [] [] [a],r1)else oof
 else if lv=7∧isB xA r=true then
  if h:r.tail.length<r.length then thn (DE 7 r.tail) fun a r1=>.ok (Expr.mk 9 0 [] [] [a],r1)else oof
 else thn (DE (lv+1) r) fun e r1=>if h:r1.length<r.length then LP lv e r1 else oof
termination_by (r.length,9-lv)
def LP(lv:Nat)(e:Expr)(r:List Token):Except EE (Expr×List Token):=match zcu lv r with
 |none=>.ok (e,r)
 |some op=>if h:r.tail.length<r.length then thn (DE (lv+1) r.tail) fun e2 r2 =>
   if h2:r2.length<r.length then(if lv=4 then .ok (JK op e e2,r2)else LP lv (JK op e e2) r2)else oof
  else oof
termination_by (r.length,9-lv)
end
structure Aft(r r2:List Token):Prop where
 suf:∃a,r=a++r2
 wf:TWF r2
 lt:r2.length<r.length
structure zo5(r r2:List Token):Prop where
 suf:∃a,r=a++r2
 wf:TWF r2
 le:r2.length≤r.length
theorem Aft.e{r r2:List Token}(h:Aft r r2):zo5 r r2:=⟨h.suf,h.wf,Nat.le_of_lt h.lt⟩
theorem zo5.refl{r:List Token}(h:TWF r):zo5 r r:=⟨⟨[],rfl⟩,h,Nat.le_refl _⟩
theorem WQ{r r2 r3:List Token}(h:∃a,r=a++r2)(k:∃a,r2=a++r3):∃a,r=a++r3:=by
 obtain⟨a,rfl⟩:=h;obtain⟨b,rfl⟩:=k;exact⟨a++b,by simp⟩
theorem Aft.trans{r r2 r3:List Token}(h:Aft r r2)(k:zo5 r2 r3):Aft r r3:=⟨WQ h.suf k.suf,k.wf,Nat.lt_of_le_of_lt k.le h.lt⟩
theorem zo5.trans{r r2 r3:List Token}(h:zo5 r r2)(k:zo5 r2 r3):zo5 r r3:=⟨WQ h.suf k.suf,k.wf,Nat.le_trans k.le h.le⟩
theorem zu{r:List Token}(h:TWF r)(hk:(hdT r).Kind≠3):Aft r r.tail:=by
 refine⟨?_,h.tail hk,by have:=vu h;omega⟩
 cases r with
 |nil=>exact h.elim
 |cons t r=>exact⟨[t],rfl⟩
theorem WR{r:List Token}(h:TWF r):r.tail.length<r.length:=by have:=vu h;omega
theorem St.aft{l r r2:List Token}(h:St l r)(k:zo5 r r2):St l r2:=⟨WQ h.suf k.suf,k.wf,h.len,h.txt⟩
theorem vv{r r2:List Token}{s:List UInt8}(h:TWF r)(e:qZ r=.ok (s,r2)):Aft r r2:=by
 unfold qZ at e;split at e
 ·rename_i hk;cases e;exact zu h (zgl hk)
 ·cases e
theorem zl6{r r2:List Token}{lo hi n:Int}(h:TWF r)(e:zth lo hi r=.ok (n,r2)):Aft r r2:=by
 unfold zth at e;split at e
 ·rename_i hk
  split at e
  ·cases e;exact zu h (zgk hk)
  ·cases e
 ·cases e
theorem yN{r r2:List Token}{s:List UInt8}{u:Unit}(h:TWF r)(e:KP s r=.ok (u,r2)):Aft r r2:=by
 unfold KP at e;split at e
 ·rename_i hk;cases e;exact zu h (zC hk)
 ·cases e
theorem zL{α β:Type}{x:Except EE (α×List Token)}{g:α→List Token→Except EE β}{b:β}(h:thn x g=.ok b):∃a r,x=.ok (a,r)∧g a r=.ok b:=by
 match x,h with
 |.ok (a,r),h=>exact⟨a,r,rfl,h⟩
theorem y0{α β:Type}{x:Except EE (α×List Token)}{g g':α→List Token→Except EE β}(h:∀a r,x=.ok (a,r)→g a r=g' a r):thn x g=thn x g':=by
 match x,h with
 |.ok (a,r),h=>exact h a r rfl
 |.error e,_=>rfl
theorem yp{α β γ:Type}{x:Except EE (α×List Token)}{g:α→List Token→Except EE (β×List Token)}{k:β→List Token→Except EE γ}:thn (thn x g) k=thn x fun a r=>thn (g a r) k:=by
 match x with
 |.ok (a,r)=>rfl
 |.error e=>rfl
theorem ztj{α:Type}{x:Except EE (α×List Token)}:(thn x fun a r=>.ok (a,r))=x:=by
 match x with
 |.ok (a,r)=>rfl
 |.error e=>rfl
theorem wv{r:List Token}{o:zd}(h:opR r=some o):(hdT r).Kind≠3∧o∈OPS∧(hdT r).Text=o.text:=by
 unfold opR at h;split at h
 ·cases h
 ·rename_i hk
  exact⟨hk,List.mem_of_find?_eq_some h,by simpa using List.find?_some h⟩
theorem kv{r:List Token}{lv:Nat}{op:Int}(h:zcu lv r=some op):∃o,opR r=some o∧o.form=(lv:Int)∧o.op=op:=by
 unfold zcu at h;split at h
 ·rename_i o ho
  split at h
  ·rename_i hf;cases h;exact⟨o,ho,hf,rfl⟩
  ·cases h
 ·cases h
theorem ztk:∀(n:Nat),(∀(lv:Nat)(r:List Token),r.length<n→TWF r→∀e r2,DE lv r=.ok (e,r2)→Aft r r2)∧(∀(lv:Nat)(e:Expr)(r:List Token),r.length<n→TWF r→∀e2 r2,LP lv e r=.ok (e2,r2)→zo5 r r2):=by
 intro n
 induction n with
 |zero=>exact⟨fun _ _ h=>by omega,fun _ _ _ h=>by omega⟩
 |succ n ih =>
  have hLP:∀(lv:Nat)(e:Expr)(r:List Token),r.length<n+1→TWF r→∀e2 r2,LP lv e r=.ok (e2,r2)→zo5 r r2:=by
   intro lv e r hn hr e2 r2 h;rw[LP]at h;split at h
   ·cases h;exact zo5.refl hr
   ·rename_i op hop
    obtain⟨o,ho,_⟩:=kv hop;have ht:=zu hr (wv ho).1;rw[dif_pos ht.lt]at h;obtain⟨a,r1,h1,h2⟩:=zL h;have:=ht.lt;have ha:=ih.1 _ _ (by omega) ht.wf _ _ h1;split at h2
    ·split at h2
     ·cases h2;exact(ht.trans ha.e).e
     ·exact(ht.trans ha.e).e.trans (ih.2 _ _ _ (by have:=ha.lt;omega) ha.wf _ _ h2)
    ·cases h2
  refine⟨fun lv=>?_,hLP⟩
  -- by level, downwards
  have key:∀(k lv:Nat),8-lv=k→∀(r:List Token),r.length<n+1→TWF r→∀e r2,DE lv r=.ok (e,r2)→Aft r r2:=by
   intro k
   induction k with
   |zero =>
    intro lv hk r hn hr e r2 h;rw[DE,if_pos (by omega)]at h;split at h
    ·obtain⟨a,r1,h1,h2⟩:=zL h
     cases h2;exact zl6 hr h1
    ·split at h
     ·rename_i hb
      have ht:=zu hr (zC hb);obtain⟨a,r1,h1,h2⟩:=zL h;obtain⟨b,r3,h3,h4⟩:=zL h2;cases h4;have q1:=vv ht.wf h1;exact ht.trans (q1.trans (vv q1.wf h3).e).e
     ·split at h
      ·rename_i hb
       have ht:=zu hr (zC hb);obtain⟨a,r1,h1,h2⟩:=zL h;cases h2;exact ht.trans (vv ht.wf h1).e
      ·split at h
       ·rename_i hb
        have ht:=zu hr (zC hb);rw[dif_pos ht.lt]at h;obtain⟨a,r1,h1,h2⟩:=zL h;obtain⟨b,r3,h3,h4⟩:=zL h2;cases h4;have q1:=ih.1 _ _ (by have:=ht.lt;omega) ht.wf _ _ h1;exact ht.trans (q1.trans (yN q1.wf h3).e).e
       ·obtain⟨a,r1,h1,h2⟩:=zL h
        cases h2;exact vv hr h1
   |succ k ihk =>
    intro lv hk r hn hr e r2 h;rw[DE,if_neg (by omega)]at h;split at h
    ·rename_i hb
     have ht:=zu hr (zC hb.2);rw[dif_pos ht.lt]at h;obtain⟨a,r1,h1,h⟩:=zL h;obtain⟨_,r3,h3,h⟩:=zL h;have q1:=ht.trans (ih.1 _ _ (by have:=ht.lt;omega) ht.wf _ _ h1).e;have q2:=q1.trans (yN q1.wf h3).e;rw[dif_pos q2.lt]at h;obtain⟨b,r4,h4,h⟩:=zL h;obtain⟨_,r5,h5,h⟩:=zL h;have q3:=q2.trans (ih.1 _ _ (by have:=q2.lt;omega) q2.wf _ _ h4).e;have q4:=q3.trans (yN q3.wf h5).e;rw[dif_pos q4.lt]at h;obtain⟨c,r6,h6,h⟩:=zL h;cases h;exact q4.trans (ih.1 _ _ (by have:=q4.lt;omega) q4.wf _ _ h6).e
    ·split at h
     ·rename_i hb
      have ht:=zu hr (zC hb.2);rw[dif_pos ht.lt]at h;obtain⟨a,r1,h1,h⟩:=zL h;cases h;exact ht.trans (ih.1 _ _ (by have:=ht.lt;omega) ht.wf _ _ h1).e
     ·split at h
      ·rename_i hb
       have ht:=zu hr (zC hb.2);rw[dif_pos ht.lt]at h;obtain⟨a,r1,h1,h⟩:=zL h;cases h;exact ht.trans (ih.1 _ _ (by have:=ht.lt;omega) ht.wf _ _ h1).e
      ·obtain⟨a,r1,h1,h⟩:=zL h
       have q1:=ihk (lv+1) (by omega) r hn hr _ _ h1;rw[dif_pos q1.lt]at h;exact q1.trans (hLP _ _ _ (by have:=q1.lt;omega) q1.wf _ _ h)
  exact key _ lv rfl
theorem yI{lv:Nat}{r r2:List Token}{e:Expr}(hr:TWF r)(h:DE lv r=.ok (e,r2)):Aft r r2:=(ztk (r.length+1)).1 lv r (Nat.lt_succ_self _) hr e r2 h
def HA(r:List Token):Except EE (Expr×List Token) :=
 if zl4 r then thn (zth 0 1099511627776 r) fun n r=>.ok (Expr.mk 0 n [] [] [],r)
 else if isB xb r then thn (qZ r.tail) fun s r=>thn (qZ r) fun k r=>.ok (Expr.mk 2 0 s k [],r)
 else if isB xU r then thn (qZ r.tail) fun s r=>.ok (Expr.mk 3 0 s [] [],r)
 else if isB wB r then thn (DE 0 r.tail) fun e r=>thn (KP xL r) fun _ r=>.ok (e,r)
 else thn (qZ r) fun s r=>.ok (Expr.mk 1 0 s [] [],r)
def ifS(r:List Token):Except EE (Expr×List Token):=thn (DE 0 r.tail) fun a r1=>thn (KP jj r1) fun _ r2=>thn (DE 0 r2) fun b r3=>thn (KP wx r3) fun _ r4=>thn (DE 0 r4) fun c r5=>.ok (Expr.mk 16 0 [] [] [a,b,c],r5)
theorem ztl{r:List Token}(hr:TWF r):DE 8 r=HA r:=by
 rw[DE,if_pos (Nat.le_refl 8),HA];simp only[dif_pos (WR hr)]
theorem WS{lv:Nat}{r:List Token}(hl:lv<8)(hr:TWF r):DE lv r=if lv=0∧isB Jk r=true then ifS r else if lv=3∧isB jh r=true then thn (DE 3 r.tail) fun a r1=>.ok (Expr.mk 15 0 [] [] [a],r1)
  else if lv=7∧isB xA r=true then thn (DE 7 r.tail) fun a r1=>.ok (Expr.mk 9 0 [] [] [a],r1)else thn (DE (lv+1) r) fun e r1=>LP lv e r1:=by
 rw[DE,if_neg (by omega)];simp only[dif_pos (WR hr)];by_cases hi:lv=0∧isB Jk r=true
 ·rw[if_pos hi,if_pos hi,ifS]
  have ht:=zu hr (zC hi.2)
  refine y0 fun a r1 h1=>y0 fun u r2 h2=>?_
  have q1:=ht.trans (yI ht.wf h1).e;have q2:=q1.trans (yN q1.wf h2).e;rw[dif_pos q2.lt]
  refine y0 fun b r3 h3=>y0 fun u r4 h4=>?_
  have q3:=q2.trans (yI q2.wf h3).e;have q4:=q3.trans (yN q3.wf h4).e;rw[dif_pos q4.lt]
 ·rw[if_neg hi,if_neg hi]
  split
  ·rfl
  ·split
   ·rfl
   ·refine y0 fun e r1 h1=>?_
    rw[dif_pos (yI hr h1).lt]
theorem zor{lv:Nat}{e:Expr}{r:List Token}(hr:TWF r):LP lv e r=match zcu lv r with
 |none=>.ok (e,r)
 |some op=>thn (DE (lv+1) r.tail) fun e2 r2=>if lv=4 then .ok (JK op e e2,r2)else LP lv (JK op e e2) r2:=by
 rw[LP];split
 ·rfl
 ·rename_i op hop
  obtain⟨o,ho,_⟩:=kv hop;have ht:=zu hr (wv ho).1;rw[dif_pos ht.lt]
  refine y0 fun e2 r2 h2=>?_
  rw[dif_pos (ht.trans (yI ht.wf h2).e).lt]
noncomputable def pd(p:Prop):Bool:=@decide p (Classical.propDecidable p)
theorem zgn{p:Prop}:pd p=true↔p:=by unfold pd;exact @decide_eq_true_iff p (Classical.propDecidable p)
theorem pd_of{p:Prop}[Decidable p]:decide p=pd p:=xn Iff.rfl
theorem zx2{b:Bool}{p:Prop}(h:b=true↔p):b=pd p:=by
 cases b with
 |true=>exact(zgn.2 (h.1 rfl)).symm
 |false =>
  cases hp:pd p with
  |false=>rfl
  |true=>exact absurd (h.2 (zgn.1 hp)) (by decide)
theorem zgo{α β:Type}[Inhabited α][Inhabited β](a:List α)(b:List β)(G:α→β→Option Bool)(g:α→β→Bool)(L:Nat→Int→Option (Bool⊕Unit))
  (hL:∀K q,L (K+1) q=(bif (decide (q<((List.length a:Nat):Int)))then(idx a q).bind fun x=>(idx b q).bind fun y=>(G x y).bind fun r=>(bif (!r)then some (Sum.inl false)else L K (w64 (q+1)))else some (Sum.inr ())))
  (hs:a.length<4611686018427387904) (hl:b.length=a.length):
  ∀(r:List α)(t:List β)(i K:Nat),a.drop i=r→b.drop i=t→i≤a.length→r.length<K→(∀x∈r,∀y∈t,G x y=some (g x y))→L K (i:Int)=some (bif (r.zip t).all (fun p=>g p.1 p.2)then Sum.inr ()else Sum.inl false)
 |[],t,i,K,hr,ht,hi,hK,_=>by
  obtain⟨K,rfl⟩:∃k,K=k+1:=⟨K-1,by simp at hK;omega⟩
  have:=drop_nil hr hi;rw[hL,df (by omega)];simp
 |x::r,[],i,K,hr,ht,hi,hK,_=>by
  have h1:=drop_nil ht (by omega);obtain⟨_,_,h3⟩:=xD hr;omega
 |x::r,y::t,i,K,hr,ht,hi,hK,hG=>by
  obtain⟨K,rfl⟩:∃k,K=k+1:=⟨K-1,by simp at hK;omega⟩
  obtain⟨h1,h2,h3⟩:=xD hr;obtain⟨k1,k2,k3⟩:=xD ht;simp only[lc]at hK;rw[hL,dt (by omega),ctQ,xP h1,bsQ,xP k1,bsQ,hG x (List.mem_cons_self ..) y (List.mem_cons_self ..),bsQ];simp only[List.zip_cons_cons,List.all_cons]
  cases hg:g x y with
  |false=>rfl
  |true =>
   simp only[Bool.not_true,cf,Bool.true_and];rw[kN (by omega)]
   exact zgo a b G g L hL hs hl r t (i+1) K h2 k2 (by omega) (by omega) fun x hx y hy=>hG x (mcQ _ hx) y (mcQ _ hy)
theorem ztm{α:Type}{g:α→α→Bool}:∀{a b:List α},a.length=b.length→(∀x∈a,∀y∈b,(g x y=true↔x=y))→((a.zip b).all (fun p=>g p.1 p.2)=true↔a=b)
 |[],[],_,_=>by simp
 |[],_::_,h,_=>by simp at h
 |_::_,[],h,_=>by simp at h
 |x::a,y::b,h,hg=>by
  simp only[lc,Nat.add_right_cancel_iff]at h;simp only[List.zip_cons_cons,List.all_cons,bn,List.cons.injEq];rw[hg x (List.mem_cons_self ..) y (List.mem_cons_self ..),ztm h fun x hx y hy=>hg x (mcQ _ hx) y (mcQ _ hy)]
theorem ztn{α:Type}[Inhabited α](a b:List α)(G:α→α→Option Bool)(L:Nat→Int→Option (Bool⊕Unit))
  (hL:∀K q,L (K+1) q=(bif (decide (q<((List.length a:Nat):Int)))then(idx a q).bind fun x=>(idx b q).bind fun y=>(G x y).bind fun r=>(bif (!r)then some (Sum.inl false)else L K (w64 (q+1)))else some (Sum.inr ())))
  (hs:a.length<4611686018427387904) (hG:∀x∈a,∀y∈b,G x y=some (pd (x=y))):
  (bif (!(decide (((List.length a:Nat):Int)=((List.length b:Nat):Int))))then some false else(L KK 0).bind (xR some fun _=>some true))=some (pd (a=b)):=by
 by_cases hl:a.length=b.length
 ·rw[dt (by omega)]
  simp only[Bool.not_true,cf];have:=zgo a b G (fun x y=>pd (x=y)) L hL hs hl.symm a b 0 KK rfl rfl (Nat.zero_le _) (jx (by omega)) hG;rw[show((0:Int))=((0:Nat):Int) from rfl,this]
  have hz:=ztm (g:=fun x y=>pd (x=y)) hl fun x _ y _=>zgn
  have e:=zx2 hz;rw[← e];cases (a.zip b).all (fun p=>pd (p.1=p.2))<;>rfl
 ·rw[df (by omega)]
  simp only[Bool.not_false,ctQ];exact congrArg some (zx2 ⟨fun h=>(by cases h),fun h=>absurd (congrArg List.length h) hl⟩)
-- levels
mutual
def WT:Expr→Nat
 |⟨_,_,_,_,az⟩=>zjh az+1
def zjh:List Expr→Nat
 |[]=>0
 |e::r=>max (WT e) (zjh r)
end
mutual
def jG:Expr→Nat
 |⟨_,_,_,_,az⟩=>AR az+1
def AR:List Expr→Nat
 |[]=>0
 |e::r=>jG e+AR r
end
theorem WU:∀e:Expr,0<jG e
 |⟨_,_,_,_,az⟩=>by rw[jG];omega
theorem Ax:∀l:List Expr,l.length≤AR l
 |[]=>Nat.le_refl _
 |e::r=>by rw[AR,lc];have:=Ax r;have:=WU e;omega
theorem zgp:∀(l:List Expr)(i:Nat),AR (l.drop i)≤AR l
 |l,0=>Nat.le_refl _
 |[],i+1=>Nat.le_refl _
 |e::r,i+1=>by rw[List.drop_succ_cons,AR];have:=zgp r i;omega
mutual
theorem zto:∀e:Expr,WT e≤jG e
 |⟨_,_,_,_,az⟩=>by rw[WT,jG];have:=zcv az;omega
theorem zcv:∀l:List Expr,zjh l≤AR l
 |[]=>Nat.le_refl _
 |e::r=>by rw[zjh,AR];have:=zto e;have:=zcv r;omega
end
theorem ztp:∀(n:Nat)(e:Expr)(K:Nat),jG e≤n→n≤K→n≤1000000000→wj K e=some ((WT e:Nat):Int):=by
 intro n
 induction n with
 |zero=>intro e K h;have:=WU e;omega
 |succ n ih =>
  intro e K h hK hn
  obtain⟨K,rfl⟩:∃k,K=k+1:=⟨K-1,by omega⟩
  obtain⟨op,nn,ss,kk,az⟩:=e;rw[jG]at h
  have loop:∀(l:List Expr)(i Q m:Nat),az.drop i=l→i≤az.length→l.length<Q→m≤1000000000→vG (wj K) az (az.length:Int) Q ((m:Int),(i:Int))=some ((max m (zjh l):Nat):Int):=by
   intro l
   induction l with
   |nil =>
    intro i Q m hd hi hQ hm
    obtain⟨Q,rfl⟩:∃k,Q=k+1:=⟨Q-1,by omega⟩
    have:=drop_nil hd hi;rw[vG,df (show ¬((i:Int)<(az.length:Int)) by omega)];simp[zjh]
   |cons a l ihl =>
    intro i Q m hd hi hQ hm
    obtain⟨Q,rfl⟩:∃k,Q=k+1:=⟨Q-1,by omega⟩
    obtain⟨h1,h2,h3⟩:=xD hd;simp only[lc]at hQ
    have hna:jG a+AR l≤n:=by
     have:=zgp az i;rw[hd,AR]at this;omega
    have hlen:=Ax az;have hla:=zto a;rw[vG,dt (show((i:Int)<(az.length:Int)) by omega),ctQ,xP h1,bsQ,show Expr.mk a.Op a.N a.S a.Key a.Args=a by cases a;rfl,ih a K (by omega) (by omega) (by omega),bsQ,kN (by omega)]
    have e:max (m:Int) ((WT a:Nat):Int)=((max m (WT a):Nat):Int):=by omega
    simp only;rw[e,ihl (i+1) Q (max m (WT a)) h2 (by omega) (by omega) (by omega),zjh,Nat.max_assoc]
  have hlen:=Ax az;have hlv:=zcv az;rw[wj,WT];have:=loop az 0 KK 0 rfl (by omega) (jx (by omega)) (by omega);rw[show(((0:Nat):Int))=(0:Int) from rfl]at this;simp only;rw[this,bsQ,Nat.zero_max,wy (by omega) (by omega)];rfl
-- expressions
theorem Q6:∀{l:List Expr}{e:Expr},e∈l→jG e≤AR l
 |x::r,e,h=>by
  rw[AR]
  rcases List.mem_cons.1 h with rfl|h
  ·omega
  ·have:=Q6 h;omega
def Qu(e:Expr):Prop:=jG e≤1000000000
theorem vZ(e:Expr):Expr.mk e.Op e.N e.S e.Key e.Args=e:=by cases e;rfl
theorem zHb:∀(n:Nat)(a b:Expr)(K:Nat),jG a≤n→n≤K→n≤1000000000→yk K a b=some (pd (a=b)):=by
 intro n
 induction n with
 |zero=>intro a b K h;have:=WU a;omega
 |succ n ih =>
  intro a b K h hK hn
  obtain⟨K,rfl⟩:∃k,K=k+1:=⟨K-1,by omega⟩
  obtain⟨o1,n1,s1,k1,z1⟩:=a;obtain⟨o2,n2,s2,k2,z2⟩:=b;rw[jG]at h;have hz:=Ax z1
  have hl:=ztn z1 z2 (yk K) (vm (yk K) o1 n1 s1 k1 z1 o2 n2 s2 k2 z2) (fun K q=>rfl) (by omega) fun x hx y hy=>ih x y K (by have:=Q6 hx;omega) (by omega) (by omega)
  rw[yk]
  have e:pd ((⟨o1,n1,s1,k1,z1⟩:Expr)=⟨o2,n2,s2,k2,z2⟩)=(pd (o1=o2)&&(pd (n1=n2)&&(pd (s1=s2)&&(pd (k1=k2)&&pd (z1=z2))))):=by
   refine(zx2 ?_).symm;simp only[bn,zgn,Expr.mk.injEq]
  rw[e];simp only[pd_of]at hl ⊢;cases pd (o1=o2)<;>simp only[Bool.not_true,Bool.not_false,ctQ,cf,bsQ,Bool.false_and,Bool.true_and];cases pd (n1=n2)<;>simp only[Bool.not_true,Bool.not_false,ctQ,cf,bsQ,Bool.false_and,Bool.true_and];cases pd (s1=s2)<;>simp only[Bool.not_true,Bool.not_false,ctQ,cf,bsQ,Bool.false_and,Bool.true_and];cases pd (k1=k2)<;>simp only[Bool.not_true,Bool.not_false,ctQ,cf,bsQ,Bool.false_and,Bool.true_and];exact hl
theorem ztq{a b:Expr}(h:Qu a):yk KK a b=some (pd (a=b)):=zHb 1000000000 a b KK h (Nat.le_of_lt (jx (by omega))) (by omega)
theorem zl7{α τ:Type}(l:List α)(g:α→Bool)(ok bad:τ)(L:Nat→Int→τ)
  (hL:∀K (i:Nat) x,l[i]?=some x→L (K+1) (i:Int)=bif g x then L K ((i+1:Nat):Int)else bad) (hE:∀K,L (K+1) (l.length:Int)=ok):
  ∀(r:List α)(i K:Nat),l.drop i=r→i≤l.length→r.length<K→L K (i:Int)=bif r.all g then ok else bad
 |[],i,K,hr,hi,hK=>by
  obtain⟨K,rfl⟩:∃k,K=k+1:=⟨K-1,by simp at hK;omega⟩
  have:=drop_nil hr hi;subst this;rw[hE];rfl
 |x::r,i,K,hr,hi,hK=>by
  obtain⟨K,rfl⟩:∃k,K=k+1:=⟨K-1,by simp at hK;omega⟩
  obtain⟨h1,h2,h3⟩:=xD hr;simp only[lc]at hK;rw[hL K i x h1,List.all_cons]
  cases g x with
  |false=>rfl
  |true=>exact zl7 l g ok bad L hL hE r (i+1) K h2 (by omega) (by omega)
theorem zl8{α τ:Type}(l:List α)(g:α→Bool)(ok bad:τ)(L:Nat→Int→τ)(hs:l.length≤9223372036854775807)
  (hL:∀K (i:Nat) x,l[i]?=some x→L (K+1) (i:Int)=bif g x then L K ((i+1:Nat):Int)else bad) (hE:∀K,L (K+1) (l.length:Int)=ok):
  L KK 0=bif l.all g then ok else bad:=zl7 l g ok bad L hL hE l 0 KK rfl (Nat.zero_le _) (jx (by omega))
theorem zgq{α σ τ:Type}(l:List α)(f:σ→α→σ)(fin:σ→τ)(I:Nat→σ→Prop)(L:Nat→Int→σ→τ)
  (hL:∀K (i:Nat) x s,l[i]?=some x→I i s→L (K+1) (i:Int) s=L K ((i+1:Nat):Int) (f s x)∧I (i+1) (f s x)) (hE:∀K s,I l.length s→L (K+1) (l.length:Int) s=fin s):
  ∀(r:List α)(i K:Nat)(s:σ),l.drop i=r→i≤l.length→r.length<K→I i s→L K (i:Int) s=fin (r.foldl f s)∧I l.length (r.foldl f s)
 |[],i,K,s,hr,hi,hK,hI=>by
  obtain⟨K,rfl⟩:∃k,K=k+1:=⟨K-1,by simp at hK;omega⟩
  have:=drop_nil hr hi;subst this;exact⟨hE K s hI,hI⟩
 |x::r,i,K,s,hr,hi,hK,hI=>by
  obtain⟨K,rfl⟩:∃k,K=k+1:=⟨K-1,by simp at hK;omega⟩
  obtain⟨h1,h2,h3⟩:=xD hr;simp only[lc]at hK;obtain⟨e1,e2⟩:=hL K i x s h1 hI;rw[e1,List.foldl_cons];exact zgq l f fin I L hL hE r (i+1) K (f s x) h2 (by omega) (by omega) e2
theorem zgr{α σ τ:Type}(l:List α)(f:σ→α→σ)(fin:σ→τ)(I:Nat→σ→Prop)(L:Nat→Int→σ→τ)(s:σ)(hs:l.length<4611686018427387904)(h0:I 0 s)
  (hL:∀K (i:Nat) x s,l[i]?=some x→I i s→L (K+1) (i:Int) s=L K ((i+1:Nat):Int) (f s x)∧I (i+1) (f s x)) (hE:∀K s,I l.length s→L (K+1) (l.length:Int) s=fin s):
  L KK 0 s=fin (l.foldl f s)∧I l.length (l.foldl f s):=zgq l f fin I L hL hE l 0 KK s rfl (Nat.zero_le _) (jx (by omega)) h0
theorem zji{α:Type}{l:List α}{i:Nat}{x:α}(h:l[i]?=some x):decide ((i:Int)<(List.length l:Nat))=true:=dt (by have:=(List.getElem?_eq_some_iff.1 h).1;omega)
theorem WV{α:Type}{l:List α}:decide (((List.length l:Nat):Int)<(List.length l:Nat))=false:=df (by omega)
theorem ztr{α:Type}{l:List α}{i:Nat}{x:α}(h:l[i]?=some x):i<l.length:=(List.getElem?_eq_some_iff.1 h).1
theorem zDx{o:Option (Bool⊕Unit)}{g r:Bool}{f:Unit→Option Bool}(h:o=some (bif g then Sum.inr ()else Sum.inl false))(hr:g=true→f ()=some r):o.bind (xR some f)=some (g&&r):=by
 subst h
 cases g with
 |false=>rfl
 |true=>rw[ctQ,bsQ,xR,hr rfl,Bool.true_and]
theorem zl9{α:Type}(l:List α)(g:α→Bool)(L:Nat→Int→Option (Bool⊕Unit))(B:Int→Option Bool)(hs:l.length≤9223372036854775807)
  (hL:∀K q,L (K+1) q=(bif (decide (q<((List.length l:Nat):Int)))then(B q).bind fun r=>(bif r then some (Sum.inl false)else L K (w64 (q+1)))else some (Sum.inr ())))
  (hB:∀(i:Nat) x,l[i]?=some x→B (i:Int)=some (!(g x))):L KK 0=some (bif l.all g then Sum.inr ()else Sum.inl false):=by
 have:=zl8 l g (some (Sum.inr ())) (some (Sum.inl false)) L hs (fun K i x h=>?_) (fun K=>by rw[hL,WV];rfl)
 ·rw[this];cases l.all g<;>rfl
 ·have hi:=ztr h
  rw[hL,zji h,ctQ,hB i x h,bsQ,kN (by omega)];cases g x<;>rfl
mutual
def kz:Expr→Bool
 |⟨_,_,s,k,az⟩=>zgs az&&(decide (s.length≤30)&&decide (k.length≤30))
def zgs:List Expr→Bool
 |[]=>true
 |e::r=>kz e&&zgs r
end
theorem KR:∀l:List Expr,zgs l=l.all kz
 |[]=>by rw[zgs];rfl
 |e::r=>by rw[zgs,KR r,List.all_cons]
theorem zts{o n:Int}{s k:List UInt8}{az:List Expr}{m RK:Nat}(hm:m≤1000)(ih:∀m'<m,∀e,xW RK e (m':Int)=some ((min (jG e) (m'+1):Nat):Int)):
  ∀(r:List Expr)(i j K:Nat),az.drop i=r→i≤az.length→i<j→j≤m+1→m+1<K+j→xI (xW RK) (m:Int) o n s k az K ((j:Int),(i:Int))=some ((min (j+AR r) (m+1):Nat):Int)
 |[],i,j,K,hr,hi,h1,h2,hK=>by
  obtain⟨K,rfl⟩:∃k,K=k+1:=⟨K-1,by omega⟩
  have:=drop_nil hr hi;rw[xI];simp only[df (show ¬((i:Int)<(az.length:Nat)) by omega),cf,bsQ];rw[AR];exact congrArg some (by omega)
 |x::r,i,j,K,hr,hi,h1,h2,hK=>by
  obtain⟨K,rfl⟩:∃k,K=k+1:=⟨K-1,by omega⟩
  obtain⟨g1,g2,g3⟩:=xD hr;rw[xI];simp only[dt (show((i:Int)<(az.length:Nat)) by omega),ctQ,bsQ];by_cases hj:j≤m
  ·rw[dt (show(j:Int)≤(m:Int) by omega),ctQ,xP g1,bsQ,wy (by omega) (by omega),show(m:Int)-(j:Int)=((m-j:Nat):Int) by omega,ih (m-j) (by omega) x,bsQ]
   have hp:=WU x;rw[wy (by omega) (by omega),kN (by omega),show(j:Int)+((min (jG x) (m-j+1):Nat):Int)=((j+min (jG x) (m-j+1):Nat):Int) by omega];rw[zts hm ih r (i+1) (j+min (jG x) (m-j+1)) K g2 (by omega) (by omega) (by omega) (by omega),AR];exact congrArg some (by omega)
  ·rw[df (show ¬(j:Int)≤(m:Int) by omega),cf,AR]
   exact congrArg some (by omega)
theorem ztt:∀(m:Nat)(e:Expr)(K:Nat),m<K→m≤1000→xW K e (m:Int)=some ((min (jG e) (m+1):Nat):Int):=by
 intro m
 induction m using Nat.strongRecOn with
 |_ m ih =>
  intro e K hK hm
  obtain⟨K,rfl⟩:∃k,K=k+1:=⟨K-1,by omega⟩
  obtain⟨o,n,s,k,az⟩:=e;rw[xW];have:=zts (o:=o) (n:=n) (s:=s) (k:=k) (az:=az) (m:=m) (RK:=K) hm (fun m' h' e=>ih m' h' e K (by omega) (by omega)) az 0 1 KK rfl (Nat.zero_le _) (by omega) (by omega) (by have:=jx (n:=2000) (by omega);omega);rw[show((1:Int),(0:Int))=(((1:Nat):Int),((0:Nat):Int)) from rfl,this,jG,bsQ];exact congrArg some (by omega)
theorem ztu:∀(n:Nat)(e:Expr)(K:Nat),jG e≤n→n≤K→n≤1000000000→wP K e=some (kz e):=by
 intro n
 induction n with
 |zero=>intro e K h;have:=WU e;omega
 |succ n ih =>
  intro e K h hK hn
  obtain⟨K,rfl⟩:∃k,K=k+1:=⟨K-1,by omega⟩
  obtain⟨o,m,s,k,az⟩:=e;rw[jG]at h;have hz:=Ax az;rw[wP,kz,KR]
  refine zDx (zl9 az kz _ (fun q=>(idx az q).bind fun x1=>(wP K x1).bind fun x2=>some (!x2)) (by omega) (fun K q=>?_) fun i x hx=>?_) fun _=>?_
  ·rw[vW]
   simp only[Option.bind_assoc,bsQ]
  ·rw[xP hx,bsQ,ih x K (by have:=Q6 (List.mem_of_getElem? hx);omega) (by omega) (by omega)];rfl
  ·show(bif decide (((List.length s:Nat):Int)≤30)then some (decide (((List.length k:Nat):Int)≤30))else some false)=_
   rw[zlv s.length 30 (a:=30) rfl,zlv k.length 30 (a:=30) rfl];cases decide (List.length s≤30)<;>rfl
def zuo(e:Expr):Bool:=decide (jG e≤200)&&kz e
theorem zjj(e:Expr):jN e=some (zuo e):=by
 unfold jN zuo;rw[vZ,show(200:Int)=((200:Nat):Int) from rfl,ztt 200 e KK (jx (by omega)) (by omega),bsQ,xn (q:=jG e≤200) (by omega)];by_cases h:jG e≤200
 ·rw[dt h,ctQ,ztu 200 e KK h (Nat.le_of_lt (jx (by omega))) (by omega)];rfl
 ·rw[df h];rfl
def zHc(e:Expr):Bool:=decide (jG e≤5000)&&kz e
theorem zma{e:Expr}(h:zuo e=true):zHc e=true:=by
 simp only[zuo,zHc,bn,decide_eq_true_eq]at h ⊢;exact⟨by omega,h.2⟩
theorem zx3{p:Prop}(h:¬p):pd p=false:=(zx2 (b:=false) ⟨fun h=>(by cases h),fun h2=>absurd h2 h⟩).symm
def kC(op:Int):Int:=if op≤3 then 0 else if op=9∨op=15 then 1 else if op=16 then 3 else 2
def xf(e:Expr):Bool:=decide (0≤e.Op∧e.Op<17∧((e.Args.length:Nat):Int)=kC e.Op)&&(decide (if e.Op=0 then 0≤e.N∧e.N≤1099511627776 else e.N=0) &&
 ((if e.Op=1∨e.Op=2∨e.Op=3 then wu e.S else decide (e.S=[]))&&(if e.Op=2 then wu e.Key else decide (e.Key=[]))))
def okE:Nat→Expr→Bool
 |0,_=>false
 |d+1,e=>xf e&&e.Args.all (okE d)
theorem zx4{n:Int}(h0:0≤n)(h1:n<17):n=0∨n=1∨n=2∨n=3∨n=9∨n=15∨n=16∨(¬n=0∧¬n=1∧¬n=2∧¬n=3∧¬n=9∧¬n=15∧¬n=16∧¬n≤3):=by omega
theorem oX{n:Int}:decide ((min (max n 0) 1099511627776)=n)=decide (0≤n∧n≤1099511627776):=xn (by omega)
theorem kO{s:List UInt8}:decide ([]=s)=decide (s=[]):=xn ⟨Eq.symm,Eq.symm⟩
theorem vw{n:Int}:decide (0=n)=decide (n=0):=xn ⟨Eq.symm,Eq.symm⟩
theorem zHd{n:Int}{s k:List UInt8}{az:List Expr} :xf ⟨0,n,s,k,az⟩=(decide (((az.length:Nat):Int)=0)&&(decide (0≤n∧n≤1099511627776)&&(decide (s=[])&&decide (k=[])))):=by
 simp[xf,kC]
theorem r_0{RK:Nat}{d n:Int}{s k:List UInt8}{az:List Expr}{r:Bool}(hd:¬d=0)(hS:s.length<4611686018427387904)(hK:k.length<4611686018427387904)(h:xf ⟨0,n,s,k,az⟩=true→yW (zY RK) d az ((List.length az:Nat):Int) KK 0=some (bif r then Sum.inr ()else Sum.inl false)):zY (RK+1) ⟨0,n,s,k,az⟩ d=some (xf ⟨0,n,s,k,az⟩&&r):=by
 rw[zHd ]at h ⊢;rw[zY];simp only[df hd,oX,kO,vw,yB hS,yB hK,Bool.not_true,Bool.not_false,cf,ctQ,bsQ,xR,Int.reduceEq,Int.reduceLT,Int.reduceGE,Int.reduceLE,decide_true,decide_false,ge_iff_le]
 cases ha:decide (((az.length:Nat):Int)=0)<;>cases hb:decide (0≤n∧n≤1099511627776)<;>cases hc:decide (s=[])<;>cases he:decide (k=[])<;>(first|rfl|(rw[ha,hb,hc,he]at h;rw[h rfl];cases r<;>rfl))
theorem zHe{n:Int}{s k:List UInt8}{az:List Expr} :xf ⟨1,n,s,k,az⟩=(decide (((az.length:Nat):Int)=0)&&(decide (n=0)&&(wu s&&decide (k=[])))):=by
 simp[xf,kC]
theorem r_1{RK:Nat}{d n:Int}{s k:List UInt8}{az:List Expr}{r:Bool}(hd:¬d=0)(hS:s.length<4611686018427387904)(hK:k.length<4611686018427387904)(h:xf ⟨1,n,s,k,az⟩=true→yW (zY RK) d az ((List.length az:Nat):Int) KK 0=some (bif r then Sum.inr ()else Sum.inl false)):zY (RK+1) ⟨1,n,s,k,az⟩ d=some (xf ⟨1,n,s,k,az⟩&&r):=by
 rw[zHe ]at h ⊢;rw[zY];simp only[df hd,oX,kO,vw,yB hS,yB hK,Bool.not_true,Bool.not_false,cf,ctQ,bsQ,xR,Int.reduceEq,Int.reduceLT,Int.reduceGE,Int.reduceLE,decide_true,decide_false,ge_iff_le]
 cases ha:decide (((az.length:Nat):Int)=0)<;>cases hb:decide (n=0)<;>cases hc:wu s<;>cases he:decide (k=[])<;>(first|rfl|(rw[ha,hb,hc,he]at h;rw[h rfl];cases r<;>rfl))
theorem zHf{n:Int}{s k:List UInt8}{az:List Expr} :xf ⟨2,n,s,k,az⟩=(decide (((az.length:Nat):Int)=0)&&(decide (n=0)&&(wu s&&wu k))):=by
 simp[xf,kC]
theorem r_2{RK:Nat}{d n:Int}{s k:List UInt8}{az:List Expr}{r:Bool}(hd:¬d=0)(hS:s.length<4611686018427387904)(hK:k.length<4611686018427387904)(h:xf ⟨2,n,s,k,az⟩=true→yW (zY RK) d az ((List.length az:Nat):Int) KK 0=some (bif r then Sum.inr ()else Sum.inl false)):zY (RK+1) ⟨2,n,s,k,az⟩ d=some (xf ⟨2,n,s,k,az⟩&&r):=by
 rw[zHf ]at h ⊢;rw[zY];simp only[df hd,oX,kO,vw,yB hS,yB hK,Bool.not_true,Bool.not_false,cf,ctQ,bsQ,xR,Int.reduceEq,Int.reduceLT,Int.reduceGE,Int.reduceLE,decide_true,decide_false,ge_iff_le]
 cases he:wu k with
 |false=>simp only[Bool.and_false,Bool.false_and];rfl
 |true =>
  simp only[Bool.not_true,cf,bsQ,xR,vw,decide_true]
  cases ha:decide (((az.length:Nat):Int)=0)<;>cases hb:decide (n=0)<;>cases hc:wu s<;>(first|rfl|(rw[ha,hb,hc,he]at h;rw[h rfl];cases r<;>rfl))
theorem zHg{n:Int}{s k:List UInt8}{az:List Expr} :xf ⟨3,n,s,k,az⟩=(decide (((az.length:Nat):Int)=0)&&(decide (n=0)&&(wu s&&decide (k=[])))):=by
 simp[xf,kC]
theorem r_3{RK:Nat}{d n:Int}{s k:List UInt8}{az:List Expr}{r:Bool}(hd:¬d=0)(hS:s.length<4611686018427387904)(hK:k.length<4611686018427387904)(h:xf ⟨3,n,s,k,az⟩=true→yW (zY RK) d az ((List.length az:Nat):Int) KK 0=some (bif r then Sum.inr ()else Sum.inl false)):zY (RK+1) ⟨3,n,s,k,az⟩ d=some (xf ⟨3,n,s,k,az⟩&&r):=by
 rw[zHg ]at h ⊢;rw[zY];simp only[df hd,oX,kO,vw,yB hS,yB hK,Bool.not_true,Bool.not_false,cf,ctQ,bsQ,xR,Int.reduceEq,Int.reduceLT,Int.reduceGE,Int.reduceLE,decide_true,decide_false,ge_iff_le]
 cases ha:decide (((az.length:Nat):Int)=0)<;>cases hb:decide (n=0)<;>cases hc:wu s<;>cases he:decide (k=[])<;>(first|rfl|(rw[ha,hb,hc,he]at h;rw[h rfl];cases r<;>rfl))
theorem zHh{n:Int}{s k:List UInt8}{az:List Expr} :xf ⟨9,n,s,k,az⟩=(decide (((az.length:Nat):Int)=1)&&(decide (n=0)&&(decide (s=[])&&decide (k=[])))):=by
 simp[xf,kC]
theorem r_9{RK:Nat}{d n:Int}{s k:List UInt8}{az:List Expr}{r:Bool}(hd:¬d=0)(hS:s.length<4611686018427387904)(hK:k.length<4611686018427387904)(h:xf ⟨9,n,s,k,az⟩=true→yW (zY RK) d az ((List.length az:Nat):Int) KK 0=some (bif r then Sum.inr ()else Sum.inl false)):zY (RK+1) ⟨9,n,s,k,az⟩ d=some (xf ⟨9,n,s,k,az⟩&&r):=by
 rw[zHh ]at h ⊢;rw[zY];simp only[df hd,oX,kO,vw,yB hS,yB hK,Bool.not_true,Bool.not_false,cf,ctQ,bsQ,xR,Int.reduceEq,Int.reduceLT,Int.reduceGE,Int.reduceLE,decide_true,decide_false,ge_iff_le]
 cases ha:decide (((az.length:Nat):Int)=1)<;>cases hb:decide (n=0)<;>cases hc:decide (s=[])<;>cases he:decide (k=[])<;>(first|rfl|(rw[ha,hb,hc,he]at h;rw[h rfl];cases r<;>rfl))
theorem zDy{n:Int}{s k:List UInt8}{az:List Expr} :xf ⟨15,n,s,k,az⟩=(decide (((az.length:Nat):Int)=1)&&(decide (n=0)&&(decide (s=[])&&decide (k=[])))):=by
 simp[xf,kC]
theorem r_15{RK:Nat}{d n:Int}{s k:List UInt8}{az:List Expr}{r:Bool}(hd:¬d=0)(hS:s.length<4611686018427387904)(hK:k.length<4611686018427387904)(h:xf ⟨15,n,s,k,az⟩=true→yW (zY RK) d az ((List.length az:Nat):Int) KK 0=some (bif r then Sum.inr ()else Sum.inl false)):zY (RK+1) ⟨15,n,s,k,az⟩ d=some (xf ⟨15,n,s,k,az⟩&&r):=by
 rw[zDy ]at h ⊢;rw[zY];simp only[df hd,oX,kO,vw,yB hS,yB hK,Bool.not_true,Bool.not_false,cf,ctQ,bsQ,xR,Int.reduceEq,Int.reduceLT,Int.reduceGE,Int.reduceLE,decide_true,decide_false,ge_iff_le]
 cases ha:decide (((az.length:Nat):Int)=1)<;>cases hb:decide (n=0)<;>cases hc:decide (s=[])<;>cases he:decide (k=[])<;>(first|rfl|(rw[ha,hb,hc,he]at h;rw[h rfl];cases r<;>rfl))
theorem zDz{n:Int}{s k:List UInt8}{az:List Expr} :xf ⟨16,n,s,k,az⟩=(decide (((az.length:Nat):Int)=3)&&(decide (n=0)&&(decide (s=[])&&decide (k=[])))):=by
 simp[xf,kC]
theorem r_16{RK:Nat}{d n:Int}{s k:List UInt8}{az:List Expr}{r:Bool}(hd:¬d=0)(hS:s.length<4611686018427387904)(hK:k.length<4611686018427387904)(h:xf ⟨16,n,s,k,az⟩=true→yW (zY RK) d az ((List.length az:Nat):Int) KK 0=some (bif r then Sum.inr ()else Sum.inl false)):zY (RK+1) ⟨16,n,s,k,az⟩ d=some (xf ⟨16,n,s,k,az⟩&&r):=by
 rw[zDz ]at h ⊢;rw[zY];simp only[df hd,oX,kO,vw,yB hS,yB hK,Bool.not_true,Bool.not_false,cf,ctQ,bsQ,xR,Int.reduceEq,Int.reduceLT,Int.reduceGE,Int.reduceLE,decide_true,decide_false,ge_iff_le]
 cases ha:decide (((az.length:Nat):Int)=3)<;>cases hb:decide (n=0)<;>cases hc:decide (s=[])<;>cases he:decide (k=[])<;>(first|rfl|(rw[ha,hb,hc,he]at h;rw[h rfl];cases r<;>rfl))
theorem zHi{op n:Int}{s k:List UInt8}{az:List Expr}(hlo:0≤op)(hhi:op<17)(h0:¬op=0)(h1:¬op=1)(h2:¬op=2)(h3:¬op=3)(h9:¬op=9)(h15:¬op=15)(h16:¬op=16)(h3l:¬op≤3):xf ⟨op,n,s,k,az⟩=(decide (((az.length:Nat):Int)=2)&&(decide (n=0)&&(decide (s=[])&&decide (k=[])))):=by
 simp[xf,kC,h0,h1,h2,h3,h9,h15,h16,h3l,hlo,hhi]
theorem r_b{RK:Nat}{op d n:Int}{s k:List UInt8}{az:List Expr}{r:Bool}(hlo:0≤op)(hhi:op<17)(h0:¬op=0)(h1:¬op=1)(h2:¬op=2)(h3:¬op=3)(h9:¬op=9)(h15:¬op=15)(h16:¬op=16)(h3l:¬op≤3)(hd:¬d=0)(hS:s.length<4611686018427387904)(hK:k.length<4611686018427387904)(h:xf ⟨op,n,s,k,az⟩=true→yW (zY RK) d az ((List.length az:Nat):Int) KK 0=some (bif r then Sum.inr ()else Sum.inl false)):zY (RK+1) ⟨op,n,s,k,az⟩ d=some (xf ⟨op,n,s,k,az⟩&&r):=by
 rw[zHi hlo hhi h0 h1 h2 h3 h9 h15 h16 h3l]at h ⊢;rw[zY];simp only[df h0,df h1,df h2,df h3,df h9,df h15,df h16,df h3l,df (Int.not_lt.2 hlo),df (Int.not_le.2 hhi),df hd,oX,kO,vw,yB hS,yB hK,Bool.not_true,Bool.not_false,cf,ctQ,bsQ,xR,Int.reduceEq,Int.reduceLT,Int.reduceGE,Int.reduceLE,decide_true,decide_false,ge_iff_le]
 cases ha:decide (((az.length:Nat):Int)=2)<;>cases hb:decide (n=0)<;>cases hc:decide (s=[])<;>cases he:decide (k=[])<;>(first|rfl|(rw[ha,hb,hc,he]at h;rw[h rfl];cases r<;>rfl))
theorem zHj{RK:Nat}{d:Int}{e:Expr}{r:Bool}(hd:¬d=0)(hS:e.S.length<4611686018427387904)(hK:e.Key.length<4611686018427387904)(h:xf e=true→yW (zY RK) d e.Args ((List.length e.Args:Nat):Int) KK 0=some (bif r then Sum.inr ()else Sum.inl false)):zY (RK+1) e d=some (xf e&&r):=by
 obtain⟨op,n,s,k,az⟩:=e;by_cases hlo:0≤op
 ·by_cases hhi:op<17
  ·obtain rfl|rfl|rfl|rfl|rfl|rfl|rfl|⟨h0,h1,h2,h3,h9,h15,h16,h3l⟩:=zx4 hlo hhi
   ·exact r_0 hd hS hK h
   ·exact r_1 hd hS hK h
   ·exact r_2 hd hS hK h
   ·exact r_3 hd hS hK h
   ·exact r_9 hd hS hK h
   ·exact r_15 hd hS hK h
   ·exact r_16 hd hS hK h
   ·exact r_b hlo hhi h0 h1 h2 h3 h9 h15 h16 h3l hd hS hK h
  ·have:xf ⟨op,n,s,k,az⟩=false:=by simp[xf,hhi]
   rw[this,zY];simp only[df hd,df (show ¬op<0 by omega),dt (show op≥17 by omega)];rfl
 ·have:xf ⟨op,n,s,k,az⟩=false:=by simp[xf,hlo]
  rw[this,zY];simp only[df hd,dt (show op<0 by omega)];rfl
theorem zD0{e:Expr}(h:kz e=true):e.S.length≤30∧e.Key.length≤30:=by
 obtain⟨op,n,s,k,az⟩:=e;rw[kz]at h;simp only[bn,decide_eq_true_eq]at h;exact h.2
theorem zos{e x:Expr}(h:kz e=true)(hx:x∈e.Args):kz x=true:=by
 obtain⟨op,n,s,k,az⟩:=e;rw[kz,KR]at h;simp only[bn]at h;exact List.all_eq_true.1 h.1 x hx
theorem zx5{e:Expr}{n:Nat}(h:jG e≤n):e.Args.length<n:=by
 obtain⟨op,m,s,k,az⟩:=e;rw[jG]at h;have:=Ax az
 show az.length<n
 omega
theorem zx6{e x:Expr}{n:Nat}(h:jG e≤n)(hx:x∈e.Args):jG x≤n:=by
 obtain⟨op,m,s,k,az⟩:=e;rw[jG]at h;have:=Q6 (show x∈az from hx);omega
theorem zx7:∀(d:Nat)(e:Expr)(K:Nat),d<K→d≤1000→jG e≤5000→kz e=true→zY K e (d:Int)=some (okE d e):=by
 intro d
 induction d with
 |zero =>
  intro e K hK _ _ _
  obtain⟨K,rfl⟩:∃k,K=k+1:=⟨K-1,by omega⟩
  rw[zY];rfl
 |succ d ih =>
  intro e K hK hd hn hs
  obtain⟨K,rfl⟩:∃k,K=k+1:=⟨K-1,by omega⟩
  have h1:=zD0 hs;have hz:=zx5 hn;rw[okE]
  refine zHj (by omega) (by omega) (by omega) fun _=>?_
  refine zl9 e.Args (okE d) _ (fun q=>(idx e.Args q).bind fun x1=>(zY K (Expr.mk x1.Op x1.N x1.S x1.Key x1.Args) (w64 (((d+1:Nat):Int)-1))).bind fun x2=>some (!x2)) (by omega) (fun K q=>?_) fun i x hx=>?_
  ·rw[yW]
   simp only[Option.bind_assoc,bsQ]
  ·have hx':=List.mem_of_getElem? hx
   rw[xP hx,bsQ,vZ,wy (by omega) (by omega),show(((d+1:Nat):Int)-1)=(d:Int) by omega,ih x K (by omega) (by omega) (zx6 hn hx') (zos hs hx')];rfl
theorem zx8{e:Expr}(h:zuo e=true):jG e≤200∧kz e=true:=by
 unfold zuo at h;rw[bn]at h;exact⟨of_decide_eq_true h.1,h.2⟩
theorem zx9{e:Expr}(h:zHc e=true):jG e≤5000∧kz e=true:=by
 unfold zHc at h;simp only[bn,decide_eq_true_eq]at h;exact h
theorem Qv{e:Expr}(h:zHc e=true):wO e=some (okE 12 e):=by
 unfold wO;obtain⟨h1,h2⟩:=zx9 h;rw[vZ,show(12:Int)=((12:Nat):Int) from rfl,zx7 12 e KK (jx (by omega)) (by omega) (by omega) h2];rfl
def zeroE:Expr:=⟨0,0,[],[],[]⟩
theorem zot{e:Expr}(h:zuo e=true):Qu e:=by
 have:=(zx8 h).1;unfold Qu;omega
theorem zD1{p:Prop}(h:p):pd p=true:=zgn.2 h
section code
variable{c0:List Def}{c1:Int}{c2:List Table}{c3:List xE}{c4:List yz}{c5:List Cap}{c6:List View}{c7:List zn}{c8:Int}
end code
section ref
variable{c0:List Def}{c1:List Table}{c2:List xE}{c3:List yz}{c4:List Cap}{c5:List View}{c6:List zn}{c7:Int}
end ref
theorem zmb:∀(k n:Nat),n<10 ^ (k+1)→(Lib.decDigits n).length≤k+1
 |k,n,h=>by
  rw[Lib.decDigits];by_cases h10:n<10
  ·rw[dif_pos h10,List.length_singleton];omega
  ·cases k with
   |zero=>omega
   |succ k =>
    have:=zmb k (n / 10) (by rw[Nat.pow_succ]at h;omega);rw[dif_neg h10,la,List.length_singleton];omega
theorem ztv{n:Nat}(h:n≤9223372036854775807):(Lib.decDigits n).length≤21:=by
 have:=zmb 19 n (by omega);omega
theorem ztw{n:Int}(h0:0≤n)(h1:n≤9223372036854775807):Y7 n=some (Lib.decDigits n.toNat):=by
 unfold Y7 zkx;rw[yA (by omega),bsQ,Lib.itoa,if_neg (by omega)]
theorem zX{a b:List UInt8}(h:a.length+b.length≤140737488355328):yt a b=some (((b.length:Nat):Int),a++b):=by
 unfold yt;rw[yA h];rfl
theorem oY{a:List UInt8}(h:a.length+2≤140737488355328):zo4 a=some (a++[32,41]):=by
 unfold zo4;rw[yA h];rfl
-- forms
def lvO(op:Int):Int:=if op=16 then 0 else if op=14 then 1 else if op=13 then 2 else if op=15 then 3 else if op=10∨op=11∨op=12 then 4 else if op=4∨op=5 then 5 else if op=6∨op=7∨op=8 then 6 else if op=9 then 7 else 8
def sgO(op:Int):List UInt8:=if op=14 then zGa else if op=13 then zsa else if op=10 then vV else if op=11 then Yo else if op=12 then vU else if op=4 then Ym else if op=5 then xA else if op=6 then Yl else if op=7 then Yn else Yk
theorem op17{n:Int}(h0:0≤n)(h1:n<17):n=0∨n=1∨n=2∨n=3∨n=4∨n=5∨n=6∨n=7∨n=8∨n=9∨n=10∨n=11∨n=12∨n=13∨n=14∨n=15∨n=16:=by omega
def zc7(op:Int):Bool:=decide (4≤op∧op≤14∧¬op=9)
theorem zya(k:Nat){c2 n:Int}{s ky:List UInt8}{az:List Expr}(h0:0≤c2)(h1:c2<17):((uG ([(zd.mk zGa 14 1),(zd.mk zsa 13 2),(zd.mk vV 10 4),(zd.mk Yo 11 4),(zd.mk vU 12 4),(zd.mk Ym 4 5),(zd.mk xA 5 5),(zd.mk Yl 6 6),(zd.mk Yn 7 6),(zd.mk Yk 8 6)]:List zd) (10:Nat) c2 n s ky az (k+11) 0).bind (xR some fun _=>(bif (decide (c2=16))then some (0,([]:List UInt8))else(bif (decide (c2=15))then some (3,([]:List UInt8))else(bif (decide (c2=9))then some (7,([]:List UInt8))else some (8,([]:List UInt8)))))))=some (lvO c2,bif zc7 c2 then sgO c2 else[]):=by
 obtain rfl|rfl|rfl|rfl|rfl|rfl|rfl|rfl|rfl|rfl|rfl|rfl|rfl|rfl|rfl|rfl|rfl:=op17 h0 h1<;>rfl
theorem ztx{e:Expr}(h0:0≤e.Op)(h1:e.Op<17):QX e=some (lvO e.Op,bif zc7 e.Op then sgO e.Op else[]):=by
 unfold QX xB
 obtain⟨k,hk⟩:∃k,KK=k+11:=⟨KK-11,by have:=jx (n:=100) (by omega);omega⟩
 rw[bsQ,hk];exact zya k h0 h1
theorem zjk(op:Int):0≤lvO op∧lvO op≤8:=by unfold lvO;(repeat' split)<;>omega
theorem zAr(op:Int):(sgO op).length≤3:=by unfold sgO;(repeat' split)<;>decide
def atS(t:List UInt8)(lv form:Int):List UInt8:=if lv<form then og++(t++oI)else t
def yO(e:Expr)(i:Nat):Expr:=e.Args.getD i zeroE
def zR:Nat→Expr→List UInt8
 |0,_=>[]
 |d+1,e =>
  if e.Op=0 then Lib.decDigits e.N.toNat else if e.Op=1 then e.S else if e.Op=2 then xO++(e.S++(t__++e.Key))else if e.Op=3 then kY++e.S
  else if e.Op=16 then kB++(atS (zR d (yO e 0)) (lvO (yO e 0).Op) 0++(yv++(atS (zR d (yO e 1)) (lvO (yO e 1).Op) 0++(yu++atS (zR d (yO e 2)) (lvO (yO e 2).Op) 0))))
  else if e.Op=15 then K6++atS (zR d (yO e 0)) (lvO (yO e 0).Op) 3
  else if e.Op=9 then Jl++atS (zR d (yO e 0)) (lvO (yO e 0).Op) 7
  else atS (zR d (yO e 0)) (lvO (yO e 0).Op) (if lvO e.Op=4 then 5 else lvO e.Op)++(t__++(sgO e.Op++(t__++atS (zR d (yO e 1)) (lvO (yO e 1).Op) (lvO e.Op+1))))
theorem WW(t:List UInt8)(a b:Int):(atS t a b).length≤t.length+4:=by
 unfold atS;split
 ·simp only[la,show og.length=2 from rfl,show oI.length=2 from rfl];omega
 ·omega
theorem zmc{s:List UInt8}(h:wu s=true):s.length≤20∧s≠[]:=by
 unfold wu at h;simp only[bn]at h;exact zly h.1
theorem ZU{e:Expr}(h:xf e=true):(0≤e.Op∧e.Op<17∧((e.Args.length:Nat):Int)=kC e.Op)∧(0≤e.N∧e.N≤1099511627776)∧e.S.length≤20∧e.Key.length≤20∧((e.Op=1∨e.Op=2∨e.Op=3)→wu e.S=true)∧(e.Op=2→wu e.Key=true):=by
 unfold xf at h;simp only[bn,decide_eq_true_eq]at h;obtain⟨h1,h2,h3,h4⟩:=h;refine⟨h1,?_,?_,?_,fun ho=>by rwa [if_pos ho]at h3,fun ho=>by rwa [if_pos ho]at h4⟩
 ·split at h2
  ·exact h2
  ·omega
 ·split at h3
  ·exact(zmc h3).1
  ·rw[of_decide_eq_true h3];decide
 ·split at h4
  ·exact(zmc h4).1
  ·rw[of_decide_eq_true h4];decide
theorem zmd:∀(d:Nat)(e:Expr),okE d e=true→(zR d e).length≤100*4 ^ d
 |0,e,h=>by cases h
 |d+1,e,h=>by
  rw[okE,bn]at h;obtain⟨hh,ha⟩:=h;obtain⟨⟨h0,h1,hl⟩,⟨n0,n1⟩,hs,hk,_⟩:=ZU hh;have hp:0<4 ^ d:=Nat.pow_pos (by omega)
  have arg:∀i,i<e.Args.length→(zR d (yO e i)).length≤100*4 ^ d:=fun i hi=>by
   refine zmd d _ (List.all_eq_true.1 ha _ ?_);unfold yO;rw[List.getD_eq_getElem?_getD,List.getElem?_eq_getElem hi];exact List.getElem_mem hi
  rw[Nat.pow_succ,zR];by_cases o0:e.Op=0
  ·rw[if_pos o0];have:=ztv (n:=e.N.toNat) (by omega);omega
  rw[if_neg o0];by_cases o1:e.Op=1
  ·rw[if_pos o1];omega
  rw[if_neg o1];by_cases o2:e.Op=2
  ·rw[if_pos o2];simp only[la,show xO.length=6 from rfl,show t__.length=1 from rfl];omega
  rw[if_neg o2];by_cases o3:e.Op=3
  ·rw[if_pos o3];simp only[la,show kY.length=5 from rfl];omega
  rw[if_neg o3];by_cases o16:e.Op=16
  ·rw[if_pos o16]
   have:e.Args.length=3:=by rw[o16]at hl;have:kC 16=3:=rfl;omega
   have a0:=arg 0 (by omega);have a1:=arg 1 (by omega);have a2:=arg 2 (by omega);have b0:=WW (zR d (yO e 0)) (lvO (yO e 0).Op) 0;have b1:=WW (zR d (yO e 1)) (lvO (yO e 1).Op) 0;have b2:=WW (zR d (yO e 2)) (lvO (yO e 2).Op) 0;simp only[la,show kB.length=3 from rfl,show yv.length=6 from rfl,show yu.length=6 from rfl];omega
  rw[if_neg o16];by_cases o15:e.Op=15
  ·rw[if_pos o15]
   have:e.Args.length=1:=by rw[o15]at hl;have:kC 15=1:=rfl;omega
   have a0:=arg 0 (by omega);have b0:=WW (zR d (yO e 0)) (lvO (yO e 0).Op) 3;simp only[la,show K6.length=4 from rfl];omega
  rw[if_neg o15];by_cases o9:e.Op=9
  ·rw[if_pos o9]
   have:e.Args.length=1:=by rw[o9]at hl;have:kC 9=1:=rfl;omega
   have a0:=arg 0 (by omega);have b0:=WW (zR d (yO e 0)) (lvO (yO e 0).Op) 7;simp only[la,show Jl.length=2 from rfl];omega
  rw[if_neg o9]
  have:e.Args.length=2:=by
   have:kC e.Op=2:=by unfold kC;rw[if_neg (by omega),if_neg (by omega),if_neg o16]
   omega
  have a0:=arg 0 (by omega);have a1:=arg 1 (by omega);have b0:=WW (zR d (yO e 0)) (lvO (yO e 0).Op) (if lvO e.Op=4 then 5 else lvO e.Op);have b1:=WW (zR d (yO e 1)) (lvO (yO e 1).Op) (lvO e.Op+1);have:=zAr e.Op;simp only[la,show t__.length=1 from rfl];omega
inductive OX:Nat→Expr→Prop
 |num {d:Nat} {n:Int}:0≤n→n≤1099511627776→OX (d+1) ⟨0,n,[],[],[]⟩
 |name {d:Nat} {s:List UInt8}:wu s=true→OX (d+1) ⟨1,0,s,[],[]⟩
 |table {d:Nat} {s k:List UInt8}:wu s=true→wu k=true→OX (d+1) ⟨2,0,s,k,[]⟩
 |zone {d:Nat} {s:List UInt8}:wu s=true→OX (d+1) ⟨3,0,s,[],[]⟩
 |neg {d:Nat} {a:Expr}:OX d a→OX (d+1) ⟨9,0,[],[],[a]⟩
 |not {d:Nat} {a:Expr}:OX d a→OX (d+1) ⟨15,0,[],[],[a]⟩
 |cond {d:Nat} {a b c:Expr}:OX d a→OX d b→OX d c→OX (d+1) ⟨16,0,[],[],[a,b,c]⟩
 |bin {d:Nat} {op:Int} {a b:Expr}:zc7 op=true→OX d a→OX d b→OX (d+1) (JK op a b)
theorem zIn{α:Type}{l:List α}(h:((l.length:Nat):Int)=0):l=[]:=List.length_eq_zero_iff.1 (by omega)
theorem len1{α:Type}{l:List α}(h:((l.length:Nat):Int)=1):∃a,l=[a]:=List.length_eq_one_iff.1 (by omega)
theorem len2{α:Type}{l:List α}(h:((l.length:Nat):Int)=2):∃a b,l=[a,b]:=by
 match l,h with
 |[a,b],_=>exact⟨a,b,rfl⟩
 |[],h=>simp at h
 |[a],h=>simp at h
 |a::b::c::r,h=>simp only[lc]at h;omega
theorem len3{α:Type}{l:List α}(h:((l.length:Nat):Int)=3):∃a b c,l=[a,b,c]:=by
 match l,h with
 |[a,b,c],_=>exact⟨a,b,c,rfl⟩
 |[],h=>simp at h
 |[a],h=>simp at h
 |[a,b],h=>simp at h
 |a::b::c::d::r,h=>simp only[lc]at h;omega
theorem zHk{op:Int}(h0:0≤op)(h1:op<17)(a0:¬op=0)(a1:¬op=1)(a2:¬op=2)(a3:¬op=3)(a9:¬op=9)(a15:¬op=15)(a16:¬op=16):zc7 op=true:=dt (by omega)
theorem zme{op:Int}(h:zc7 op=true):4≤op∧op≤14∧¬op=9:=of_decide_eq_true h
theorem zty{op:Int}(h:zc7 op=true):kC op=2:=by
 have:=zme h;unfold kC;rw[if_neg (by omega),if_neg (by omega),if_neg (by omega)]
theorem zHl:∀(d:Nat)(e:Expr),okE d e=true→OX d e
 |0,e,h=>by cases h
 |d+1,e,h=>by
  rw[okE,bn]at h;obtain⟨hh,ha⟩:=h
  have ih:∀x∈e.Args,OX d x:=fun x hx=>zHl d x (List.all_eq_true.1 ha x hx)
  obtain⟨op,n,s,k,az⟩:=e;simp only[xf,bn,decide_eq_true_eq]at hh;obtain⟨⟨h0,h1,hl⟩,hn,hs,hk⟩:=hh;dsimp only at ih;by_cases a0:op=0
  ·subst a0
   obtain rfl:=zIn hl;simp at hn hs hk
   obtain⟨rfl,rfl⟩:s=[]∧k=[]:=⟨hs,hk⟩
   exact .num hn.1 hn.2
  by_cases a1:op=1
  ·subst a1
   obtain rfl:=zIn hl;simp at hn hs hk;subst hn hk;exact .name hs
  by_cases a2:op=2
  ·subst a2
   obtain rfl:=zIn hl;simp at hn hs hk;subst hn;exact .table hs hk
  by_cases a3:op=3
  ·subst a3
   obtain rfl:=zIn hl;simp at hn hs hk;subst hn hk;exact .zone hs
  rw[if_neg a0]at hn;rw[if_neg (by omega),decide_eq_true_eq]at hs;rw[if_neg a2,decide_eq_true_eq]at hk;subst hn hs hk;by_cases a9:op=9
  ·subst a9
   obtain⟨a,rfl⟩:=len1 hl;exact .neg (ih a (by simp))
  by_cases a15:op=15
  ·subst a15
   obtain⟨a,rfl⟩:=len1 hl;exact .not (ih a (by simp))
  by_cases a16:op=16
  ·subst a16
   obtain⟨a,b,c,rfl⟩:=len3 hl;exact .cond (ih a (by simp)) (ih b (by simp)) (ih c (by simp))
  have hb:=zHk h0 h1 a0 a1 a2 a3 a9 a15 a16;rw[zty hb]at hl;obtain⟨a,b,rfl⟩:=len2 hl;exact .bin hb (ih a (by simp)) (ih b (by simp))
def kwQ(w:List UInt8):T3:=(0,w,0)
def sgQ(w:List UInt8):T3:=(2,w,0)
def zup(n:Int):T3:=(1,Lib.decDigits n.toNat,n)
def opQ(op:Int):T3:=if op=13∨op=14 then kwQ (sgO op)else sgQ (sgO op)
def qc(t:List T3)(lv form:Int):List T3:=if lv<form then sgQ wB::(t++[sgQ xL])else t
def Yw(op:Int):Int:=if lvO op=4 then 5 else lvO op
def yl:Nat→Expr→List T3
 |0,_=>[]
 |d+1,e =>
  if e.Op=0 then[zup e.N]else if e.Op=1 then[kwQ e.S]else if e.Op=2 then[kwQ xb,kwQ e.S,kwQ e.Key]else if e.Op=3 then[kwQ xU,kwQ e.S]
  else if e.Op=16 then kwQ Jk::(yl d (yO e 0)++(kwQ jj::(yl d (yO e 1)++(kwQ wx::yl d (yO e 2)))))
  else if e.Op=15 then kwQ jh::qc (yl d (yO e 0)) (lvO (yO e 0).Op) 3
  else if e.Op=9 then sgQ xA::qc (yl d (yO e 0)) (lvO (yO e 0).Op) 7
  else qc (yl d (yO e 0)) (lvO (yO e 0).Op) (Yw e.Op)++(opQ e.Op::qc (yl d (yO e 1)) (lvO (yO e 1).Op) (lvO e.Op+1))
theorem oZ{op:Int}(h:zc7 op=true)(d:Nat)(a b:Expr):yl (d+1) (JK op a b)=qc (yl d a) (lvO a.Op) (Yw op)++(opQ op::qc (yl d b) (lvO b.Op) (lvO op+1)):=by
 have h3:=zme h;rw[yl];unfold JK;dsimp only;rw[if_neg (by omega),if_neg (by omega),if_neg (by omega),if_neg (by omega),if_neg (by omega),if_neg (by omega),if_neg (by omega)];rfl
theorem ztz{op:Int}(h:zc7 op=true)(d:Nat)(a b:Expr):zR (d+1) (JK op a b)=atS (zR d a) (lvO a.Op) (Yw op)++(t__++(sgO op++(t__++atS (zR d b) (lvO b.Op) (lvO op+1)))):=by
 have h3:=zme h;rw[zR];unfold JK;dsimp only;rw[if_neg (by omega),if_neg (by omega),if_neg (by omega),if_neg (by omega),if_neg (by omega),if_neg (by omega),if_neg (by omega)];rfl
theorem zEl{t:List T3}{op:Int}:qc t (lvO op) 0=t:=if_neg (by have:=zjk op;omega)
theorem at0{t:List UInt8}{op:Int}:atS t (lvO op) 0=t:=if_neg (by have:=zjk op;omega)
def sq(ts:List T3):List UInt8:=ts.flatMap fun t=>32::t.2.1
def jq:List T3→List UInt8
 |[]=>[]
 |t::ts=>t.2.1++sq ts
theorem zHm(a b:List T3):sq (a++b)=sq a++sq b:=List.flatMap_append
theorem zyb{a:List T3}(h:a≠[]):sq a=32::jq a:=by
 cases a with
 |nil=>exact absurd rfl h
 |cons t ts=>rfl
theorem zHn{a b:List T3}(h:a≠[]):jq (a++b)=jq a++sq b:=by
 cases a with
 |nil=>exact absurd rfl h
 |cons t ts=>rw[List.cons_append,jq,jq,zHm,asc]
theorem o5{t:T3}{b:List T3}(h:b≠[]):jq (t::b)=t.2.1++32::jq b:=by rw[jq,zyb h]
theorem zgt{a b:List T3}(ha:a≠[])(hb:b≠[]):jq (a++b)=jq a++32::jq b:=by rw[zHn ha,zyb hb]
theorem zHo(a:List T3):BL (sq a):=by
 cases a with
 |nil=>exact zAk
 |cons t ts=>exact ztd rfl
theorem zHp:∀{ts:List T3},(∀t∈ts,okT t)→LX (sq ts) ts
 |[],_=>zAl
 |t::ts,h=>by
  have:=zAn (zxx (c:=32) rfl (zAm (h t (List.mem_cons_self ..)))) (zHp fun x hx=>h x (mcQ _ hx)) (zHo ts);exact this
theorem zD2{ts:List T3}(h:∀t∈ts,okT t):LX (jq ts) ts:=by
 cases ts with
 |nil=>exact zAl
 |cons t ts=>exact zAn (zAm (h t (List.mem_cons_self ..))) (zHp fun x hx=>h x (mcQ _ hx)) (zHo ts)
def OKs(ts:List T3):Prop:=∀t∈ts,okT t
theorem KS:OKs []:=fun _ h=>by cases h
theorem y9{t:T3}{ts:List T3}(h:okT t)(hs:OKs ts):OKs (t::ts):=fun x hx=>by
 rcases List.mem_cons.1 hx with rfl|hx
 ·exact h
 ·exact hs x hx
theorem WX{a b:List T3}(ha:OKs a)(hb:OKs b):OKs (a++b):=fun x hx=>by
 rcases List.mem_append.1 hx with hx|hx
 ·exact ha x hx
 ·exact hb x hx
theorem zmf{n:Int}(h0:0≤n)(h1:n≤1099511627776):okT (zup n):=by
 have:=zDw (n:=n.toNat) (by omega);rw[Int.toNat_of_nonneg h0]at this;exact this
theorem Qw{w:List UInt8}(h:wu w=true):okT (kwQ w):=zxz h
theorem WY{op:Int}(h:zc7 op=true):op=4∨op=5∨op=6∨op=7∨op=8∨op=10∨op=11∨op=12∨op=13∨op=14:=by
 have:=zme h;omega
theorem zAs{op:Int}(h:zc7 op=true):okT (opQ op):=by
 rcases WY h with rfl|rfl|rfl|rfl|rfl|rfl|rfl|rfl|rfl|rfl<;>rfl
theorem zyc(op:Int):(opQ op).2.1=sgO op:=by
 unfold opQ;split<;>rfl
theorem zmg{t:List T3}{a b:Int}(h:t≠[]):qc t a b≠[]:=by
 unfold qc;split
 ·simp
 ·exact h
theorem JL{t:List T3}{a b:Int}(h:OKs t):OKs (qc t a b):=by
 unfold qc;split
 ·exact y9 rfl (WX h (y9 rfl KS))
 ·exact h
theorem zmh{t:List T3}{s:List UInt8}{a b:Int}(hn:t≠[])(h:s=jq t):atS s a b=jq (qc t a b):=by
 unfold atS qc;split
 ·rw[o5 (by simp),zgt hn (by simp),← h];rfl
 ·exact h
theorem jB{d:Nat}{e:Expr}(h:OX d e):yl d e≠[]∧OKs (yl d e)∧zR d e=jq (yl d e):=by
 induction h with
 |@num d n h1 h2 =>
  refine⟨by simp[yl],?_,?_⟩
  ·exact y9 (zmf h1 h2) KS
  ·show Lib.decDigits n.toNat=Lib.decDigits n.toNat++[]
   rw[List.append_nil]
 |@name d s h =>
  refine⟨by simp[yl],y9 (Qw h) KS,?_⟩
  show s=s++[]
  rw[List.append_nil]
 |@table d s k h1 h2 =>
  refine⟨by simp[yl],y9 rfl (y9 (Qw h1) (y9 (Qw h2) KS)),?_⟩
  show xO++(s++(t__++k))=xb++((32::s)++((32::k)++[]))
  rw[List.append_nil];rfl
 |@zone d s h =>
  refine⟨by simp[yl],y9 rfl (y9 (Qw h) KS),?_⟩
  show kY++s=xU++((32::s)++[])
  rw[List.append_nil];rfl
 |@neg d a _ ih =>
  obtain⟨i1,i2,i3⟩:=ih;refine⟨by simp[yl],y9 rfl (JL i2),?_⟩
  show Jl++atS (zR d a) (lvO a.Op) 7=jq (sgQ xA::qc (yl d a) (lvO a.Op) 7)
  rw[o5 (zmg i1),zmh i1 i3];rfl
 |@not d a _ ih =>
  obtain⟨i1,i2,i3⟩:=ih;refine⟨by simp[yl],y9 rfl (JL i2),?_⟩
  show K6++atS (zR d a) (lvO a.Op) 3=jq (kwQ jh::qc (yl d a) (lvO a.Op) 3)
  rw[o5 (zmg i1),zmh i1 i3];rfl
 |@cond d a b c _ _ _ ia ib ic =>
  obtain⟨a1,a2,a3⟩:=ia;obtain⟨b1,b2,b3⟩:=ib;obtain⟨c1,c2,c3⟩:=ic;refine⟨by simp[yl],y9 rfl (WX a2 (y9 rfl (WX b2 (y9 rfl c2)))),?_⟩
  show kB++(atS (zR d a) (lvO a.Op) 0++(yv++(atS (zR d b) (lvO b.Op) 0++(yu++atS (zR d c) (lvO c.Op) 0))))=jq (kwQ Jk::(yl d a++(kwQ jj::(yl d b++(kwQ wx::yl d c)))))
  rw[o5 (by simp),zgt a1 (by simp),o5 (by simp),zgt b1 (by simp),o5 c1,at0,at0,at0,a3,b3,c3];rfl
 |@bin d op a b hb _ _ ia ib =>
  obtain⟨a1,a2,a3⟩:=ia;obtain⟨b1,b2,b3⟩:=ib;rw[oZ hb,ztz hb];refine⟨by simp,WX (JL a2) (y9 (zAs hb) (JL b2)),?_⟩;rw[zgt (zmg a1) (by simp),o5 (zmg b1),zmh a1 a3,zmh b1 b3,zyc];rfl
def PX(lv:Nat)(r:List Token):Except EE ((Nat×Expr)×List Token) :=
 if lv≤0∧isB Jk r=true then thn (ifS r) fun e r=>.ok ((0,e),r)
 else if lv≤3∧isB jh r=true then thn (DE 3 r.tail) fun a r1=>.ok ((3,Expr.mk 15 0 [] [] [a]),r1)
 else if lv≤7∧isB xA r=true then thn (DE 7 r.tail) fun a r1=>.ok ((7,Expr.mk 9 0 [] [] [a]),r1)
 else thn (HA r) fun e r=>.ok ((8,e),r)
def KL(lv:Nat):Nat→Expr→List Token→Except EE (Expr×List Token)
 |0,e,r=>.ok (e,r)
 |k+1,e,r=>thn (LP (lv+k) e r) fun e r=>KL lv k e r
theorem zt0(lv:Nat):∀(k:Nat)(e:Expr)(r:List Token),KL lv (k+1) e r=thn (KL (lv+1) k e r) fun e r=>LP lv e r
 |0,e,r=>by simp only[KL,Nat.add_zero,ztj];rfl
 |k+1,e,r=>by
  rw[KL,KL,yp,show lv+(k+1)=lv+1+k by omega]
  exact y0 fun a r1 _=>zt0 lv k a r1
theorem JM{o:zd}(h:o∈OPS):∃f:Nat,o.form=(f:Int)∧(f=1∨f=2∨f=4∨f=5∨f=6)∧o.text≠[]:=by
 simp only[OPS,List.mem_cons,List.mem_nil_iff,or_false]at h
 rcases h with rfl|rfl|rfl|rfl|rfl|rfl|rfl|rfl|rfl|rfl
 ·exact⟨1,rfl,by omega,by decide⟩
 ·exact⟨2,rfl,by omega,by decide⟩
 ·exact⟨4,rfl,by omega,by decide⟩
 ·exact⟨4,rfl,by omega,by decide⟩
 ·exact⟨4,rfl,by omega,by decide⟩
 ·exact⟨5,rfl,by omega,by decide⟩
 ·exact⟨5,rfl,by omega,by decide⟩
 ·exact⟨6,rfl,by omega,by decide⟩
 ·exact⟨6,rfl,by omega,by decide⟩
 ·exact⟨6,rfl,by omega,by decide⟩
theorem zgu{lv:Nat}{r:List Token}(h:lv=0∨lv=3∨lv≥7):zcu lv r=none:=by
 cases ho:zcu lv r with
 |none=>rfl
 |some op =>
  obtain⟨o,h1,h2,_⟩:=kv ho;obtain⟨f,h3,h4,_⟩:=JM (wv h1).2.1;omega
theorem KT{lv:Nat}{e:Expr}{r:List Token}(hr:TWF r)(h:zcu lv r=none):LP lv e r=.ok (e,r):=by
 rw[zor hr,h]
theorem zD3{lv:Nat}{r:List Token}(hl:lv<8)(h0:¬(lv=0∧isB Jk r=true))(h3:¬(lv=3∧isB jh r=true))(h7:¬(lv=7∧isB xA r=true)):PX lv r=PX (lv+1) r:=by
 unfold PX
 have e0:(lv≤0∧isB Jk r=true)=False:=by simp only[eq_iff_iff,iff_false];intro hh;exact h0 ⟨by omega,hh.2⟩
 have e0':(lv+1≤0∧isB Jk r=true)=False:=by simp only[eq_iff_iff,iff_false];intro hh;omega
 have e3:(lv≤3∧isB jh r=true)=(lv+1≤3∧isB jh r=true):=by
  rw[eq_iff_iff];constructor
  ·intro hh
   refine⟨?_,hh.2⟩
   have:lv≠3:=fun e=>h3 ⟨e,hh.2⟩
   omega
  ·intro hh;exact⟨by omega,hh.2⟩
 have e7:(lv≤7∧isB xA r=true)=(lv+1≤7∧isB xA r=true):=by
  rw[eq_iff_iff];constructor
  ·intro hh
   refine⟨?_,hh.2⟩
   have:lv≠7:=fun e=>h7 ⟨e,hh.2⟩
   omega
  ·intro hh;exact⟨by omega,hh.2⟩
 simp only[e0,e0',e3,e7]
theorem zAt{lv:Nat}{r:List Token}{o:Nat}{e:Expr}{r1:List Token}(hl:lv≤8)(h:PX lv r=.ok ((o,e),r1)):lv≤o∧(o=0∨o=3∨o=7∨o=8):=by
 unfold PX at h;split at h
 ·obtain⟨a,r2,h1,h2⟩:=zL h;cases h2;rename_i hh;omega
 ·split at h
  ·obtain⟨a,r2,h1,h2⟩:=zL h;cases h2;rename_i hh;omega
  ·split at h
   ·obtain⟨a,r2,h1,h2⟩:=zL h;cases h2;rename_i hh;omega
   ·obtain⟨a,r2,h1,h2⟩:=zL h;cases h2;omega
theorem zt1{r r2:List Token}{e:Expr}(hr:TWF r)(hk:isB Jk r=true)(h:ifS r=.ok (e,r2)):Aft r r2:=by
 have:=WS (lv:=0) (by omega) hr;rw[if_pos ⟨rfl,hk⟩,h]at this;exact yI hr this
theorem zt2{lv:Nat}{r r2:List Token}{x:Nat×Expr}(hr:TWF r)(h:PX lv r=.ok (x,r2)):Aft r r2:=by
 unfold PX at h;split at h
 ·rename_i hb
  obtain⟨a,r1,h1,h2⟩:=zL h;cases h2;exact zt1 hr hb.2 h1
 ·split at h
  ·rename_i hb
   obtain⟨a,r1,h1,h2⟩:=zL h;cases h2;have ht:=zu hr (zC hb.2);exact ht.trans (yI ht.wf h1).e
  ·split at h
   ·rename_i hb
    obtain⟨a,r1,h1,h2⟩:=zL h;cases h2;have ht:=zu hr (zC hb.2);exact ht.trans (yI ht.wf h1).e
   ·obtain⟨a,r1,h1,h2⟩:=zL h;cases h2
    rw[← ztl hr]at h1;exact yI hr h1
theorem DE_PX:∀(k lv:Nat),8-lv=k→lv≤8→∀(r:List Token),TWF r→DE lv r=thn (PX lv r) fun x r1=>KL lv (x.1+1-lv) x.2 r1:=by
 intro k
 induction k with
 |zero =>
  intro lv hk hl r hr
  obtain rfl:lv=8:=by omega
  rw[ztl hr,PX,if_neg (by omega),if_neg (by omega),if_neg (by omega),yp]
  conv=>lhs;rw[← ztj (x:=HA r)]
  refine y0 fun e r1 h1=>?_
  show _=KL 8 1 e r1
  rw[← ztl hr]at h1;rw[KL,KT (yI hr h1).wf (zgu (by omega))];rfl
 |succ k ih =>
  intro lv hk hl r hr;rw[WS (by omega) hr]
  have one:∀(e:Expr)(r1:List Token),(lv=0∨lv=3∨lv=7)→TWF r1→KL lv (lv+1-lv) e r1=.ok (e,r1):=fun e r1 h h1=>by
   rw[show lv+1-lv=1 by omega,KL,Nat.add_zero,KT h1 (zgu (by omega))];rfl
  by_cases h0:lv=0∧isB Jk r=true
  ·rw[if_pos h0,PX,if_pos ⟨by omega,h0.2⟩,yp]
   conv=>lhs;rw[← ztj (x:=ifS r)]
   refine y0 fun e r1 h1=>?_
   have:=one e r1 (by omega) (zt1 hr h0.2 h1).wf;rw[h0.1]at this ⊢;exact this.symm
  ·rw[if_neg h0]
   by_cases h3:lv=3∧isB jh r=true
   ·rw[if_pos h3,PX,if_neg (by omega),if_pos ⟨by omega,h3.2⟩,yp]
    refine y0 fun a r1 h1=>?_
    have ht:=zu hr (zC h3.2);have:=one (Expr.mk 15 0 [] [] [a]) r1 (by omega) (yI ht.wf h1).wf;rw[h3.1]at this ⊢;exact this.symm
   ·rw[if_neg h3]
    by_cases h7:lv=7∧isB xA r=true
    ·rw[if_pos h7,PX,if_neg (by omega),if_neg (by omega),if_pos ⟨by omega,h7.2⟩,yp]
     refine y0 fun a r1 h1=>?_
     have ht:=zu hr (zC h7.2);have:=one (Expr.mk 9 0 [] [] [a]) r1 (by omega) (yI ht.wf h1).wf;rw[h7.1]at this ⊢;exact this.symm
    ·rw[if_neg h7,ih (lv+1) (by omega) (by omega) r hr,zD3 (by omega) h0 h3 h7,yp]
     refine y0 fun x r1 h1=>?_
     have:=(zAt (by omega) h1).1;rw[show x.1+1-lv=(x.1+1-(lv+1))+1 by omega,zt0]
def CL(lv own:Nat)(e:Expr)(r:List Token):Except EE (Expr×List Token):=match opR r with
 |none=>.ok (e,r)
 |some o=>if o.form<(lv:Int)∨(own:Int)<o.form∨(own=4∧o.form=4)then .ok (e,r)else
  if h:r.tail.length<r.length then thn (DE (o.form.toNat+1) r.tail) fun e2 r2=>if h2:r2.length<r.length then CL lv o.form.toNat (JK o.op e e2) r2 else oof else oof
termination_by r.length
theorem zjl{lv:Nat}{e:Expr}{r:List Token}(hr:TWF r):∀(k:Nat),(∀j,lv≤j→j<lv+k→zcu j r=none)→KL lv k e r=.ok (e,r)
 |0,_=>rfl
 |k+1,h=>by
  rw[KL,KT hr (h (lv+k) (by omega) (by omega))]
  exact zjl hr k fun j h1 h2=>h j h1 (by omega)
theorem zmi{lv:Nat}{e:Expr}{r:List Token}(hr:TWF r):∀(k j:Nat),(∀i,lv+j≤i→i<lv+j+k→zcu i r=none)→KL lv (j+k) e r=KL lv j e r
 |0,j,_=>rfl
 |k+1,j,h=>by
  rw[show j+(k+1)=(j+k)+1 by omega,KL,KT hr (h (lv+(j+k)) (by omega) (by omega))]
  exact zmi hr k j fun i h1 h2=>h i h1 (by omega)
theorem CL_KL(lv:Nat):∀(n:Nat)(r:List Token)(own:Nat)(e:Expr),r.length<n→TWF r→KL lv ((if own=4 then 3 else own)+1-lv) e r=CL lv own e r:=by
 intro n
 induction n with
 |zero=>intro r own e h;omega
 |succ n ih =>
  intro r own e hn hr;rw[CL]
  cases ho:opR r with
  |none=>exact zjl hr _ fun j _ _=>by rw[zcu,ho]
  |some o =>
   dsimp only;obtain⟨hk,hmem,_⟩:=wv ho;obtain⟨f,hf,hf2,_⟩:=JM hmem
   have hat:∀j,j≠f→zcu j r=none:=fun j hj=>by
    rw[zcu,ho];dsimp only;rw[if_neg (by rw[hf];omega)]
   have hatf:zcu f r=some o.op:=by
    rw[zcu,ho];dsimp only;rw[if_pos hf]
   rw[hf];by_cases hc:(f:Int)<(lv:Int)∨(own:Int)<(f:Int)∨(own=4∧(f:Int)=4)
   ·rw[if_pos hc]
    refine zjl hr _ fun j h1 h2=>hat j ?_
    rcases hc with hc|hc|hc
    ·omega
    ·split at h2<;>omega
    ·rw[if_pos hc.1]at h2;omega
   ·rw[if_neg hc]
    have ht:=zu hr hk;rw[dif_pos ht.lt,Int.toNat_natCast]
    have hle:lv≤f∧f≤(if own=4 then 3 else own):=by
     refine⟨by omega,?_⟩;split
     ·rename_i h4;subst h4;omega
     ·omega
    rw[show(if own=4 then 3 else own)+1-lv=(f-lv+1)+((if own=4 then 3 else own)-f) by omega,zmi hr _ _ (fun i h1 h2=>hat i (by omega)),KL,show lv+(f-lv)=f by omega,zor hr,hatf,yp]
    refine y0 fun e2 r2 h2=>?_
    have hq:=ht.trans (yI ht.wf h2).e;rw[dif_pos hq.lt,← ih r2 f (JK o.op e e2) (by have:=hq.lt;omega) hq.wf];by_cases h4:f=4
    ·subst h4
     rw[if_pos rfl,if_pos rfl]
     show KL lv (4-lv) _ r2=_
     rw[show 4-lv=3+1-lv by omega]
    ·rw[if_neg h4,if_neg h4,show f+1-lv=(f-lv)+1 by omega,KL,show lv+(f-lv)=f by omega]
theorem zHq{lv own:Nat}{e:Expr}{r:List Token}(hr:TWF r):CL lv own e r=match opR r with
 |none=>.ok (e,r)
 |some o=>if o.form<(lv:Int)∨(own:Int)<o.form∨(own=4∧o.form=4)then .ok (e,r)else thn (DE (o.form.toNat+1) r.tail) fun e2 r2=>CL lv o.form.toNat (JK o.op e e2) r2:=by
 rw[CL];split
 ·rfl
 ·rename_i o ho
  have ht:=zu hr (wv ho).1;rw[dif_pos ht.lt];split
  ·rfl
  ·refine y0 fun e2 r2 h2=>?_
   rw[dif_pos (ht.trans (yI ht.wf h2).e).lt]
theorem zHr{lv:Nat}{r:List Token}(hl:lv≤8)(hr:TWF r):DE lv r=thn (PX lv r) fun x r1=>CL lv x.1 x.2 r1:=by
 rw[DE_PX _ lv rfl hl r hr]
 refine y0 fun x r1 h1=>?_
 have ho:=(zAt (o:=x.1) (e:=x.2) hl h1).2;have:=CL_KL lv (r1.length+1) r1 x.1 x.2 (Nat.lt_succ_self _) (zt2 hr h1).wf;rw[if_neg (by omega)]at this;exact this
def tk(a:T3)(p:Int):Token:=Token.mk a.1 a.2.1 a.2.2 p
theorem map_nil{l:List Token}(h:l.map t3=[]):l=[]:=List.map_eq_nil_iff.1 h
theorem map_cons{l:List Token}{a:T3}{ts:List T3}(h:l.map t3=a::ts):∃p l',l=tk a p::l'∧l'.map t3=ts:=by
 obtain⟨t,l',rfl,rfl,h2⟩:=List.map_eq_cons_iff.1 h;exact⟨t.Pos,l',rfl,h2⟩
theorem WZ{l:List Token}{a b:List T3}(h:l.map t3=a++b):∃l1 l2,l=l1++l2∧l1.map t3=a∧l2.map t3=b:=List.map_eq_append_iff.1 h
theorem zyd{t:T3}(h:okT t):t.1=0∨t.1=1∨t.1=2:=by
 obtain⟨k,x,n⟩:=t;unfold okT at h;dsimp only at h ⊢
 cases x with
 |nil=>cases h
 |cons c x =>
  rw[wI]at h;split at h
  ·split at h
   ·exact .inl (congrArg (fun y:T3=>y.1) (Except.ok.inj h)).symm
   ·cases h
  ·split at h
   ·split at h
    ·exact .inr (.inl (congrArg (fun y:T3=>y.1) (Except.ok.inj h)).symm)
    ·cases h
   ·split at h
    ·exact .inr (.inr (congrArg (fun y:T3=>y.1) (Except.ok.inj h)).symm)
    ·cases h
theorem TWF.cons{t:Token}{r:List Token}(h:t.Kind≠3)(hr:TWF r):TWF (t::r):=by
 cases r with
 |nil=>exact hr.elim
 |cons u r=>exact⟨h,hr⟩
theorem zt3{t:T3}(h:okT t):t.1≠3:=by have:=zyd h;omega
theorem wJ{a:T3}{p:Int}{r:List Token}(h:okT a)(hr:TWF r):TWF (tk a p::r):=TWF.cons (zt3 h) hr
theorem vx:∀{ts:List T3}{l r:List Token},OKs ts→l.map t3=ts→TWF r→TWF (l++r)
 |[],l,r,_,h,hr=>by rw[map_nil h];exact hr
 |t::ts,l,r,ho,h,hr=>by
  obtain⟨p,l',rfl,h2⟩:=map_cons h;exact wJ (ho t (List.mem_cons_self ..)) (vx (fun x hx=>ho x (mcQ _ hx)) h2 hr)
def NO(lv:Nat)(r:List Token):Prop:=∀j,lv≤j→zcu j r=none
theorem NO.le{lv k:Nat}{r:List Token}(h:NO lv r)(hk:lv≤k):NO k r:=fun j hj=>h j (by omega)
theorem zou{r:List Token}{lv:Nat}(h:opR r=none):NO lv r:=fun j _=>by rw[zcu,h]
theorem kP(s:List UInt8)(a:T3)(p:Int)(r:List Token):isB s (tk a p::r)=((!(decide (a.1=3)))&&decide (a.2.1=s)):=rfl
theorem W1{n:Nat}{s:List UInt8}(h:s.all yG=false):Lib.decDigits n≠s:=fun e=>by
 have:=zcr n;rw[e,h]at this;cases this
theorem zye{s w:List UInt8}(h:wu s=true)(hw:wu w=false):s≠w:=fun e=>by
 rw[e,hw]at h;cases h
theorem zt4{d:Nat}{e:Expr}(h:OX d e):∀t ts,yl d e=t::ts→(t.2.1=Jk→lvO e.Op=0)∧(t.2.1=jh→lvO e.Op≤3)∧(t.2.1=xA→lvO e.Op≤7):=by
 induction h with
 |@num d n h1 h2 =>
  intro t ts e;obtain⟨rfl,rfl⟩:=List.cons.inj (show[zup n]=t::ts from e);exact⟨fun e=>absurd e (W1 rfl),fun e=>absurd e (W1 rfl),fun e=>absurd e (W1 rfl)⟩
 |@name d s h =>
  intro t ts e;obtain⟨rfl,rfl⟩:=List.cons.inj (show[kwQ s]=t::ts from e);exact⟨fun e=>absurd e (zye h (by decide +kernel)),fun e=>absurd e (zye h (by decide +kernel)),fun e=>absurd e (zye h (by decide +kernel))⟩
 |@table d s k h1 h2 =>
  intro t ts e;obtain⟨rfl,_⟩:=List.cons.inj (show[kwQ xb,kwQ s,kwQ k]=t::ts from e);exact⟨fun e=>absurd e (by decide),fun e=>absurd e (by decide),fun e=>absurd e (by decide)⟩
 |@zone d s h =>
  intro t ts e;obtain⟨rfl,_⟩:=List.cons.inj (show[kwQ xU,kwQ s]=t::ts from e);exact⟨fun e=>absurd e (by decide),fun e=>absurd e (by decide),fun e=>absurd e (by decide)⟩
 |@neg d a _ _ =>
  intro t ts e;obtain⟨rfl,_⟩:=List.cons.inj (show sgQ xA::_=t::ts from e);exact⟨fun e=>absurd e (by decide),fun e=>absurd e (by decide),fun _=>show lvO 9≤7 by decide⟩
 |@not d a _ _ =>
  intro t ts e;obtain⟨rfl,_⟩:=List.cons.inj (show kwQ jh::_=t::ts from e);exact⟨fun e=>absurd e (by decide),fun _=>show lvO 15≤3 by decide,fun e=>absurd e (by decide)⟩
 |@cond d a b c _ _ _ _ _ _ =>
  intro t ts e;obtain⟨rfl,_⟩:=List.cons.inj (show kwQ Jk::_=t::ts from e);exact⟨fun _=>show lvO 16=0 by decide,fun e=>absurd e (by decide),fun e=>absurd e (by decide)⟩
 |@bin d op a b hb ha _ ia _ =>
  intro t ts e;rw[oZ hb]at e
  have hl:1≤lvO op∧lvO op≤Yw op∧lvO op≤6:=by rcases WY hb with rfl|rfl|rfl|rfl|rfl|rfl|rfl|rfl|rfl|rfl<;>decide
  show(_→lvO op=0)∧(_→lvO op≤3)∧(_→lvO op≤7)
  by_cases hp:lvO a.Op<Yw op
  ·rw[qc,if_pos hp]at e
   obtain⟨rfl,_⟩:=List.cons.inj e;exact⟨fun e=>absurd e (by decide),fun e=>absurd e (by decide),fun e=>absurd e (by decide)⟩
  ·rw[qc,if_neg hp]at e
   cases hq:yl d a with
   |nil=>exact absurd hq (jB ha).1
   |cons u us =>
    rw[hq]at e;obtain⟨rfl,_⟩:=List.cons.inj e;obtain⟨h1,h2,h3⟩:=ia _ _ hq;exact⟨fun e=>by have:=h1 e;omega,fun e=>by have:=h2 e;omega,fun e=>by have:=h3 e;omega⟩
theorem zcw{x r:List Token}{e:Expr}(hx:TWF x)(hr:TWF r):∀(n lv k:Nat),lv+n=k→k≤8→(∀j,lv≤j→j<k→¬(j=0∧isB Jk x=true)∧¬(j=3∧isB jh x=true)∧¬(j=7∧isB xA x=true))→NO lv r→DE k x=.ok (e,r)→DE lv x=.ok (e,r)
 |0,lv,k,hk,_,_,_,h=>by
  obtain rfl:lv=k:=by omega
  exact h
 |n+1,lv,k,hk,h8,hh,hn,h=>by
  have ih:=zcw hx hr n (lv+1) k (by omega) h8 (fun j hj=>hh j (by omega)) (hn.le (by omega)) h;obtain⟨h1,h2,h3⟩:=hh lv (Nat.le_refl _) (by omega);rw[WS (by omega) hx,if_neg h1,if_neg h2,if_neg h3,ih];exact KT hr (hn lv (Nat.le_refl _))
theorem zAu{l r:List Token}{e:Expr}{p q:Int}{ts:List T3}(ho:OKs ts)(hl:l.map t3=ts)(hr:TWF r)(h:DE 0 (l++(tk (sgQ xL) q::r))=.ok (e,tk (sgQ xL) q::r)):DE 8 (tk (sgQ wB) p::(l++(tk (sgQ xL) q::r)))=.ok (e,r):=by
 have hw:TWF (tk (sgQ wB) p::(l++(tk (sgQ xL) q::r))):=wJ rfl (vx ho hl (wJ rfl hr));rw[ztl hw,HA]
 show thn (DE 0 (l++(tk (sgQ xL) q::r))) _=_
 rw[h];rfl
theorem zHs{lo hi n p:Int}{r:List Token}(h1:lo≤n)(h2:n≤hi):zth lo hi (tk (zup n) p::r)=.ok (n,r):=by
 unfold zth;rw[if_pos (show zl4 (tk (zup n) p::r)=true from rfl),if_pos (show lo≤(hdT (tk (zup n) p::r)).N∧(hdT (tk (zup n) p::r)).N≤hi from⟨h1,h2⟩)];rfl
theorem zHt{s:List UInt8}{p:Int}{r:List Token}(h:wu s=true):zAo (tk (kwQ s) p::r)=true:=by rw[← h];exact Bool.true_and _
theorem zcx{s:List UInt8}{p:Int}{r:List Token}(h:wu s=true):qZ (tk (kwQ s) p::r)=.ok (s,r):=by
 unfold qZ;rw[if_pos (zHt h)];rfl
def OwnP(e:Expr)(ts:List T3)(own:Nat):Prop:=(∀l r,l.map t3=ts→TWF r→NO own r→DE own (l++r)=.ok (e,r)) ∧
 (own=1∨own=2∨own=5∨own=6→∀l r,l.map t3=ts→TWF r→NO (own+1) r→DE own (l++r)=LP own e r)
def AtP(e:Expr)(ts:List T3):Prop:=(∀(lv:Nat)(l r:List Token),lv≤8→l.map t3=qc ts (lvO e.Op) lv→TWF r→NO lv r→DE lv (l++r)=.ok (e,r)) ∧
 (∀(L:Nat)(l r:List Token),L=1∨L=2∨L=5∨L=6→l.map t3=qc ts (lvO e.Op) L→TWF r→NO (L+1) r→DE L (l++r)=LP L e r)
theorem jy{d:Nat}{e:Expr}(h:OX d e){own:Nat}(he:lvO e.Op=own)(hp:OwnP e (yl d e) own):AtP e (yl d e):=by
 obtain⟨hne,hok,_⟩:=jB h;have hh:=zt4 h
 have h8:own≤8:=by have:=zjk e.Op;omega
 have hd:∀{x:List Token}{l r:List Token},l.map t3=yl d e→∀j,j<own→¬(j=0∧isB Jk (l++r)=true)∧¬(j=3∧isB jh (l++r)=true)∧¬(j=7∧isB xA (l++r)=true):=fun{x l r} hl j hj=>by
  cases hq:yl d e with
  |nil=>exact absurd hq hne
  |cons t ts =>
   rw[hq]at hl;obtain⟨p,l',rfl,_⟩:=map_cons hl;obtain⟨h1,h2,h3⟩:=hh t ts hq
   have tx:∀s,isB s (tk t p::l'++r)=true→t.2.1=s:=fun s e=>by
    rw[List.cons_append,kP,bn]at e;exact of_decide_eq_true e.2
   exact⟨fun⟨e1,e2⟩=>by have:=h1 (tx _ e2);omega,fun⟨e1,e2⟩=>by have:=h2 (tx _ e2);omega,fun⟨e1,e2⟩=>by have:=h3 (tx _ e2);omega⟩
 have plain:∀(lv:Nat)(l r:List Token),lv≤own→l.map t3=yl d e→TWF r→NO lv r→DE lv (l++r)=.ok (e,r):=fun lv l r hl hm hr hn =>
  zcw (vx hok hm hr) hr (own-lv) lv own (by omega) h8 (fun j _ hj=>hd (x:=l) hm j hj) hn (hp.1 l r hm hr (hn.le hl))
 have all:∀(lv:Nat)(l r:List Token),lv≤8→l.map t3=qc (yl d e) (lvO e.Op) lv→TWF r→NO lv r→DE lv (l++r)=.ok (e,r):=fun lv l r hl hm hr hn=>by
  by_cases hlt:lvO e.Op<lv
  ·rw[qc,if_pos hlt]at hm
   obtain⟨p,l1,rfl,hm2⟩:=map_cons hm;obtain⟨l2,l3,rfl,h2,h3⟩:=WZ hm2;obtain⟨q,l4,rfl,h4⟩:=map_cons h3;obtain rfl:=map_nil h4
   have e1:tk (sgQ wB) p::(l2++[tk (sgQ xL) q])++r=tk (sgQ wB) p::(l2++(tk (sgQ xL) q::r)):=by simp
   rw[e1];have hin:=plain 0 l2 (tk (sgQ xL) q::r) (Nat.zero_le _) h2 (wJ rfl hr) (zou rfl)
   exact zcw (wJ (a:=sgQ wB) rfl (vx hok h2 (wJ (a:=sgQ xL) rfl hr))) hr (8-lv) lv 8 (by omega) (Nat.le_refl _)
    (fun j _ _=>⟨fun hh=>absurd hh.2 (by rw[kP];decide),fun hh=>absurd hh.2 (by rw[kP];decide),fun hh=>absurd hh.2 (by rw[kP];decide)⟩) hn (zAu hok h2 hr hin)
  ·rw[qc,if_neg hlt]at hm
   exact plain lv l r (by omega) hm hr hn
 refine⟨all,fun L l r hL hm hr hn=>?_⟩;by_cases hlo:lvO e.Op=L
 ·have e1:own=L:=by omega
  subst e1;rw[qc,if_neg (by omega)]at hm;exact hp.2 hL l r hm hr hn
 ·have e1:qc (yl d e) (lvO e.Op) L=qc (yl d e) (lvO e.Op) ((L+1:Nat):Int):=by
   unfold qc;by_cases hlt:lvO e.Op<L
   ·rw[if_pos hlt,if_pos (by omega)]
   ·rw[if_neg hlt,if_neg (by omega)]
  have hx:TWF (l++r):=vx (JL hok) hm hr;rw[WS (by omega) hx,if_neg (by omega),if_neg (by omega),if_neg (by omega),all (L+1) l r (by omega) (by rw[hm,e1]) hr hn];rfl
theorem zAv{op:Int}(h:zc7 op=true){p:Int}{r:List Token}(j:Nat):zcu j (tk (opQ op) p::r)=if lvO op=(j:Int)then some op else none:=by
 have:∃o,opR (tk (opQ op) p::r)=some o∧o.form=lvO op∧o.op=op:=by
  rcases WY h with rfl|rfl|rfl|rfl|rfl|rfl|rfl|rfl|rfl|rfl<;>exact⟨_,rfl,rfl,rfl⟩
 obtain⟨o,h1,h2,h3⟩:=this;rw[zcu,h1];dsimp only;rw[h2,h3]
theorem zAw{op:Int}(h:zc7 op=true){p:Int}{r:List Token}{lv:Nat}(hl:lvO op<lv):NO lv (tk (opQ op) p::r):=fun j hj=>by
 rw[zAv h,if_neg (by omega)]
theorem zt5{d:Nat}{e:Expr}(h:OX d e):AtP e (yl d e):=by
 induction h with
 |@num d n h1 h2 =>
  refine jy (own:=8) (.num h1 h2) rfl ⟨fun l r hm hr hn=>?_,fun h=>by omega⟩;obtain⟨p,l,rfl,h⟩:=map_cons (show l.map t3=[zup n] from hm);obtain rfl:=map_nil h
  show DE 8 (tk (zup n) p::r)=_
  rw[ztl (wJ (zmf h1 h2) hr),HA,if_pos (show zl4 (tk (zup n) p::r)=true from rfl)];rw[zHs h1 h2];rfl
 |@name d s hs =>
  refine jy (own:=8) (.name hs) rfl ⟨fun l r hm hr hn=>?_,fun h=>by omega⟩;obtain⟨p,l,rfl,h⟩:=map_cons (show l.map t3=[kwQ s] from hm);obtain rfl:=map_nil h
  have no:∀w,wu w=false→¬isB w (tk (kwQ s) p::r)=true:=fun w hw e=>by
   rw[kP,bn]at e;exact zye hs hw (of_decide_eq_true e.2)
  show DE 8 (tk (kwQ s) p::r)=_
  rw[ztl (wJ (Qw hs) hr),HA,if_neg (show ¬zl4 (tk (kwQ s) p::r)=true from fun e=>by cases e),if_neg (no _ (by decide +kernel)),if_neg (no _ (by decide +kernel)),if_neg (no _ (by decide +kernel))];rw[zcx hs];rfl
 |@table d s k h1 h2 =>
  refine jy (own:=8) (.table h1 h2) rfl ⟨fun l r hm hr hn=>?_,fun h=>by omega⟩;obtain⟨p,l,rfl,h⟩:=map_cons (show l.map t3=[kwQ xb,kwQ s,kwQ k] from hm);obtain⟨p2,l2,rfl,ha⟩:=map_cons h;obtain⟨p3,l3,rfl,hb⟩:=map_cons ha;obtain rfl:=map_nil hb
  show DE 8 (tk (kwQ xb) p::tk (kwQ s) p2::tk (kwQ k) p3::r)=_
  rw[ztl (wJ (a:=kwQ xb) rfl (wJ (Qw h1) (wJ (Qw h2) hr))),HA,if_neg (show ¬zl4 (tk (kwQ xb) p::tk (kwQ s) p2::tk (kwQ k) p3::r)=true from fun e=>by cases e),if_pos (by rw[kP];decide)]
  show thn (qZ (tk (kwQ s) p2::tk (kwQ k) p3::r)) _=_
  rw[zcx h1]
  show thn (qZ (tk (kwQ k) p3::r)) _=_
  rw[zcx h2];rfl
 |@zone d s hs =>
  refine jy (own:=8) (.zone hs) rfl ⟨fun l r hm hr hn=>?_,fun h=>by omega⟩;obtain⟨p,l,rfl,h⟩:=map_cons (show l.map t3=[kwQ xU,kwQ s] from hm);obtain⟨p2,l2,rfl,ha⟩:=map_cons h;obtain rfl:=map_nil ha
  show DE 8 (tk (kwQ xU) p::tk (kwQ s) p2::r)=_
  rw[ztl (wJ (a:=kwQ xU) rfl (wJ (Qw hs) hr)),HA,if_neg (show ¬zl4 (tk (kwQ xU) p::tk (kwQ s) p2::r)=true from fun e=>by cases e),if_neg (by rw[kP];decide),if_pos (by rw[kP];decide)]
  show thn (qZ (tk (kwQ s) p2::r)) _=_
  rw[zcx hs];rfl
 |@neg d a ha ia =>
  refine jy (own:=7) (.neg ha) rfl ⟨fun l r hm hr hn=>?_,fun h=>by omega⟩;obtain⟨p,l,rfl,h⟩:=map_cons (show l.map t3=sgQ xA::qc (yl d a) (lvO a.Op) 7 from hm)
  show DE 7 (tk (sgQ xA) p::(l++r))=_
  have hw:=wJ (a:=sgQ xA) (p:=p) rfl (vx (JL (jB ha).2.1) h hr);rw[WS (by omega) hw,if_neg (by omega),if_neg (by omega),if_pos ⟨rfl,by rw[kP];decide⟩]
  show thn (DE 7 (l++r)) _=_
  rw[ia.1 7 l r (by omega) h hr hn];rfl
 |@not d a ha ia =>
  refine jy (own:=3) (.not ha) rfl ⟨fun l r hm hr hn=>?_,fun h=>by omega⟩;obtain⟨p,l,rfl,h⟩:=map_cons (show l.map t3=kwQ jh::qc (yl d a) (lvO a.Op) 3 from hm)
  show DE 3 (tk (kwQ jh) p::(l++r))=_
  have hw:=wJ (a:=kwQ jh) (p:=p) rfl (vx (JL (jB ha).2.1) h hr);rw[WS (by omega) hw,if_neg (by omega),if_pos ⟨rfl,by rw[kP];decide⟩]
  show thn (DE 3 (l++r)) _=_
  rw[ia.1 3 l r (by omega) h hr hn];rfl
 |@cond d a b c ha hb hc ia ib ic =>
  refine jy (own:=0) (.cond ha hb hc) rfl ⟨fun l r hm hr hn=>?_,fun h=>by omega⟩;obtain⟨p,l,rfl,h⟩:=map_cons (show l.map t3=kwQ Jk::(yl d a++(kwQ jj::(yl d b++(kwQ wx::yl d c)))) from hm);obtain⟨l1,m1,rfl,h1,q1⟩:=WZ h;obtain⟨p2,m2,rfl,q2⟩:=map_cons q1;obtain⟨l2,m3,rfl,h2,q3⟩:=WZ q2;obtain⟨p3,l,rfl,h3⟩:=map_cons q3
  have e1:tk (kwQ Jk) p::(l1++tk (kwQ jj) p2::(l2++tk (kwQ wx) p3::l))++r=tk (kwQ Jk) p::(l1++(tk (kwQ jj) p2::(l2++(tk (kwQ wx) p3::(l++r))))):=by simp
  rw[e1];have w3:=wJ (a:=kwQ wx) (p:=p3) rfl (vx (jB hc).2.1 h3 hr);have w2:=wJ (a:=kwQ jj) (p:=p2) rfl (vx (jB hb).2.1 h2 w3);have w1:=wJ (a:=kwQ Jk) (p:=p) rfl (vx (jB ha).2.1 h1 w2);rw[WS (by omega) w1,if_pos ⟨rfl,by rw[kP];decide⟩,ifS]
  show thn (DE 0 (l1++(tk (kwQ jj) p2::(l2++(tk (kwQ wx) p3::(l++r)))))) _=_
  rw[ia.1 0 l1 _ (by omega) (by rw[h1];exact zEl.symm) w2 (zou rfl)]
  show thn (DE 0 (l2++(tk (kwQ wx) p3::(l++r)))) _=_
  rw[ib.1 0 l2 _ (by omega) (by rw[h2];exact zEl.symm) w3 (zou rfl)]
  show thn (DE 0 (l++r)) _=_
  rw[ic.1 0 l r (by omega) (by rw[h3];exact zEl.symm) hr hn];rfl
 |@bin d op a b ho ha hb ia ib =>
  have key:∀{own:Nat},lvO op=own→∀l r,l.map t3=yl (d+1) (JK op a b)→TWF r→NO (own+1) r→(own=4→DE own (l++r)=.ok (JK op a b,r))∧(own=1∨own=2∨own=5∨own=6→DE own (l++r)=LP own (JK op a b) r):=fun{own} hw l r hm hr hn=>by
   rw[oZ ho]at hm;obtain⟨l1,l,rfl,h1,h⟩:=WZ hm;obtain⟨p,l,rfl,h2⟩:=map_cons h
   have e1:l1++tk (opQ op) p::l++r=l1++(tk (opQ op) p::(l++r)):=by simp
   rw[e1];have w2:TWF (l++r):=vx (JL (jB hb).2.1) h2 hr;have w1:TWF (tk (opQ op) p::(l++r)):=wJ (zAs ho) w2;have w0:TWF (l1++(tk (opQ op) p::(l++r))):=vx (JL (jB ha).2.1) h1 w1
   have h8:own≤6:=by
    have:lvO op≤6:=by rcases WY ho with rfl|rfl|rfl|rfl|rfl|rfl|rfl|rfl|rfl|rfl<;>decide
    omega
   have hB:DE (own+1) (l++r)=.ok (b,r):=ib.1 (own+1) l r (by omega) (by rw[h2,hw];rfl) hr hn
   have hLP:LP own a (tk (opQ op) p::(l++r))=if own=4 then .ok (JK op a b,r)else LP own (JK op a b) r:=by
    rw[zor w1,zAv ho,if_pos hw]
    show thn (DE (own+1) (l++r)) _=_
    rw[hB];rfl
   constructor
   ·rintro rfl
    rw[WS (by omega) w0,if_neg (by omega),if_neg (by omega),if_neg (by omega),ia.1 5 l1 _ (by omega) (by rw[h1,Yw,if_pos (show lvO op=4 from hw)];rfl) w1 (zAw ho (by omega))]
    show LP 4 a _=_
    rw[hLP,if_pos rfl]
   ·intro hc
    rw[ia.2 own l1 _ hc (by rw[h1,Yw,if_neg (by omega),hw]) w1 (zAw ho (by omega)),hLP,if_neg (by omega)]
  obtain⟨own,hw⟩:∃own:Nat,lvO op=own:=⟨(lvO op).toNat,by have:=zjk op;omega⟩
  have hc:own=4∨own=1∨own=2∨own=5∨own=6:=by
   have:lvO op=4∨lvO op=1∨lvO op=2∨lvO op=5∨lvO op=6:=by rcases WY ho with rfl|rfl|rfl|rfl|rfl|rfl|rfl|rfl|rfl|rfl<;>decide
   omega
  refine jy (own:=own) (.bin ho ha hb) hw ⟨fun l r hm hr hn=>?_,fun h l r hm hr hn=>(key hw l r hm hr hn).2 h⟩;obtain⟨k1,k2⟩:=key hw l r hm hr (hn.le (Nat.le_succ _))
  rcases hc with h|h
  ·exact k1 h
  ·rw[k2 h]
   exact KT hr (hn own (Nat.le_refl _))
inductive GD:Bool→Nat→Expr→Nat→Prop
 |num {n:Int}:0≤n→n≤1099511627776→GD true 8 ⟨0,n,[],[],[]⟩ 1
 |name {s:List UInt8}:wu s=true→GD true 8 ⟨1,0,s,[],[]⟩ 1
 |table {s k:List UInt8}:wu s=true→wu k=true→GD true 8 ⟨2,0,s,k,[]⟩ 3
 |zone {s:List UInt8}:wu s=true→GD true 8 ⟨3,0,s,[],[]⟩ 2
 |par {e:Expr} {k:Nat}:GD true 0 e k→GD true 8 e (k+2)
 |cond {a b c:Expr} {i j k:Nat}:GD true 0 a i→GD true 0 b j→GD true 0 c k→GD true 0 ⟨16,0,[],[],[a,b,c]⟩ (i+j+k+3)
 |not {a:Expr} {k:Nat}:GD true 3 a k→GD true 3 ⟨15,0,[],[],[a]⟩ (k+1)
 |neg {a:Expr} {k:Nat}:GD true 7 a k→GD true 7 ⟨9,0,[],[],[a]⟩ (k+1)
 |up {lv:Nat} {e:Expr} {k:Nat}:lv<8→GD true (lv+1) e k→GD false lv e k
 |step {lv:Nat} {op:Int} {a b:Expr} {k j:Nat}:lvO op=lv→zc7 op=true→lv≠4→GD false lv a k→GD true (lv+1) b j→GD false lv (JK op a b) (k+j+1)
 |cmp {op:Int} {a b:Expr} {k j:Nat}:lvO op=4→zc7 op=true→GD true 5 a k→GD true 5 b j→GD true 4 (JK op a b) (k+j+1)
 |done {lv:Nat} {e:Expr} {k:Nat}:GD false lv e k→GD true lv e k
theorem zcy{r r2:List Token}{s:List UInt8}(h:qZ r=.ok (s,r2)):r2=r.tail∧wu s=true:=by
 unfold qZ at h;split at h
 ·rename_i hk
  cases h;simp only[zAo,bn]at hk;exact⟨rfl,hk.2⟩
 ·cases h
theorem zHu{r r2:List Token}{lo hi n:Int}(h:zth lo hi r=.ok (n,r2)):r2=r.tail∧lo≤n∧n≤hi:=by
 unfold zth at h;split at h
 ·split at h
  ·rename_i hn
   cases h;exact⟨rfl,hn⟩
  ·cases h
 ·cases h
theorem zjm{r r2:List Token}{s:List UInt8}{u:Unit}(h:KP s r=.ok (u,r2)):r2=r.tail:=by
 unfold KP at h;split at h
 ·cases h;rfl
 ·cases h
theorem zHv{r:List Token}{lv:Nat}{op:Int}(h:zcu lv r=some op):zc7 op=true∧lvO op=lv:=by
 obtain⟨o,ho,h1,rfl⟩:=kv h;have hm:=(wv ho).2.1
 have:∀o∈OPS,zc7 o.op=true∧lvO o.op=o.form:=by
  intro o ho;simp only[OPS,List.mem_cons,List.mem_nil_iff,or_false]at ho
  rcases ho with rfl|rfl|rfl|rfl|rfl|rfl|rfl|rfl|rfl|rfl<;>exact⟨rfl,rfl⟩
 exact⟨(this o hm).1,(this o hm).2.trans h1⟩
theorem zyf:∀(n:Nat),(∀(lv:Nat)(r:List Token),lv≤8→r.length<n→TWF r→∀e r2,DE lv r=.ok (e,r2)→∃k,GD true lv e k∧k+r2.length=r.length) ∧
  (∀(lv:Nat)(e:Expr)(k:Nat)(r:List Token),lv<8→r.length<n→TWF r→GD true (lv+1) e k∨(lv≠4∧GD false lv e k)→∀e2 r2,LP lv e r=.ok (e2,r2)→∃j,GD true lv e2 (k+j)∧j+r2.length=r.length):=by
 intro n
 induction n with
 |zero=>exact⟨fun _ _ _ h=>by omega,fun _ _ _ _ _ h=>by omega⟩
 |succ n ih =>
  have hLP:∀(lv:Nat)(e:Expr)(k:Nat)(r:List Token),lv<8→r.length<n+1→TWF r→GD true (lv+1) e k∨(lv≠4∧GD false lv e k)→∀e2 r2,LP lv e r=.ok (e2,r2)→∃j,GD true lv e2 (k+j)∧j+r2.length=r.length:=by
   intro lv e k r hlv hn hr hg e2 r2 h;rw[zor hr]at h;split at h
   ·cases h
    exact⟨0,.done (by rcases hg with hg|hg;exact .up hlv hg;exact hg.2),by omega⟩
   ·rename_i op hop
    obtain⟨hb,hl⟩:=zHv hop;obtain⟨o,ho,_⟩:=kv hop;have ht:=zu hr (wv ho).1;obtain⟨a,r1,h1,h2⟩:=zL h;have g:=vu hr;have ha:=yI ht.wf h1;have g1:=ha.lt;obtain⟨j,k1,k2⟩:=ih.1 (lv+1) _ (by omega) (by omega) ht.wf _ _ h1;split at h2
    ·rename_i h4
     subst h4;cases h2;refine⟨j+1,?_,by omega⟩
     rcases hg with hg|hg
     ·exact GD.cmp hl hb hg k1
     ·exact absurd rfl hg.1
    ·rename_i h4
     have ga:GD false lv e k:=by
      rcases hg with hg|hg
      ·exact .up hlv hg
      ·exact hg.2
     obtain⟨m,q1,q2⟩:=ih.2 lv _ _ _ hlv (by omega) ha.wf (.inr ⟨h4,GD.step hl hb h4 ga k1⟩) _ _ h2;exact⟨j+1+m,by rw[show k+(j+1+m)=k+j+1+m by omega];exact q1,by omega⟩
  refine⟨fun lv=>?_,hLP⟩
  have key:∀(k lv:Nat),8-lv=k→lv≤8→∀(r:List Token),r.length<n+1→TWF r→∀e r2,DE lv r=.ok (e,r2)→∃k,GD true lv e k∧k+r2.length=r.length:=by
   intro k
   induction k with
   |zero =>
    intro lv hk hl r hn hr e r2 h
    obtain rfl:lv=8:=by omega
    rw[ztl hr]at h;unfold HA at h;have g:=vu hr;split at h
    ·obtain⟨a,r1,h1,h2⟩:=zL h
     cases h2;obtain⟨rfl,q1,q2⟩:=zHu h1;exact⟨1,.num q1 q2,by omega⟩
    ·split at h
     ·rename_i hb
      have ht:=zu hr (zC hb);obtain⟨a,r1,h1,h2⟩:=zL h;obtain⟨b,r3,h3,h4⟩:=zL h2;cases h4;have w1:=vv ht.wf h1;obtain⟨rfl,q1⟩:=zcy h1;obtain⟨rfl,q2⟩:=zcy h3;have:=vu ht.wf;have:=vu w1.wf;exact⟨3,.table q1 q2,by omega⟩
     ·split at h
      ·rename_i hb
       have ht:=zu hr (zC hb);obtain⟨a,r1,h1,h2⟩:=zL h;cases h2;obtain⟨rfl,q1⟩:=zcy h1;have:=vu ht.wf;exact⟨2,.zone q1,by omega⟩
      ·split at h
       ·rename_i hb
        have ht:=zu hr (zC hb);obtain⟨a,r1,h1,h2⟩:=zL h;obtain⟨b,r3,h3,h4⟩:=zL h2;cases h4;obtain⟨k,q1,q2⟩:=ih.1 0 _ (by omega) (by omega) ht.wf _ _ h1;obtain rfl:=zjm h3;have:=vu (yI ht.wf h1).wf;exact⟨k+2,.par q1,by omega⟩
       ·obtain⟨a,r1,h1,h2⟩:=zL h
        cases h2;obtain⟨rfl,q1⟩:=zcy h1;exact⟨1,.name q1,by omega⟩
   |succ k ihk =>
    intro lv hk hl r hn hr e r2 h;rw[WS (by omega) hr]at h;have g:=vu hr;split at h
    ·rename_i hb
     unfold ifS at h;have ht:=zu hr (zC hb.2);obtain⟨a,r1,h1,h⟩:=zL h;obtain⟨u,r3,h3,h⟩:=zL h;obtain⟨b,r4,h4,h⟩:=zL h;obtain⟨u,r5,h5,h⟩:=zL h;obtain⟨c,r6,h6,h⟩:=zL h;cases h;have w1:=yI ht.wf h1;have w3:=yN w1.wf h3;have w4:=yI w3.wf h4;have w5:=yN w4.wf h5;have:=w1.lt;have:=w3.lt;have:=w4.lt;have:=w5.lt;obtain⟨i,a1,a2⟩:=ih.1 0 _ (by omega) (by omega) ht.wf _ _ h1;obtain⟨j,b1,b2⟩:=ih.1 0 _ (by omega) (by omega) w3.wf _ _ h4;obtain⟨m,c1,c2⟩:=ih.1 0 _ (by omega) (by omega) w5.wf _ _ h6;obtain rfl:=zjm h3;obtain rfl:=zjm h5;have:=vu w1.wf;have:=vu w4.wf;obtain rfl:lv=0:=hb.1;exact⟨i+j+m+3,.cond a1 b1 c1,by omega⟩
    ·split at h
     ·rename_i hb
      have ht:=zu hr (zC hb.2);obtain⟨a,r1,h1,h⟩:=zL h;cases h;obtain⟨i,a1,a2⟩:=ih.1 3 _ (by omega) (by omega) ht.wf _ _ h1;obtain rfl:lv=3:=hb.1;exact⟨i+1,.not a1,by omega⟩
     ·split at h
      ·rename_i hb
       have ht:=zu hr (zC hb.2);obtain⟨a,r1,h1,h⟩:=zL h;cases h;obtain⟨i,a1,a2⟩:=ih.1 7 _ (by omega) (by omega) ht.wf _ _ h1;obtain rfl:lv=7:=hb.1;exact⟨i+1,.neg a1,by omega⟩
      ·obtain⟨a,r1,h1,h⟩:=zL h
       obtain⟨i,a1,a2⟩:=ihk (lv+1) (by omega) (by omega) r hn hr _ _ h1;have w1:=yI hr h1;have:=w1.lt;obtain⟨j,b1,b2⟩:=ih.2 lv a i r1 (by omega) (by omega) w1.wf (.inl a1) _ _ h;exact⟨i+j,b1,by omega⟩
  exact fun r hl=>key _ lv rfl hl r
theorem DE_gd{lv:Nat}{r r2:List Token}{e:Expr}(hl:lv≤8)(hr:TWF r)(h:DE lv r=.ok (e,r2)):∃k,GD true lv e k∧k+r2.length=r.length:=(zyf (r.length+1)).1 lv r hl (Nat.lt_succ_self _) hr e r2 h
def fmG(b:Bool)(lv:Nat):Int:=if b=false∧lv=4 then 5 else lv
theorem KU{t:List T3}{a b:Int}:(qc t a b).length=if a<b then t.length+2 else t.length:=by
 unfold qc;split<;>simp
theorem zmj{t:List T3}{a b c:Int}(h:b≤c):(qc t a b).length≤(qc t a c).length:=by
 rw[KU,KU];split<;>split<;>omega
theorem zyg{b:Bool}{lv:Nat}{e:Expr}{k:Nat}(h:GD b lv e k):∀d,OX d e→(qc (yl d e) (lvO e.Op) (fmG b lv)).length≤k:=by
 induction h with
 |num h1 h2 =>
  intro d hd
  cases d with
  |zero=>cases hd
  |succ d=>exact Nat.le_refl 1
 |name h =>
  intro d hd
  cases d with
  |zero=>cases hd
  |succ d=>exact Nat.le_refl 1
 |table h1 h2 =>
  intro d hd
  cases d with
  |zero=>cases hd
  |succ d=>exact Nat.le_refl 3
 |zone h =>
  intro d hd
  cases d with
  |zero=>cases hd
  |succ d=>exact Nat.le_refl 2
 |@par e k _ ih =>
  intro d hd;have:=ih d hd;rw[KU]at this ⊢;split at this<;>split<;>omega
 |@cond a b c i j k _ _ _ ia ib ic =>
  intro d hd
  cases hd with
  |@cond d _ _ _ ha hb hc =>
   have:=ia d ha;have:=ib d hb;have:=ic d hc
   show(qc (kwQ Jk::(yl d a++(kwQ jj::(yl d b++(kwQ wx::yl d c))))) 0 0).length≤_
   rw[KU]at *
   have e0:∀op:Int,¬lvO op<fmG true 0:=fun op=>by have:=zjk op;show ¬lvO op<0;omega
   rw[if_neg (e0 _)]at *;rw[if_neg (by omega)];simp only[lc,la];omega
 |@not a k _ ih =>
  intro d hd
  cases hd with
  |@not d _ ha =>
   have:=ih d ha
   show(kwQ jh::qc (yl d a) (lvO a.Op) 3).length≤_
   rw[lc];exact Nat.succ_le_succ this
 |@neg a k _ ih =>
  intro d hd
  cases hd with
  |@neg d _ ha =>
   have:=ih d ha
   show(sgQ xA::qc (yl d a) (lvO a.Op) 7).length≤_
   rw[lc];exact Nat.succ_le_succ this
 |@up lv e k hl _ ih =>
  intro d hd;refine Nat.le_trans (zmj ?_) (ih d hd);unfold fmG;split<;>simp<;>omega
 |@step lv op a b k j hl hb h4 _ _ ia ib =>
  intro d hd
  obtain⟨d,rfl⟩:∃m,d=m+1:=by cases d with
   |zero=>cases hd
   |succ d=>exact⟨d,rfl⟩
  have hab:OX d a∧OX d b:=by
   generalize hx:JK op a b=x at hd
   cases hd with
   |bin h2 p q=>cases hx;exact⟨p,q⟩
   |num _ _=>cases hx
   |name _=>cases hx
   |table _ _=>cases hx
   |zone _=>cases hx
   |neg _=>cases hx
   |not _=>cases hx
   |cond _ _ _=>cases hx
  have q1:=ia d hab.1;have q2:=ib d hab.2;rw[oZ hb]
  show(qc _ (lvO op) (fmG false lv)).length≤_
  have e1:fmG false lv=lv:=if_neg (by omega)
  have e2:fmG true (lv+1)=lvO op+1:=by rw[hl];rfl
  have e3:Yw op=lv:=by rw[Yw,if_neg (by omega)];exact hl
  rw[e1]at q1 ⊢;rw[e2]at q2;rw[KU,if_neg (by omega),la,lc,e3];omega
 |@cmp op a b k j hl hb _ _ ia ib =>
  intro d hd
  obtain⟨d,rfl⟩:∃m,d=m+1:=by cases d with
   |zero=>cases hd
   |succ d=>exact⟨d,rfl⟩
  have hab:OX d a∧OX d b:=by
   generalize hx:JK op a b=x at hd
   cases hd with
   |bin h2 p q=>cases hx;exact⟨p,q⟩
   |num _ _=>cases hx
   |name _=>cases hx
   |table _ _=>cases hx
   |zone _=>cases hx
   |neg _=>cases hx
   |not _=>cases hx
   |cond _ _ _=>cases hx
  have h1:(qc (yl d a) (lvO a.Op) 5).length≤k:=ia d hab.1;have h2:(qc (yl d b) (lvO b.Op) 5).length≤j:=ib d hab.2;rw[oZ hb]
  show(qc _ (lvO op) 4).length≤_
  rw[KU,if_neg (by omega),la,lc,Yw,if_pos hl,hl]
  show _+((qc (yl d b) (lvO b.Op) 5).length+1)≤_
  omega
 |@done lv e k _ ih =>
  intro d hd;refine Nat.le_trans (zmj ?_) (ih d hd);unfold fmG;split<;>simp<;>omega
theorem zAx{d:Nat}{e:Expr}(h:OX d e):WT e≤d:=by
 induction h with
 |num _ _=>simp[WT,zjh]
 |name _=>simp[WT,zjh]
 |table _ _=>simp[WT,zjh]
 |zone _=>simp[WT,zjh]
 |neg _ ih=>simp only[WT,zjh];omega
 |not _ ih=>simp only[WT,zjh];omega
 |cond _ _ _ i1 i2 i3=>simp only[WT,zjh];omega
 |bin _ _ _ i1 i2=>unfold JK;simp only[WT,zjh];omega
theorem lzQ:(∀a b:List UInt8,(a++b).length=a.length+b.length)∧og.length=2∧oI.length=2∧t__.length=1∧xO.length=6∧kY.length=5∧kB.length=3∧yv.length=6∧yu.length=6∧K6.length=4∧Jl.length=2:=⟨fun _ _=>List.length_append,rfl,rfl,rfl,rfl,rfl,rfl,rfl,rfl,rfl,rfl⟩
theorem kQ{t:List UInt8}{a b:Int}(h:a<b):atS t a b=og++(t++oI):=if_pos h
theorem jU{t:List UInt8}{a b:Int}(h:¬a<b):atS t a b=t:=if_neg h
theorem l28:og.length=2:=rfl
theorem l29:oI.length=2:=rfl
theorem lsp:t__.length=1:=rfl
theorem ltb:xO.length=6:=rfl
theorem lzn:kY.length=5:=rfl
theorem lif:kB.length=3:=rfl
theorem lth:yv.length=6:=rfl
theorem lel:yu.length=6:=rfl
theorem lnt:K6.length=4:=rfl
theorem lmi:Jl.length=2:=rfl
theorem i29:oI=[32,41]:=rfl
theorem vR{e:Expr}{i:Nat}(h:i<e.Args.length):idx e.Args (i:Int)=some (yO e i):=by
 refine xP ?_;unfold yO;rw[List.getD_eq_getElem?_getD,List.getElem?_eq_getElem h];rfl
theorem zD4{e:Expr}{i:Nat}(h:i<e.Args.length):yO e i∈e.Args:=by
 unfold yO;rw[List.getD_eq_getElem?_getD,List.getElem?_eq_getElem h];exact List.getElem_mem h
def WrOK(RK:Nat)(d:Nat)(e:Expr):Prop:=∀i,i<e.Args.length→∀(b:List UInt8)(f:Int),b.length+(atS (zR d (yO e i)) (lvO (yO e i).Op) f).length≤140737488355328→y3 RK b (yO e i) f=some (b++atS (zR d (yO e i)) (lvO (yO e i).Op) f)
theorem zyh{RK d:Nat}{e:Expr}(ih:WrOK RK d e)(hl:e.Args.length=3){b:List UInt8}(hb:b.length+(kB++(atS (zR d (yO e 0)) (lvO (yO e 0).Op) 0++(yv++(atS (zR d (yO e 1)) (lvO (yO e 1).Op) 0++(yu++atS (zR d (yO e 2)) (lvO (yO e 2).Op) 0))))).length≤140737488355328)(c1 c2:Int)(c3 c4:List UInt8):
  wW (y3 RK) ((3:Nat):Int) c1 c2 c3 c4 e.Args ([kB,yv,yu]:List (List UInt8)) KK (b,0)=some (b++(kB++(atS (zR d (yO e 0)) (lvO (yO e 0).Op) 0++(yv++(atS (zR d (yO e 1)) (lvO (yO e 1).Op) 0++(yu++atS (zR d (yO e 2)) (lvO (yO e 2).Op) 0)))))):=by
 obtain⟨k,hk⟩:∃k,KK=k+4:=⟨KK-4,by have:=jx (n:=100) (by omega);omega⟩
 simp only[la,lif,lth,lel]at hb;have i0:idx e.Args 0=some (yO e 0):=vR (i:=0) (by omega);have i1:idx e.Args 1=some (yO e 1):=vR (i:=1) (by omega);have i2:idx e.Args 2=some (yO e 2):=vR (i:=2) (by omega);rw[hk,wW];simp only[show decide ((0:Int)<((3:Nat):Int))=true from rfl,ctQ];rw[yA (by decide),bsQ,show(([kB,yv,yu]:List (List UInt8)))[(Int.toNat 0)]?=some kB from rfl,bsQ,zX (by rw[lif];omega),bsQ,i0,bsQ];simp only[];rw[ih 0 (by omega) _ _ (by simp only[la,lif];omega),bsQ,show w64 (0+1)=1 from rfl,wW];simp only[show decide ((1:Int)<((3:Nat):Int))=true from rfl,ctQ];rw[yA (by decide),bsQ,show(([kB,yv,yu]:List (List UInt8)))[(Int.toNat 1)]?=some yv from rfl,bsQ,zX (by simp only[la,lif,lth];omega),bsQ,i1,bsQ];simp only[];rw[ih 1 (by omega) _ _ (by simp only[la,lif,lth];omega),bsQ,show w64 (1+1)=2 from rfl,wW];simp only[show decide ((2:Int)<((3:Nat):Int))=true from rfl,ctQ];rw[yA (by decide),bsQ,show(([kB,yv,yu]:List (List UInt8)))[(Int.toNat 2)]?=some yu from rfl,bsQ,zX (by simp only[la,lif,lth,lel];omega),bsQ,i2,bsQ];simp only[];rw[ih 2 (by omega) _ _ (by simp only[la,lif,lth,lel];omega),bsQ,show w64 (2+1)=3 from rfl,wW];simp only[show decide ((3:Int)<((3:Nat):Int))=false from rfl,cf,asc]
theorem zyi{RK d:Nat}{e:Expr}(ih:WrOK RK d e)(hl:e.Args.length=3){b:List UInt8}(hb:b.length+(kB++(atS (zR d (yO e 0)) (lvO (yO e 0).Op) 0++(yv++(atS (zR d (yO e 1)) (lvO (yO e 1).Op) 0++(yu++atS (zR d (yO e 2)) (lvO (yO e 2).Op) 0))))).length≤140737488355328)(c1 c2:Int)(c3 c4:List UInt8):
  wX (y3 RK) ((3:Nat):Int) c1 c2 c3 c4 e.Args ([kB,yv,yu]:List (List UInt8)) KK (b,0)=some (b++(kB++(atS (zR d (yO e 0)) (lvO (yO e 0).Op) 0++(yv++(atS (zR d (yO e 1)) (lvO (yO e 1).Op) 0++(yu++atS (zR d (yO e 2)) (lvO (yO e 2).Op) 0)))))):=by
 obtain⟨k,hk⟩:∃k,KK=k+4:=⟨KK-4,by have:=jx (n:=100) (by omega);omega⟩
 simp only[la,lif,lth,lel]at hb;have i0:idx e.Args 0=some (yO e 0):=vR (i:=0) (by omega);have i1:idx e.Args 1=some (yO e 1):=vR (i:=1) (by omega);have i2:idx e.Args 2=some (yO e 2):=vR (i:=2) (by omega);rw[hk,wX];simp only[show decide ((0:Int)<((3:Nat):Int))=true from rfl,ctQ];rw[yA (by decide),bsQ,show(([kB,yv,yu]:List (List UInt8)))[(Int.toNat 0)]?=some kB from rfl,bsQ,zX (by rw[lif];omega),bsQ,i0,bsQ];simp only[];rw[ih 0 (by omega) _ _ (by simp only[la,lif];omega),bsQ,show w64 (0+1)=1 from rfl,wX];simp only[show decide ((1:Int)<((3:Nat):Int))=true from rfl,ctQ];rw[yA (by decide),bsQ,show(([kB,yv,yu]:List (List UInt8)))[(Int.toNat 1)]?=some yv from rfl,bsQ,zX (by simp only[la,lif,lth];omega),bsQ,i1,bsQ];simp only[];rw[ih 1 (by omega) _ _ (by simp only[la,lif,lth];omega),bsQ,show w64 (1+1)=2 from rfl,wX];simp only[show decide ((2:Int)<((3:Nat):Int))=true from rfl,ctQ];rw[yA (by decide),bsQ,show(([kB,yv,yu]:List (List UInt8)))[(Int.toNat 2)]?=some yu from rfl,bsQ,zX (by simp only[la,lif,lth,lel];omega),bsQ,i2,bsQ];simp only[];rw[ih 2 (by omega) _ _ (by simp only[la,lif,lth,lel];omega),bsQ,show w64 (2+1)=3 from rfl,wX];simp only[show decide ((3:Int)<((3:Nat):Int))=false from rfl,cf,asc]
theorem zov{RK d:Nat}{e:Expr}{b:List UInt8}{f:Int}(hh:xf e=true)(ih:WrOK RK d e)(hb:b.length+(atS (zR (d+1) e) (lvO e.Op) f).length≤140737488355328):y3 (RK+1) b e f=some (b++atS (zR (d+1) e) (lvO e.Op) f):=by
 obtain⟨⟨h0,h1,hl⟩,⟨n0,n1⟩,hs,hk,_⟩:=ZU hh;have hsg:=zAr e.Op;have hlv:=zjk e.Op;rw[y3,vZ,ztx h0 h1];simp only[bsQ];by_cases o0:e.Op=0
 ·have hT:zR (d+1) e=Lib.decDigits e.N.toNat:=by rw[zR,if_pos o0]
  rw[hT]at hb ⊢;have hd:=ztv (n:=e.N.toNat) (by omega);by_cases hf:lvO e.Op<f
  ·rw[kQ hf]at hb ⊢
   try simp only[lzQ]at hb
   simp only[dt hf,ctQ,cf,dt o0,];rw[zX (by (try simp only[lzQ]);omega),bsQ]
   try simp only[]
   rw[ztw n0 (by omega),bsQ]
   try simp only[]
   rw[zX (by (try simp only[lzQ]);omega),bsQ]
   try simp only[]
   rw[oY (by (try simp only[lzQ]);omega),bsQ]
   try simp only[]
   try simp only[asc,i29]
  ·rw[jU hf]at hb ⊢
   try simp only[lzQ]at hb
   simp only[df hf,ctQ,cf,dt o0,];rw[ztw n0 (by omega),bsQ]
   try simp only[]
   rw[zX (by (try simp only[lzQ]);omega),bsQ]
   try simp only[]
   try simp only[asc,i29]
 by_cases o1:e.Op=1
 ·have hT:zR (d+1) e=e.S:=by rw[zR,if_neg o0,if_pos o1]
  rw[hT]at hb ⊢;by_cases hf:lvO e.Op<f
  ·rw[kQ hf]at hb ⊢
   try simp only[lzQ]at hb
   simp only[dt hf,ctQ,cf,df o0,dt o1,];rw[zX (by (try simp only[lzQ]);omega),bsQ]
   try simp only[]
   rw[zX (by (try simp only[lzQ]);omega),bsQ]
   try simp only[]
   rw[oY (by (try simp only[lzQ]);omega),bsQ]
   try simp only[]
   try simp only[asc,i29]
  ·rw[jU hf]at hb ⊢
   try simp only[lzQ]at hb
   simp only[df hf,ctQ,cf,df o0,dt o1,];rw[zX (by (try simp only[lzQ]);omega),bsQ]
   try simp only[]
   try simp only[asc,i29]
 by_cases o2:e.Op=2
 ·have hT:zR (d+1) e=xO++(e.S++(t__++e.Key)):=by rw[zR,if_neg o0,if_neg o1,if_pos o2]
  rw[hT]at hb ⊢;by_cases hf:lvO e.Op<f
  ·rw[kQ hf]at hb ⊢
   try simp only[lzQ]at hb
   simp only[dt hf,ctQ,cf,df o0,df o1,dt o2,];rw[zX (by (try simp only[lzQ]);omega),bsQ]
   try simp only[]
   rw[yA (by (try simp only[lzQ]);omega),bsQ]
   try simp only[]
   rw[yA (by (try simp only[lzQ]);omega),bsQ]
   try simp only[]
   rw[yA (by (try simp only[lzQ]);omega),bsQ]
   try simp only[]
   rw[zX (by (try simp only[lzQ]);omega),bsQ]
   try simp only[]
   rw[oY (by (try simp only[lzQ]);omega),bsQ]
   try simp only[]
   try simp only[asc,i29]
  ·rw[jU hf]at hb ⊢
   try simp only[lzQ]at hb
   simp only[df hf,ctQ,cf,df o0,df o1,dt o2,];rw[yA (by (try simp only[lzQ]);omega),bsQ]
   try simp only[]
   rw[yA (by (try simp only[lzQ]);omega),bsQ]
   try simp only[]
   rw[yA (by (try simp only[lzQ]);omega),bsQ]
   try simp only[]
   rw[zX (by (try simp only[lzQ]);omega),bsQ]
   try simp only[]
   try simp only[asc,i29]
 by_cases o3:e.Op=3
 ·have hT:zR (d+1) e=kY++e.S:=by rw[zR,if_neg o0,if_neg o1,if_neg o2,if_pos o3]
  rw[hT]at hb ⊢;by_cases hf:lvO e.Op<f
  ·rw[kQ hf]at hb ⊢
   try simp only[lzQ]at hb
   simp only[dt hf,ctQ,cf,df o0,df o1,df o2,dt o3,];rw[zX (by (try simp only[lzQ]);omega),bsQ]
   try simp only[]
   rw[yA (by (try simp only[lzQ]);omega),bsQ]
   try simp only[]
   rw[zX (by (try simp only[lzQ]);omega),bsQ]
   try simp only[]
   rw[oY (by (try simp only[lzQ]);omega),bsQ]
   try simp only[]
   try simp only[asc,i29]
  ·rw[jU hf]at hb ⊢
   try simp only[lzQ]at hb
   simp only[df hf,ctQ,cf,df o0,df o1,df o2,dt o3,];rw[yA (by (try simp only[lzQ]);omega),bsQ]
   try simp only[]
   rw[zX (by (try simp only[lzQ]);omega),bsQ]
   try simp only[]
   try simp only[asc,i29]
 by_cases o16:e.Op=16
 ·have hT:zR (d+1) e=kB++(atS (zR d (yO e 0)) (lvO (yO e 0).Op) 0++(yv++(atS (zR d (yO e 1)) (lvO (yO e 1).Op) 0++(yu++atS (zR d (yO e 2)) (lvO (yO e 2).Op) 0)))):=by rw[zR,if_neg o0,if_neg o1,if_neg o2,if_neg o3,if_pos o16]
  rw[hT]at hb ⊢
  have hn:e.Args.length=3:=by rw[o16]at hl;have:kC 16=3:=rfl;omega
  have i0:idx e.Args 0=some (yO e 0):=vR (i:=0) (by omega);have i1:idx e.Args 1=some (yO e 1):=vR (i:=1) (by omega);have i2:idx e.Args 2=some (yO e 2):=vR (i:=2) (by omega);by_cases hf:lvO e.Op<f
  ·rw[kQ hf]at hb ⊢
   try simp only[lzQ]at hb
   simp only[dt hf,ctQ,cf,df o0,df o1,df o2,df o3,dt o16,];rw[zX (by (try simp only[lzQ]);omega),bsQ]
   try simp only[]
   rw[zyh ih hn (by (try simp only[lzQ]);omega),bsQ]
   try simp only[]
   rw[oY (by (try simp only[lzQ]);omega),bsQ]
   try simp only[]
   try simp only[asc,i29]
  ·rw[jU hf]at hb ⊢
   try simp only[lzQ]at hb
   simp only[df hf,ctQ,cf,df o0,df o1,df o2,df o3,dt o16,];rw[zyi ih hn (by (try simp only[lzQ]);omega),bsQ]
   try simp only[]
   try simp only[asc,i29]
 by_cases o15:e.Op=15
 ·have hT:zR (d+1) e=K6++atS (zR d (yO e 0)) (lvO (yO e 0).Op) 3:=by rw[zR,if_neg o0,if_neg o1,if_neg o2,if_neg o3,if_neg o16,if_pos o15]
  rw[hT]at hb ⊢
  have hn:e.Args.length=1:=by rw[o15]at hl;have:kC 15=1:=rfl;omega
  have i0:idx e.Args 0=some (yO e 0):=vR (i:=0) (by omega)
  have hv:lvO e.Op=3:=by rw[o15];rfl
  by_cases hf:lvO e.Op<f
  ·rw[kQ hf]at hb ⊢
   try simp only[lzQ]at hb
   simp only[dt hf,ctQ,cf,df o0,df o1,df o2,df o3,df o16,dt o15,];rw[zX (by (try simp only[lzQ]);omega),bsQ]
   try simp only[]
   rw[zX (by (try simp only[lzQ]);omega),bsQ]
   try simp only[]
   rw[i0,bsQ]
   try simp only[]
   simp only[hv];rw[ih 0 (by omega) _ _ (by (try simp only[lzQ]);omega),bsQ]
   try simp only[]
   rw[oY (by (try simp only[lzQ]);omega),bsQ]
   try simp only[]
   try simp only[asc,i29]
  ·rw[jU hf]at hb ⊢
   try simp only[lzQ]at hb
   simp only[df hf,ctQ,cf,df o0,df o1,df o2,df o3,df o16,dt o15,];rw[zX (by (try simp only[lzQ]);omega),bsQ]
   try simp only[]
   rw[i0,bsQ]
   try simp only[]
   simp only[hv];rw[ih 0 (by omega) _ _ (by (try simp only[lzQ]);omega),bsQ]
   try simp only[]
   try simp only[asc,i29]
 by_cases o9:e.Op=9
 ·have hT:zR (d+1) e=Jl++atS (zR d (yO e 0)) (lvO (yO e 0).Op) 7:=by rw[zR,if_neg o0,if_neg o1,if_neg o2,if_neg o3,if_neg o16,if_neg o15,if_pos o9]
  rw[hT]at hb ⊢
  have hn:e.Args.length=1:=by rw[o9]at hl;have:kC 9=1:=rfl;omega
  have i0:idx e.Args 0=some (yO e 0):=vR (i:=0) (by omega)
  have hv:lvO e.Op=7:=by rw[o9];rfl
  by_cases hf:lvO e.Op<f
  ·rw[kQ hf]at hb ⊢
   try simp only[lzQ]at hb
   simp only[dt hf,ctQ,cf,df o0,df o1,df o2,df o3,df o16,df o15,dt o9,];rw[zX (by (try simp only[lzQ]);omega),bsQ]
   try simp only[]
   rw[zX (by (try simp only[lzQ]);omega),bsQ]
   try simp only[]
   rw[i0,bsQ]
   try simp only[]
   simp only[hv];rw[ih 0 (by omega) _ _ (by (try simp only[lzQ]);omega),bsQ]
   try simp only[]
   rw[oY (by (try simp only[lzQ]);omega),bsQ]
   try simp only[]
   try simp only[asc,i29]
  ·rw[jU hf]at hb ⊢
   try simp only[lzQ]at hb
   simp only[df hf,ctQ,cf,df o0,df o1,df o2,df o3,df o16,df o15,dt o9,];rw[zX (by (try simp only[lzQ]);omega),bsQ]
   try simp only[]
   rw[i0,bsQ]
   try simp only[]
   simp only[hv];rw[ih 0 (by omega) _ _ (by (try simp only[lzQ]);omega),bsQ]
   try simp only[]
   try simp only[asc,i29]
 ·have hT:zR (d+1) e=atS (zR d (yO e 0)) (lvO (yO e 0).Op) (if lvO e.Op=4 then 5 else lvO e.Op)++(t__++(sgO e.Op++(t__++atS (zR d (yO e 1)) (lvO (yO e 1).Op) (lvO e.Op+1)))):=by rw[zR,if_neg o0,if_neg o1,if_neg o2,if_neg o3,if_neg o16,if_neg o15,if_neg o9]
  rw[hT]at hb ⊢
  have hn:e.Args.length=2:=by
   have:kC e.Op=2:=by unfold kC;rw[if_neg (by omega),if_neg (by omega),if_neg o16]
   omega
  have hbin:zc7 e.Op=true:=by unfold zc7;exact dt (by omega)
  have i0:idx e.Args 0=some (yO e 0):=vR (i:=0) (by omega);have i1:idx e.Args 1=some (yO e 1):=vR (i:=1) (by omega)
  have hx:(bif (decide (lvO e.Op=4))then some (lvO e.Op+1)else some (lvO e.Op))=some (if lvO e.Op=4 then 5 else lvO e.Op):=by
   by_cases h4:lvO e.Op=4
   ·rw[dt h4,if_pos h4,h4];rfl
   ·rw[df h4,if_neg h4];rfl
  have hw:w64 (lvO e.Op+1)=lvO e.Op+1:=wy (by omega) (by omega);by_cases hf:lvO e.Op<f
  ·rw[kQ hf]at hb ⊢
   try simp only[lzQ]at hb
   simp only[dt hf,ctQ,cf,df o0,df o1,df o2,df o3,df o16,df o15,df o9,hbin,hx,hw,bsQ];rw[zX (by (try simp only[lzQ]);omega),bsQ]
   try simp only[]
   rw[i0,bsQ]
   try simp only[]
   rw[ih 0 (by omega) _ _ (by (try simp only[lzQ]);omega),bsQ]
   try simp only[]
   rw[yA (by (try simp only[lzQ]);omega),bsQ]
   try simp only[]
   rw[yA (by (try simp only[lzQ]);omega),bsQ]
   try simp only[]
   rw[zX (by (try simp only[lzQ]);omega),bsQ]
   try simp only[]
   rw[i1,bsQ]
   try simp only[]
   rw[ih 1 (by omega) _ _ (by (try simp only[lzQ]);omega),bsQ]
   try simp only[]
   rw[oY (by (try simp only[lzQ]);omega),bsQ]
   try simp only[]
   try simp only[asc,i29]
  ·rw[jU hf]at hb ⊢
   try simp only[lzQ]at hb
   simp only[df hf,ctQ,cf,df o0,df o1,df o2,df o3,df o16,df o15,df o9,hbin,hx,hw,bsQ];rw[i0,bsQ]
   try simp only[]
   rw[ih 0 (by omega) _ _ (by (try simp only[lzQ]);omega),bsQ]
   try simp only[]
   rw[yA (by (try simp only[lzQ]);omega),bsQ]
   try simp only[]
   rw[yA (by (try simp only[lzQ]);omega),bsQ]
   try simp only[]
   rw[zX (by (try simp only[lzQ]);omega),bsQ]
   try simp only[]
   rw[i1,bsQ]
   try simp only[]
   rw[ih 1 (by omega) _ _ (by (try simp only[lzQ]);omega),bsQ]
   try simp only[]
   try simp only[asc,i29]
theorem zmk:∀(d:Nat)(e:Expr)(K:Nat)(b:List UInt8)(f:Int),okE d e=true→d<K→b.length+(atS (zR d e) (lvO e.Op) f).length≤140737488355328→y3 K b e f=some (b++atS (zR d e) (lvO e.Op) f)
 |0,e,K,b,f,h,_,_=>by cases h
 |d+1,e,K,b,f,h,hK,hb=>by
  obtain⟨K,rfl⟩:∃k,K=k+1:=⟨K-1,by omega⟩
  rw[okE,bn]at h;exact zov h.1 (fun i hi b f hb=>zmk d _ K b f (List.all_eq_true.1 h.2 _ (zD4 hi)) (by omega) hb) hb
theorem zyj{d:Nat}(h:d≤12):100*4 ^ d≤1677721600:=by
 have:4 ^ d≤4 ^ 12:=Nat.pow_le_pow_right (by omega) h;have:(4:Nat) ^ 12=16777216:=rfl;omega
theorem at_root{d:Nat}{e:Expr}:atS (zR d e) (lvO e.Op) 0=zR d e:=jU (by have:=zjk e.Op;omega)
theorem zow{e:Expr}(h:okE 12 e=true):y3 KK [] e 0=some (zR 12 e):=by
 have hl:=zmd 12 e h;have hp:=zyj (d:=12) (by omega);have:=zmk 12 e KK [] 0 h (jx (by omega)) (by rw[at_root];simp only[List.length_nil];omega);rw[at_root,List.nil_append]at this;exact this
def zt6(e:Expr):List UInt8×Int:=if okE 12 e=true then(if(zR 12 e).length≤8000 then(zR 12 e,0)else([],6))else([],1)
theorem zgv{e:Expr}(h:zuo e=true):vJ e=some (zt6 e):=by
 unfold vJ zt6;rw[vZ,Qv (zma h),bsQ]
 cases hk:okE 12 e with
 |false=>rfl
 |true =>
  rw[if_pos rfl,Bool.not_true,cf,zow hk,bsQ];unfold zif vC;rw[bsQ];by_cases hl:(zR 12 e).length≤8000
  ·rw[if_pos hl,df (by omega)];rfl
  ·rw[if_neg hl,dt (by omega)];rfl
theorem zgw{α:Type}(l:List α)(g:α→List UInt8)(L:Nat→Int→List UInt8→Option (List UInt8))(M:Nat)(Inv:List UInt8→Prop)
  (hL:∀K (i:Nat) x s,l[i]?=some x→Inv s→(s++g x).length≤M→L (K+1) (i:Int) s=L K ((i+1:Nat):Int) (s++g x)∧Inv (s++g x)) (hE:∀K s,L (K+1) (l.length:Int) s=some s):
  ∀(r:List α)(i K:Nat)(s:List UInt8),l.drop i=r→i≤l.length→r.length<K→Inv s→(s++r.flatMap g).length≤M→L K (i:Int) s=some (s++r.flatMap g)∧Inv (s++r.flatMap g)
 |[],i,K,s,hr,hi,hK,hI,hM=>by
  obtain⟨K,rfl⟩:∃k,K=k+1:=⟨K-1,by simp at hK;omega⟩
  have:=drop_nil hr hi;subst this;rw[hE];simp only[List.flatMap_nil,List.append_nil,true_and];exact hI
 |x::r,i,K,s,hr,hi,hK,hI,hM=>by
  obtain⟨K,rfl⟩:∃k,K=k+1:=⟨K-1,by simp at hK;omega⟩
  obtain⟨h1,h2,h3⟩:=xD hr;simp only[lc]at hK;rw[List.flatMap_cons,← asc]at hM ⊢;obtain⟨e1,e2⟩:=hL K i x s h1 hI (by rw[la]at hM;omega);rw[e1];exact zgw l g L M Inv hL hE r (i+1) K _ h2 (by omega) (by omega) e2 hM
theorem zt7{α:Type}(l:List α)(g:α→List UInt8)(L:Nat→Int→List UInt8→Option (List UInt8))(M:Nat)(Inv:List UInt8→Prop){s:List UInt8}(hs:l.length<4611686018427387904)(h0:Inv s)(hM:(s++l.flatMap g).length≤M)
  (hL:∀K (i:Nat) x s,l[i]?=some x→Inv s→(s++g x).length≤M→L (K+1) (i:Int) s=L K ((i+1:Nat):Int) (s++g x)∧Inv (s++g x)) (hE:∀K s,L (K+1) (l.length:Int) s=some s):
  L KK 0 s=some (s++l.flatMap g)∧Inv (s++l.flatMap g):=zgw l g L M Inv hL hE l 0 KK s rfl (Nat.zero_le _) (jx (by omega)) h0 hM
def zjn:List (List UInt8)→List UInt8
 |[]=>[]
 |n::r=>n++r.flatMap fun x=>32::x
theorem zyk{m:Nat}(h1:2≤m)(h2:m≤10000):((grd ((w64 (((m:Nat):Int)-1))≠0)).bind fun _=>(bif (decide (((1:Nat):Int)≥(w64 (Int.tdiv 9223372036854775807 (w64 (((m:Nat):Int)-1))))))then none else some (w64 (0+(w64 (((1:Nat):Int)*(w64 (((m:Nat):Int)-1))))))))=some ((m:Int)-1):=by
 have e:w64 (((m:Nat):Int)-1)=((m-1:Nat):Int):=by rw[wy (by omega) (by omega)];omega
 have hq:2≤9223372036854775807 / (m-1):=(Nat.le_div_iff_mul_le (by omega)).2 (by omega);have hq2:9223372036854775807 / (m-1)≤9223372036854775807:=Nat.div_le_self _ _;have et:Int.tdiv 9223372036854775807 ((m-1:Nat):Int)=((9223372036854775807 / (m-1):Nat):Int):=rfl;rw[e,yA (by omega),bsQ,et,wy (by omega) (by omega),df (by omega),cf,wy (n:=((1:Nat):Int)*((m-1:Nat):Int)) (by omega) (by omega),wy (by omega) (by omega)];exact congrArg some (by omega)
theorem join_eq{l:List (List UInt8)}(h0:l≠[])(h1:l.length≤10000)(h2:∀s∈l,s.length≤8000):V9 l t__=some (zjn l):=by
 unfold V9 J.wG
 obtain⟨n,r,rfl⟩:∃n r,l=n::r:=by
  cases l with
  |nil=>exact absurd rfl h0
  |cons n r=>exact⟨n,r,rfl⟩
 rw[df (show ¬(((n::r).length:Nat):Int)=0 by simp only[lc];omega),cf];by_cases hr:r=[]
 ·subst hr
  rw[dt (show((([n]:List (List UInt8)).length:Nat):Int)=1 from rfl),ctQ,show idx [n] 0=some n from rfl];simp[zjn]
 ·have hr1:1≤r.length:=by
   cases r with
   |nil=>exact absurd rfl hr
   |cons=>simp
  have hlen:(n::r).length=r.length+1:=rfl;rw[df (show ¬(((n::r).length:Nat):Int)=1 by omega),cf,dt (show((List.length t__:Nat):Int)>0 by decide),ctQ];have:=zyk (m:=(n::r).length) (by omega) (by omega);rw[show(List.length t__:Nat)=1 from rfl,this,bsQ]
  have hsum:=zgr (n::r) (fun(s:Int) x=>s+((x.length:Nat):Int)) (fun s=>some s) (fun i s=>0≤s∧s≤10000+8000*(i:Int)) (fun K q s=>J.yh (n::r) t__ (List.length (n::r):Nat) K (s,q)) ((((n::r).length:Nat):Int)-1) (by omega) ⟨by omega,by omega⟩ (fun K i x s hx hs=>by
   have hi:=ztr hx;have h30:=h2 x (List.mem_of_getElem? hx);refine⟨?_,by omega,by omega⟩
   show J.yh _ _ _ (K+1) (s,(i:Int))=_
   rw[J.yh];simp only[zji hx,ctQ,xP hx,bsQ]
   rw[wy (n:=9223372036854775807-s) (by omega) (by omega),df (by omega),cf,wy (by omega) (by omega),kN (by omega)]) (fun K s hs=>by
   show J.yh _ _ _ (K+1) (s,_)=_
   rw[J.yh]
   simp only[WV,cf])
  obtain⟨e1,e2,e3⟩:=hsum;rw[e1,bsQ]
  have hg:J.zk0 (List.foldl (fun(s:Int) x=>s+((x.length:Nat):Int)) ((((n::r).length:Nat):Int)-1) (n::r))=some []:=by
   unfold J.zk0 J.zr6;rw[yA (by omega)];rfl
  have hn:=h2 n (List.mem_cons_self ..)
  have hb:J.yt [] n=some (((n.length:Nat):Int),n):=by
   unfold J.yt;rw[yA (by simp only[List.length_nil];omega)];rfl
  have hc:cut (n::r) 1 (((n::r).length:Nat):Int)=some r:=by
   have:=zcm (l:=n::r) (a:=1) (by omega);simpa using this
  have hi0:idx (n::r) 0=some n:=xP (i:=0) rfl;rw[hg,bsQ,hi0,bsQ,hb,bsQ,hc,bsQ]
  have ht:=zt7 r (fun x=>32::x) (fun K q s=>J.yi t__ r (List.length r:Nat) K (q,s)) 1000000000 (fun _=>True) (s:=n) (by omega) trivial (by
    have:∀r:List (List UInt8),(∀s∈r,s.length≤8000)→(r.flatMap fun x=>32::x).length≤8001*r.length:=fun r=>by
     induction r with
     |nil=>intro _;simp
     |cons a r ih=>intro h;have:=ih (fun s hs=>h s (mcQ _ hs));have:=h a (List.mem_cons_self ..);simp only[List.flatMap_cons,la,lc];omega
    have:=this r (fun s hs=>h2 s (mcQ _ hs))
    rw[la];omega) (fun K i x s hx _ hM=>by
   have hi:=ztr hx;refine⟨?_,trivial⟩
   show J.yi _ _ _ (K+1) ((i:Int),s)=_
   simp only[la,lc]at hM;rw[J.yi];simp only[zji hx,ctQ,xP hx,bsQ,J.yt]
   rw[yA (by rw[lsp];omega),bsQ,bsQ,yA (by rw[la,lsp];omega),bsQ,bsQ,kN (by omega),asc];rfl) (fun K s=>by
   show J.yi _ _ _ (K+1) (_,s)=_
   rw[J.yi]
   simp only[WV,cf])
  rw[ht.1];rfl
theorem zyl{l:List (List UInt8)}(h1:l.length≤10000)(h2:∀s∈l,s.length≤8000):V9 l t__=some (zjn l):=by
 by_cases h0:l=[]
 ·subst h0
  unfold V9 J.wG;rfl
 ·exact join_eq h0 h1 h2
def tx(l:List Token):List Token:=l.filter fun t=>!(decide (t.Kind=3))
theorem zt8:∀(l:List Token)(s:List (List UInt8)),l.foldl (fun s x=>bif !(decide (x.Kind=3))then s++[x.Text]else s) s=s++(tx l).map Token.Text
 |[],s=>by simp[tx]
 |x::l,s=>by
  rw[List.foldl_cons,zt8 l];unfold tx;rw[List.filter_cons];cases decide (x.Kind=3)<;>simp
theorem zAy{l:List Token}(h1:l.length≤10000)(h2:∀t∈l,t.Text.length≤8000):Jv l=some (zjn ((tx l).map Token.Text)):=by
 unfold Jv
 have key:=zgr l (fun(s:List (List UInt8)) x=>bif !(decide (x.Kind=3))then s++[x.Text]else s) (fun s=>some s) (fun i s=>s.length≤i) (fun K q s=>xX l (List.length l:Nat) K (q,s)) [] (by omega) (Nat.le_refl _) (fun K i x s hx hs=>by
  have hi:=ztr hx;constructor
  ·show xX _ _ (K+1) ((i:Int),s)=_
   rw[xX];simp only[zji hx,ctQ,xP hx,bsQ,kN (show i<9223372036854775807 by omega)];cases decide (x.Kind=3)
   ·simp only[Bool.not_false,ctQ]
    rw[yA (by simp only[la,lc,List.length_nil];omega)];rfl
   ·rfl
  ·cases decide (x.Kind=3)
   ·simp only[Bool.not_false,ctQ,la,lc,List.length_nil];omega
   ·simp only[Bool.not_true,cf];omega) (fun K s hs=>by
  show xX _ _ (K+1) (_,s)=_
  rw[xX]
  simp only[WV,cf])
 rw[key.1,bsQ,zt8,List.nil_append,zyl (by
  rw[List.length_map]
  exact Nat.le_trans (List.length_filter_le _ _) h1) (fun s hs=>by
  obtain⟨t,ht,rfl⟩:=List.mem_map.1 hs
  exact h2 t (List.mem_filter.1 ht).1)];rfl
theorem zt9:∀ts:List Token,zjn (ts.map Token.Text)=jq (ts.map t3)
 |[]=>rfl
 |t::ts=>by
  rw[mk9,mk9,zjn,jq,sq,List.flatMap_map,List.flatMap_map];rfl
theorem zua{l:List Token}{p:Nat}(h:OKs (l.map t3)):tx (l++[wb p])=l:=by
 unfold tx;rw[List.filter_append,show([wb p].filter fun t=>!(decide (t.Kind=3)))=[] from rfl,List.append_nil]
 refine List.filter_eq_self.2 fun t ht=>?_
 have:=zt3 (h (t3 t) (List.mem_map_of_mem ht));rw[df (show ¬t.Kind=3 from this)];rfl
theorem zjo(t:T3)(a:List T3):sq (t::a)=32::t.2.1++sq a:=by rw[sq,List.flatMap_cons];rfl
theorem zHw{a b:List T3}(h:a.Sublist b):(sq a).length≤(sq b).length:=by
 induction h with
 |slnil=>exact Nat.le_refl _
 |cons t _ ih=>rw[zjo,la];exact Nat.le_trans ih (Nat.le_add_left _ _)
 |cons_cons t _ ih=>rw[zjo,zjo,la,la];exact Nat.add_le_add_left ih _
theorem zHx{a b:List T3}(h:a.Sublist b):(jq a).length≤(jq b).length:=by
 by_cases ha:a=[]
 ·subst ha;exact Nat.zero_le _
 ·have hb:b≠[]:=fun e=>by subst e;exact ha (List.sublist_nil.1 h)
  have:=zHw h;rw[zyb ha,zyb hb,lc,lc]at this;omega
def wo(i k:Int):Nat→List Token→List Token
 |_,[]=>[]
 |j,t::r=>if(j:Int)=i∨(j:Int)=k then wo i k (j+1) r else t::wo i k (j+1) r
theorem zgx(i k:Int):∀(j:Nat)(l:List Token),(wo i k j l).Sublist l
 |_,[]=>.slnil
 |j,t::r=>by
  rw[wo];split
  ·exact(zgx i k (j+1) r).cons t
  ·exact(zgx i k (j+1) r).cons_cons t
theorem zHy(k:Int):∀(l:List Token)(j n:Nat)(t:Token),l[n]?=some t→t.Kind≠3→(tx (wo ((j+n:Nat):Int) k j l)).length<(tx l).length
 |[],_,_,_,h,_=>by cases h
 |x::l,j,0,t,h,hk=>by
  obtain rfl:x=t:=by simpa using h
  rw[wo,if_pos (.inl (by simp))];have:=((zgx ((j+0:Nat):Int) k (j+1) l).filter fun t=>!(decide (t.Kind=3))).length_le;unfold tx;rw[List.filter_cons,df hk];exact Nat.lt_succ_of_le this
 |x::l,j,n+1,t,h,hk=>by
  have ih:=zHy k l (j+1) n t (by simpa using h) hk;rw[show j+1+n=j+(n+1) by omega]at ih;rw[wo]
  have hx:(tx l).length≤(tx (x::l)).length:=by
   unfold tx;exact((List.sublist_cons_self x l).filter _).length_le
  split
  ·omega
  ·unfold tx at ih ⊢
   rw[List.filter_cons,List.filter_cons];cases decide (x.Kind=3)
   ·simp only[Bool.not_false,if_true,lc];omega
   ·simpa using ih
theorem JN{l:List Token}{i k:Int}(hl:l.length≤10000):∀(r:List Token)(j K:Nat)(out:List Token),l.drop j=r→j≤l.length→r.length<K→out.length≤j →
  y5 l i k K ((j:Int),out)=some (out++wo i k j r)
 |[],j,K,out,hr,hj,hK,ho=>by
  obtain⟨K,rfl⟩:∃m,K=m+1:=⟨K-1,by simp at hK;omega⟩
  have:=drop_nil hr hj;subst this;rw[y5];simp only[WV,cf,wo,List.append_nil]
 |x::r,j,K,out,hr,hj,hK,ho=>by
  obtain⟨K,rfl⟩:∃m,K=m+1:=⟨K-1,by simp at hK;omega⟩
  obtain⟨h1,h2,h3⟩:=xD hr;simp only[lc]at hK;rw[y5];simp only[zji h1,ctQ,xP h1,bsQ,kN (show j<9223372036854775807 by omega)];rw[wo];by_cases hi:(j:Int)=i
  ·rw[dt hi,if_pos (.inl hi)]
   exact JN hl r (j+1) K out h2 (by omega) (by omega) (by omega)
  ·rw[df hi]
   by_cases hk:(j:Int)=k
   ·rw[dt hk,if_pos (.inr hk)]
    exact JN hl r (j+1) K out h2 (by omega) (by omega) (by omega)
   ·rw[df hk,if_neg (by omega)]
    simp only[Bool.not_false,ctQ,bsQ];rw[yA (by simp only[la,lc,List.length_nil];omega)];simp only[bsQ];rw[JN hl r (j+1) K (out++[x]) h2 (by omega) (by omega) (by simp only[la,lc,List.length_nil];omega),asc];rfl
theorem zox{l:List Token}{i k:Int}(hl:l.length≤10000)(h2:∀t∈l,t.Text.length≤8000):jP l i k=some (zjn ((tx (wo i k 0 l)).map Token.Text)):=by
 unfold jP;have:=JN (i:=i) (k:=k) hl l 0 KK [] rfl (Nat.zero_le _) (jx (by omega)) (Nat.le_refl _);have hs:=zgx i k 0 l;have hn:=hs.length_le;rw[show((0:Nat):Int)=(0:Int) from rfl]at this;rw[this,bsQ,List.nil_append,zAy (by omega) (fun t ht=>h2 t (hs.subset ht))];rfl
theorem zgy{l:List Token}{i:Int}:∀(r:List Token)(j K:Nat)(n:Int),l.drop j=r→j≤l.length→l.length<4611686018427387904→r.length<K→∃y,yM l i K (n,(j:Int))=some y
 |[],j,K,n,hr,hj,hl,hK=>by
  obtain⟨K,rfl⟩:∃m,K=m+1:=⟨K-1,by simp at hK;omega⟩
  have:=drop_nil hr hj;subst this;rw[yM];simp only[WV,cf];exact⟨_,rfl⟩
 |x::r,j,K,n,hr,hj,hl,hK=>by
  obtain⟨K,rfl⟩:∃m,K=m+1:=⟨K-1,by simp at hK;omega⟩
  obtain⟨h1,h2,h3⟩:=xD hr;simp only[lc]at hK;rw[yM];simp only[zji h1,ctQ,xP h1,bsQ]
  have go:∀m:Int,∃y,(bif (decide (m=0))then some (Sum.inl (j:Int))else yM l i K (m,(w64 ((j:Int)+1))))=some y:=fun m=>by
   cases decide (m=0)
   ·rw[cf,kN (show j<9223372036854775807 by omega)]
    exact zgy r (j+1) K m h2 (by omega) hl (by omega)
   ·exact⟨_,rfl⟩
  cases decide (x.Text=wB)
  ·simp only[cf,bsQ,xP h1]
   cases decide (x.Text=xL)
   ·simp only[cf,bsQ];exact go _
   ·simp only[ctQ,bsQ];exact go _
  ·simp only[ctQ,bsQ,xP h1]
   cases decide (x.Text=xL)
   ·simp only[cf,bsQ];exact go _
   ·simp only[ctQ,bsQ];exact go _
theorem zoy{l:List Token}{i:Nat}(hi:i≤l.length)(hl:l.length<4611686018427387904):∃k,jO l (i:Int)=some k:=by
 unfold jO;obtain⟨y,hy⟩:=zgy (l:=l) (i:=(i:Int)) (l.drop i) i KK 0 rfl hi hl (jx (by rw[List.length_drop];omega));rw[hy,bsQ];cases y<;>exact⟨_,rfl⟩
def SR{α β:Type}(l:List Token)(x:Except EE (α×List Token))(s:Option β)(f:α→Int→β):Prop:=match x with
 |.ok (v,r)=>s=some (f v (wc l r))∧St l r
 |.error _=>s=none
theorem RT.sr{α β:Type}{l:List Token}{x:Except EE (α×List Token)}{s:Option β}{p:Option EE}{f:α→Int→β}(h:RT l x s p f):SR l x s f:=by
 match x,h with
 |.ok (v,r),h=>exact⟨h.1,h.2.2⟩
 |.error e,h=>exact h.1
theorem SR.bind{α β α' β':Type}{l:List Token}{x:Except EE (α×List Token)}{s:Option β}{f:α→Int→β}{g:α→List Token→Except EE (α'×List Token)}{s2:β→Option β'}{f2:α'→Int→β'}
  (h:SR l x s f) (h2:∀v r,x=.ok (v,r)→St l r→SR l (g v r) (s2 (f v (wc l r))) f2):SR l (thn x g) (s.bind s2) f2:=by
 match x,h,h2 with
 |.error e,h,_=>show _=none;rw[show s=none from h];rfl
 |.ok (v,r),⟨h,hs⟩,h2 =>
  have:=h2 v r rfl hs;rw[h];exact this
def fE(e:Expr)(i:Int):Int×Int×Int×List UInt8×List UInt8×List Expr:=(i,e.Op,e.N,e.S,e.Key,e.Args)
def fP(x:Nat×Expr)(i:Int):Int×Int×Int×Int×List UInt8×List UInt8×List Expr:=((x.1:Int),i,x.2.Op,x.2.N,x.2.S,x.2.Key,x.2.Args)
section
variable{l r:List Token}
theorem KV(h:St l r)(t:List UInt8)(lv m:Nat):((bif (decide ((lv:Int)≤(m:Int)))then(yQ l (wc l r) t).bind fun x2=>some (x2.2,x2.1)else some (wc l r,false)))=some (if lv≤m∧isB t r=true then(wc l r.tail,true)else(wc l r,false)):=by
 rw[zgm h];have e:decide ((lv:Int)≤(m:Int))=decide (lv≤m):=xn (by omega);rw[e];by_cases hm:lv≤m
 ·cases hb:isB t r<;>simp[hm]
 ·simp[hm]
theorem zHz{K:Nat}(h:St l r)(ihE:∀(lv:Nat)(r':List Token),lv≤8→r'.length<r.length→St l r'→SR l (DE lv r') (zT K l (wc l r') (lv:Int)) fE):
  SR l (thn (HA r) fun e r=>.ok ((8,e),r)) ((y7 l (wc l r)).bind fun x14=>(bif x14 then(vF l (wc l r) 0 1099511627776).bind fun x15=>some (8,x15.2,0,x15.1,([]:List UInt8),([]:List UInt8),[])else(yQ l (wc l r) xb).bind fun x16=>(bif x16.1 then(yR l x16.2).bind fun x17=>(yR l x17.2).bind fun x18=>some (8,x18.2,2,0,x17.1,x18.1,[])else(yQ l x16.2 xU).bind fun x19=>(bif x19.1 then(yR l x19.2).bind fun x20=>some (8,x20.2,3,0,x20.1,([]:List UInt8),[])else(yQ l x19.2 wB).bind fun x21=>(bif x21.1 then(zT K l x21.2 0).bind fun x22=>(vh l x22.1 xL).bind fun x23=>some (8,x23,x22.2.1,x22.2.2.1,x22.2.2.2.1,x22.2.2.2.2.1,x22.2.2.2.2.2)else(yR l x21.2).bind fun x24=>some (8,x24.2,1,0,x24.1,([]:List UInt8),[])))))) fP:=by
 unfold HA;rw[KQ h,bsQ]
 cases hn:zl4 r with
 |true =>
  rw[if_pos rfl,ctQ,yp]
  exact(zcs h 0 1099511627776).sr.bind fun v r1 _ hs=>⟨rfl,hs⟩
 |false =>
  rw[if_neg (by simp),cf,zgm h,bsQ]
  cases hb:isB xb r with
  |true =>
   have ht:=h.tail (zC hb);simp only[if_true,ctQ,yp]
   exact(ot ht).sr.bind fun v r1 _ hs=>(ot hs).sr.bind fun v2 r2 _ hs2=>⟨rfl,hs2⟩
  |false =>
   simp only[if_neg (show ¬(false=true) by simp),cf];rw[zgm h,bsQ]
   cases hz:isB xU r with
   |true =>
    have ht:=h.tail (zC hz);simp only[if_true,ctQ,yp]
    exact(ot ht).sr.bind fun v r1 _ hs=>⟨rfl,hs⟩
   |false =>
    simp only[if_neg (show ¬(false=true) by simp),cf];rw[zgm h,bsQ]
    cases hp:isB wB r with
    |true =>
     have ht:=h.tail (zC hp);simp only[if_true,ctQ,yp]
     exact(ihE 0 r.tail (by omega) (WR h.wf) ht).bind fun v r1 _ hs=>(JJ hs _).sr.bind fun _ r2 _ hs2=>⟨rfl,hs2⟩
    |false =>
     simp only[if_neg (show ¬(false=true) by simp),cf,yp]
     exact(ot h).sr.bind fun v r1 _ hs=>⟨rfl,hs⟩
theorem zml{K lv:Nat}(h:St l r)(ihE:∀(lv:Nat)(r':List Token),lv≤8→r'.length<r.length→St l r'→SR l (DE lv r') (zT K l (wc l r') (lv:Int)) fE):
  SR l (PX lv r) (j6 (K+1) l (wc l r) (lv:Int)) fP:=by
 rw[j6];have e0:=KV h Jk lv 0;rw[show((0:Nat):Int)=0 from rfl]at e0;rw[e0,bsQ];unfold PX;by_cases c0:lv≤0∧isB Jk r=true
 ·rw[if_pos c0,if_pos c0]
  have ht:=zu h.wf (zC c0.2);simp only[ctQ,ifS,yp]
  refine(ihE 0 r.tail (by omega) ht.lt (h.aft ht.e)).bind fun a r1 h1 hs1=>?_
  have q1:=ht.trans (yI ht.wf h1).e
  refine(JJ hs1 _).sr.bind fun _ r2 h2 hs2=>?_
  have q2:=q1.trans (yN q1.wf h2).e
  refine(ihE 0 r2 (by omega) q2.lt hs2).bind fun b r3 h3 hs3=>?_
  have q3:=q2.trans (yI q2.wf h3).e
  refine(JJ hs3 _).sr.bind fun _ r4 h4 hs4=>?_
  have q4:=q3.trans (yN q3.wf h4).e
  exact(ihE 0 r4 (by omega) q4.lt hs4).bind fun c r5 h5 hs5=>⟨by cases a;cases b;cases c;rfl,hs5⟩
 ·rw[if_neg c0,if_neg c0]
  simp only[cf];have e3:=KV h jh lv 3;rw[show((3:Nat):Int)=3 from rfl]at e3;rw[e3,bsQ];by_cases c3:lv≤3∧isB jh r=true
  ·rw[if_pos c3,if_pos c3]
   have ht:=zu h.wf (zC c3.2);simp only[ctQ]
   exact(ihE 3 r.tail (by omega) ht.lt (h.aft ht.e)).bind fun a r1 h1 hs1=>⟨by cases a;rfl,hs1⟩
  ·rw[if_neg c3,if_neg c3]
   simp only[cf];have e7:=KV h xA lv 7;rw[show((7:Nat):Int)=7 from rfl]at e7;rw[e7,bsQ];by_cases c7:lv≤7∧isB xA r=true
   ·rw[if_pos c7,if_pos c7]
    have ht:=zu h.wf (zC c7.2);simp only[ctQ]
    exact(ihE 7 r.tail (by omega) ht.lt (h.aft ht.e)).bind fun a r1 h1 hs1=>⟨by cases a;rfl,hs1⟩
   ·rw[if_neg c7,if_neg c7]
    simp only[cf];exact zHz h ihE
end
-- the operator that comes next
def Qx(r:List Token)(a:List UInt8×Int×Int)(o:zd):List UInt8×Int×Int:=if isB o.text r then(o.text,o.op,o.form)else a
theorem op_L{l r:List Token}(h:St l r)(c2 c3 c6:Int)(c7:List UInt8)(c8:List Expr)(c9 c10:Int)(c11 c12:List UInt8)(c13:List Expr):∀(os:List zd)(i K:Nat)(a:List UInt8×Int×Int),OPS.drop i=os→i≤10→os.length<K →
  xC l (wc l r) c2 c3 OPS 10 c6 c7 c8 c9 c10 c11 c12 c13 K ((i:Int),a.1,a.2.1,a.2.2)=some (os.foldl (Qx r) a):=by
 intro os
 induction os with
 |nil =>
  intro i K a hr hi hK
  obtain⟨K,rfl⟩:∃k,K=k+1:=⟨K-1,by omega⟩
  have:=drop_nil hr hi;have:i=10:=this;rw[xC,df (show ¬((i:Int)<10) by omega)];rfl
 |cons o os ih =>
  intro i K a hr hi hK
  obtain⟨K,rfl⟩:∃k,K=k+1:=⟨K-1,by omega⟩
  obtain⟨h1,h2,h3⟩:=xD hr;have h3:i<10:=h3;simp only[lc]at hK
  have e:(bif isB o.text r then some (o.text,o.op,o.form)else some (a.1,a.2.1,a.2.2))=some (Qx r a o):=by
   unfold Qx;cases isB o.text r<;>rfl
  rw[xC,dt (show((i:Int)<10) by omega),ctQ,xP h1,bsQ,q_is h,bsQ];simp only;rw[e,bsQ,kN (by omega),ih (i+1) K (Qx r a o) h2 (by omega) (by omega)];rfl
def QD:Option zd→List UInt8×Int×Int
 |some o=>(o.text,o.op,o.form)
 |none=>([],0,0)
theorem W2{r:List Token}:∀{os:List zd}{a:List UInt8×Int×Int},(∀o∈os,isB o.text r=false)→os.foldl (Qx r) a=a
 |[],a,_=>rfl
 |o::os,a,h=>by
  rw[List.foldl_cons,Qx,h o (List.mem_cons_self ..),if_neg (by simp)]
  exact W2 fun x hx=>h x (mcQ _ hx)
theorem zym(r:List Token):OPS.foldl (Qx r) ([],0,0)=QD (opR r):=by
 by_cases hk:(hdT r).Kind=3
 ·rw[opR,if_pos hk]
  exact W2 fun o _=>by rw[isB,dt hk];rfl
 ·rw[opR,if_neg hk]
  have hb:∀s,isB s r=decide ((hdT r).Text=s):=fun s=>by rw[isB,df hk];rfl
  generalize (hdT r).Text=t at hb;by_cases hm:∃o∈OPS,t=o.text
  ·obtain⟨o,ho,rfl⟩:=hm
   simp only[OPS,List.mem_cons,List.mem_nil_iff,or_false]at ho
   rcases ho with rfl|rfl|rfl|rfl|rfl|rfl|rfl|rfl|rfl|rfl<;>simp only[OPS,List.foldl_cons,List.foldl_nil,Qx,hb]<;>rfl
  ·have hn:∀o∈OPS,t≠o.text:=fun o ho e=>hm ⟨o,ho,e⟩
   rw[W2 fun o ho=>by rw[hb];exact df (hn o ho),List.find?_eq_none.2 fun o ho=>by simp[hn o ho]];rfl
theorem zub{l r:List Token}(h:St l r)(c2 c3 c6:Int)(c7:List UInt8)(c8:List Expr)(c9 c10:Int)(c11 c12:List UInt8)(c13:List Expr):
  xC l (wc l r) c2 c3 OPS 10 c6 c7 c8 c9 c10 c11 c12 c13 KK (0,([]:List UInt8),0,0)=some (QD (opR r)):=by
 rw[← zym];exact op_L h c2 c3 c6 c7 c8 c9 c10 c11 c12 c13 OPS 0 KK ([],0,0) rfl (by omega) (jx (by decide))
theorem zuc{l r:List Token}(h:St l r)(c2 c3 c6:Int)(c7:List UInt8)(c8:List Expr)(c9 c10:Int)(c11 c12:List UInt8)(c13:List Expr):
  vH l (wc l r) c2 c3 OPS 10 c6 c7 c8 c9 c10 c11 c12 c13 KK (0,([]:List UInt8),0,0)=some (QD (opR r)):=by
 have:∀K q,vH l (wc l r) c2 c3 OPS 10 c6 c7 c8 c9 c10 c11 c12 c13 K q=xC l (wc l r) c2 c3 OPS 10 c6 c7 c8 c9 c10 c11 c12 c13 K q:=by
  intro K
  induction K with
  |zero=>intro q;rfl
  |succ K ih=>intro q;rw[vH,xC];simp only[ih]
 rw[this,zub h]
def zEm(lv own:Nat):Option zd→Bool
 |none=>true
 |some x=>decide (x.form<(lv:Int)∨(own:Int)<x.form∨(own=4∧x.form=4))
theorem zAz(lv own:Nat)(o:Option zd)(ho:∀x,o=some x→x∈OPS):((bif (decide ((QD o).1=([]:List UInt8)))then some true else(bif (decide ((QD o).2.2<(lv:Int)))then some true else(bif (decide ((own:Int)<(QD o).2.2))then some true else(bif (decide ((own:Int)=4))then some (decide ((QD o).2.2=4))else some false)))))=some (zEm lv own o):=by
 cases o with
 |none=>rfl
 |some x =>
  obtain⟨f,h1,_,h3⟩:=JM (ho x rfl);have e0:decide ((QD (some x)).1=([]:List UInt8))=false:=df h3;rw[e0,cf];unfold zEm;change (bif (decide (x.form<(lv:Int)))then some true else(bif (decide ((own:Int)<x.form))then some true else(bif (decide ((own:Int)=4))then some (decide (x.form=4))else some false)))=_;by_cases a:x.form<(lv:Int)
  ·simp[a]
  ·by_cases b:(own:Int)<x.form
   ·simp[a,b]
   ·by_cases c:own=4
    ·subst c
     have b':¬((4:Int)<x.form):=b;simp[a,b']
    ·have:¬((own:Int)=4):=by omega
     simp[a,b,c,this]
theorem zA0(l:List Token):∀(n K lv:Nat)(r:List Token),r.length<n→2*n≤K→lv≤8→St l r→SR l (DE lv r) (zT K l (wc l r) (lv:Int)) fE:=by
 intro n
 induction n with
 |zero=>intro K lv r h;omega
 |succ n ih =>
  intro K lv r hn hK hl h
  obtain⟨K,rfl⟩:∃k,K=k+2:=⟨K-2,by omega⟩
  have ihE:∀(lv:Nat)(r':List Token),lv≤8→r'.length<r.length→St l r'→SR l (DE lv r') (zT K l (wc l r') (lv:Int)) fE:=fun lv r' h1 h2 h3=>ih K lv r' (by omega) (by omega) h1 h3
  -- the loop
  have loop:∀(m:Nat)(r':List Token)(own:Nat)(e:Expr)(Q:Nat),r'.length<m→m≤Q→r'.length<r.length→St l r' →
    SR l (CL lv own e r') ((km (zT (K+1)) l (lv:Int) 0 ([]:List UInt8) [] Q (wc l r',(own:Int),e.Op,e.N,e.S,e.Key,e.Args)).bind (xR some fun _=>none)) fE:=by
   intro m
   induction m with
   |zero=>intro r' own e Q h;omega
   |succ m ihm =>
    intro r' own e Q hm hQ hlt hs
    obtain⟨Q,rfl⟩:∃k,Q=k+1:=⟨Q-1,by omega⟩
    rw[km,show xB=some OPS from rfl,bsQ,show((List.length OPS:Nat):Int)=10 from rfl,zub hs,bsQ];simp only;rw[zAz lv own _ (fun x hx=>(wv hx).2.1),bsQ,zHq hs.wf]
    cases ho:opR r' with
    |none=>exact⟨rfl,hs⟩
    |some o =>
     obtain⟨hk,hmem,_⟩:=wv ho;obtain⟨f,hf,hf2,_⟩:=JM hmem;dsimp only;by_cases hc:o.form<(lv:Int)∨(own:Int)<o.form∨(own=4∧o.form=4)
     ·rw[if_pos hc,zEm,dt hc]
      exact⟨rfl,hs⟩
     ·rw[if_neg hc,zEm,df hc,cf,hs.step]
      have ht:=zu hs.wf hk
      have e1:w64 ((QD (some o)).2.2+1)=((f+1:Nat):Int):=by
       show w64 (o.form+1)=_
       rw[hf,wy (by omega) (by omega)];rfl
      rw[e1,Option.bind_assoc];have ih2:=ih (K+1) (f+1) r'.tail (by have:=ht.lt;omega) (by omega) (by omega) (hs.aft ht.e);rw[hf,Int.toNat_natCast]
      refine ih2.bind fun e2 r2 h2 hs2=>?_
      have hq:=ht.trans (yI ht.wf h2).e;have:=ihm r2 f (JK o.op e e2) Q (by have:=hq.lt;omega) (by omega) (by have:=hq.lt;omega) hs2;refine Eq.mp ?_ this
      congr 4
      simp only[fE,QD,hf,JK];cases e;cases e2;rfl
  rw[zT,zHr hl h.wf]
  refine(zml h ihE).bind fun x r1 h1 hs1=>?_
  have hq:=zt2 h.wf h1;exact loop (r1.length+1) r1 x.1 x.2 KK (by omega) (by have:=jx (n:=r1.length+1) (by have:=hs1.lt;have:=hs1.len;omega);omega) hq.lt hs1
end Go.Proofs.YtffencjoddkghaaGreatDoor
namespace Go.Proofs.YtffencjoddkghaaGreatDoor
open Go Go.RowKit Go.Eng Go.EV Go.EQ
variable[Fuel]
def PR{α:Type}(x:Except EE (α×List Token))(p:Option EE):Prop:=match x with
 |.ok _=>p=none
 |.error e=>p=some e
theorem RT.pr{α β:Type}{l:List Token}{x:Except EE (α×List Token)}{s:Option β}{p:Option EE}{f:α→Int→β}(h:RT l x s p f):PR x p:=by
 match x,h with
 |.ok (v,r),h=>exact h.2.1
 |.error e,h=>exact h.2
theorem rt_of{α β:Type}{l:List Token}{x:Except EE (α×List Token)}{s:Option β}{p:Option EE}{f:α→Int→β}(h:SR l x s f)(k:PR x p):RT l x s p f:=by
 match x,h,k with
 |.ok (v,r),h,k=>exact⟨h.1,k,h.2⟩
 |.error e,h,k=>exact⟨h,k⟩
theorem PR.bind{α β α':Type}{l:List Token}{x:Except EE (α×List Token)}{s:Option β}{p:Option EE}{f:α→Int→β}{g:α→List Token→Except EE (α'×List Token)}{p2:β→Option EE}
  (hs:SR l x s f) (h:PR x p) (h2:∀v r,x=.ok (v,r)→St l r→PR (g v r) (p2 (f v (wc l r)))):PR (thn x g) (orC p (fun q=>some q) (s.bind p2)):=by
 match x,hs,h,h2 with
 |.error e,hs,h,_=>show _=some e;rw[show p=some e from h];rfl
 |.ok (v,r),⟨hs,hst⟩,h,h2 =>
  have:=h2 v r rfl hst;rw[show p=none from h,hs];exact this
theorem PR.last{α β α':Type}{l:List Token}{x:Except EE (α×List Token)}{s:Option β}{p:Option EE}{f:α→Int→β}{g:α→List Token→α'}(hs:SR l x s f)(h:PR x p):PR (thn x fun v r=>.ok (g v r,r)) (orC p (fun q=>some q) (s.bind fun _=>none)):=PR.bind hs h fun _ _ _ _=>rfl
section
variable{l r:List Token}
theorem zH0{K:Nat}(h:St l r)(ihS:∀(lv:Nat)(r':List Token),lv≤8→r'.length<r.length→St l r'→SR l (DE lv r') (zT KK l (wc l r') (lv:Int)) fE)
  (ihE:∀(lv:Nat)(r':List Token),lv≤8→r'.length<r.length→St l r'→PR (DE lv r') (yE K l (wc l r') (lv:Int))):
  PR (thn (HA r) fun e r=>.ok ((8,e),r)) ((y7 l (wc l r)).bind fun x21=>(bif x21 then(orC (qN l (wc l r) 0 1099511627776) (fun x22=>some x22) ((vF l (wc l r) 0 1099511627776).bind fun _=>none))else(yQ l (wc l r) xb).bind fun x24=>(bif x24.1 then(orC (vi l x24.2) (fun x25=>some x25) ((yR l x24.2).bind fun x26=>(orC (vi l x26.2) (fun x27=>some x27) ((yR l x26.2).bind fun _=>none))))else(yQ l x24.2 xU).bind fun x29=>(bif x29.1 then(orC (vi l x29.2) (fun x30=>some x30) ((yR l x29.2).bind fun _=>none))else(yQ l x29.2 wB).bind fun x32=>(bif x32.1 then(orC (yE K l x32.2 0) (fun x33=>some x33) ((zT KK l x32.2 0).bind fun x34=>(orC (uF l x34.1 xL) (fun x35=>some x35) ((vh l x34.1 xL).bind fun _=>none))))else(orC (vi l x32.2) (fun x37=>some x37) ((yR l x32.2).bind fun _=>none))))))):=by
 unfold HA;rw[KQ h,bsQ]
 cases hn:zl4 r with
 |true =>
  rw[if_pos rfl,ctQ,yp];exact PR.last (zcs h 0 1099511627776).sr (zcs h 0 1099511627776).pr
 |false =>
  rw[if_neg (by simp),cf,zgm h,bsQ]
  cases hb:isB xb r with
  |true =>
   have ht:=h.tail (zC hb);simp only[if_true,ctQ,yp]
   exact PR.bind (ot ht).sr (ot ht).pr fun v r1 _ hs=>PR.last (ot hs).sr (ot hs).pr
  |false =>
   simp only[if_neg (show ¬(false=true) by simp),cf];rw[zgm h,bsQ]
   cases hz:isB xU r with
   |true =>
    have ht:=h.tail (zC hz);simp only[if_true,ctQ,yp];exact PR.last (ot ht).sr (ot ht).pr
   |false =>
    simp only[if_neg (show ¬(false=true) by simp),cf];rw[zgm h,bsQ]
    cases hp:isB wB r with
    |true =>
     have ht:=h.tail (zC hp);simp only[if_true,ctQ,yp]
     exact PR.bind (ihS 0 r.tail (by omega) (WR h.wf) ht) (ihE 0 r.tail (by omega) (WR h.wf) ht) fun v r1 _ hs=>PR.last (JJ hs _).sr (JJ hs _).pr
    |false =>
     simp only[if_neg (show ¬(false=true) by simp),cf,yp];exact PR.last (ot h).sr (ot h).pr
theorem zyn{K lv:Nat}(h:St l r)(ihS:∀(lv:Nat)(r':List Token),lv≤8→r'.length<r.length→St l r'→SR l (DE lv r') (zT KK l (wc l r') (lv:Int)) fE)
  (ihE:∀(lv:Nat)(r':List Token),lv≤8→r'.length<r.length→St l r'→PR (DE lv r') (yE K l (wc l r') (lv:Int))):PR (PX lv r) (Ar (K+1) l (wc l r) (lv:Int)):=by
 rw[Ar];have e0:=KV h Jk lv 0;rw[show((0:Nat):Int)=0 from rfl]at e0;rw[e0,bsQ];unfold PX;by_cases c0:lv≤0∧isB Jk r=true
 ·rw[if_pos c0,if_pos c0]
  have ht:=zu h.wf (zC c0.2);have hst:=h.aft ht.e;simp only[ctQ,ifS,yp]
  refine PR.bind (ihS 0 r.tail (by omega) ht.lt hst) (ihE 0 r.tail (by omega) ht.lt hst) fun a r1 h1 hs1=>?_
  have q1:=ht.trans (yI ht.wf h1).e
  refine PR.bind (JJ hs1 _).sr (JJ hs1 _).pr fun _ r2 h2 hs2=>?_
  have q2:=q1.trans (yN q1.wf h2).e
  refine PR.bind (ihS 0 r2 (by omega) q2.lt hs2) (ihE 0 r2 (by omega) q2.lt hs2) fun b r3 h3 hs3=>?_
  have q3:=q2.trans (yI q2.wf h3).e
  refine PR.bind (JJ hs3 _).sr (JJ hs3 _).pr fun _ r4 h4 hs4=>?_
  have q4:=q3.trans (yN q3.wf h4).e;exact PR.last (ihS 0 r4 (by omega) q4.lt hs4) (ihE 0 r4 (by omega) q4.lt hs4)
 ·rw[if_neg c0,if_neg c0]
  simp only[cf];have e3:=KV h jh lv 3;rw[show((3:Nat):Int)=3 from rfl]at e3;rw[e3,bsQ];by_cases c3:lv≤3∧isB jh r=true
  ·rw[if_pos c3,if_pos c3]
   have ht:=zu h.wf (zC c3.2);have hst:=h.aft ht.e;simp only[ctQ];exact PR.last (ihS 3 r.tail (by omega) ht.lt hst) (ihE 3 r.tail (by omega) ht.lt hst)
  ·rw[if_neg c3,if_neg c3]
   simp only[cf];have e7:=KV h xA lv 7;rw[show((7:Nat):Int)=7 from rfl]at e7;rw[e7,bsQ];by_cases c7:lv≤7∧isB xA r=true
   ·rw[if_pos c7,if_pos c7]
    have ht:=zu h.wf (zC c7.2);have hst:=h.aft ht.e;simp only[ctQ];exact PR.last (ihS 7 r.tail (by omega) ht.lt hst) (ihE 7 r.tail (by omega) ht.lt hst)
   ·rw[if_neg c7,if_neg c7]
    simp only[cf];exact zH0 h ihS ihE
end
theorem zmm:18446744073709551616≤KK:=Fuel.big
theorem zjp{l r:List Token}{lv:Nat}(hl:lv≤8)(h:St l r):SR l (DE lv r) (zT KK l (wc l r) (lv:Int)) fE:=by
 have h1:=h.lt;have h2:=h.len;have h3:=zmm;exact zA0 l (r.length+1) KK lv r (by omega) (by omega) hl h
theorem zH1(l:List Token):∀(n K lv:Nat)(r:List Token),r.length<n→2*n≤K→lv≤8→St l r→PR (DE lv r) (yE K l (wc l r) (lv:Int)):=by
 intro n
 induction n with
 |zero=>intro K lv r h;omega
 |succ n ih =>
  intro K lv r hn hK hl h
  obtain⟨K,rfl⟩:∃k,K=k+2:=⟨K-2,by omega⟩
  have ihE:∀(lv:Nat)(r':List Token),lv≤8→r'.length<r.length→St l r'→PR (DE lv r') (yE K l (wc l r') (lv:Int)):=fun lv r' h1 h2 h3=>ih K lv r' (by omega) (by omega) h1 h3
  have loop:∀(m:Nat)(r':List Token)(own:Nat)(e:Expr)(Q:Nat),r'.length<m→m≤Q→r'.length<r.length→St l r' →
    PR (CL lv own e r') ((ko (yE (K+1)) l (lv:Int) 0 ([]:List UInt8) [] Q (wc l r',(own:Int),e.Op,e.N,e.S,e.Key,e.Args)).bind (xR some fun _=>none)):=by
   intro m
   induction m with
   |zero=>intro r' own e Q h;omega
   |succ m ihm =>
    intro r' own e Q hm hQ hlt hs
    obtain⟨Q,rfl⟩:∃k,Q=k+1:=⟨Q-1,by omega⟩
    rw[ko,show xB=some OPS from rfl,bsQ,show((List.length OPS:Nat):Int)=10 from rfl,zuc hs,bsQ];simp only;rw[zAz lv own _ (fun x hx=>(wv hx).2.1),bsQ,zHq hs.wf]
    cases ho:opR r' with
    |none=>exact rfl
    |some o =>
     obtain⟨hk,hmem,_⟩:=wv ho;obtain⟨f,hf,hf2,_⟩:=JM hmem;dsimp only;by_cases hc:o.form<(lv:Int)∨(own:Int)<o.form∨(own=4∧o.form=4)
     ·rw[if_pos hc,zEm,dt hc]
      exact rfl
     ·rw[if_neg hc,zEm,df hc,cf,hs.step]
      have ht:=zu hs.wf hk
      have e1:w64 ((QD (some o)).2.2+1)=((f+1:Nat):Int):=by
       show w64 (o.form+1)=_
       rw[hf,wy (by omega) (by omega)];rfl
      rw[e1];have hst:=hs.aft ht.e;have hS:=zjp (lv:=f+1) (by omega) hst;have hP:=ih (K+1) (f+1) r'.tail (by have:=ht.lt;omega) (by omega) (by omega) hst;rw[hf,Int.toNat_natCast]
      cases hx:DE (f+1) r'.tail with
      |error er =>
       rw[hx]at hP;rw[show yE (K+1) l (wc l r'.tail) ((f+1:Nat):Int)=some er from hP];rfl
      |ok y =>
       obtain⟨e2,r2⟩:=y;rw[hx]at hP hS;have hq:=ht.trans (yI ht.wf hx).e;have hs2:=hS.2;rw[show yE (K+1) l (wc l r'.tail) ((f+1:Nat):Int)=none from hP,hS.1];have:=ihm r2 f (JK o.op e e2) Q (by have:=hq.lt;omega) (by omega) (by have:=hq.lt;omega) hs2;refine Eq.mp ?_ this
       show _=PR (CL lv f (JK o.op e e2) r2) _
       congr 4
       simp only[fE,QD,hf,JK];cases e;cases e2;rfl
  rw[yE,zHr hl h.wf]
  have hS:SR l (PX lv r) (j6 KK l (wc l r) (lv:Int)) fP:=by
   have h3:=zmm;have h1:=h.lt;have h2:=h.len
   obtain⟨k,hk⟩:∃k,KK=k+1:=⟨KK-1,by omega⟩
   rw[hk]
   exact zml h fun lv r' q1 q2 q3=>zA0 l (r'.length+1) k lv r' (by omega) (by omega) q1 q3
  refine PR.bind hS (zyn h (fun lv r' q1 q2 q3=>zjp q1 q3) ihE) fun x r1 h1 hs1=>?_
  have hq:=zt2 h.wf h1;exact loop (r1.length+1) r1 x.1 x.2 KK (by omega) (by have:=jx (n:=r1.length+1) (by have:=hs1.lt;have:=hs1.len;omega);omega) hq.lt hs1
theorem zH2{l r:List Token}{lv:Nat}(hl:lv≤8)(h:St l r):RT l (DE lv r) (zT KK l (wc l r) (lv:Int)) (yE KK l (wc l r) (lv:Int)) fE:=by
 have h1:=h.lt;have h2:=h.len;have h3:=zmm;exact rt_of (zjp hl h) (zH1 l (r.length+1) KK lv r (by omega) (by omega) hl h)
section
variable{b:BB}{r:List Token}
end
section
variable{α β α' β' γ δ:Type}{l:List Token}{x:Except EE (α×List Token)}{s:Option β}{p:Option EE}{f:α→Int→β}{g:α→List Token→Except EE (α'×List Token)}{s2:β→Option β'}{p2:β→Option EE}{f2:α'→Int→β'}
end
-- what is read
section
variable{b:BB}{r:List Token}
end
end Go.Proofs.YtffencjoddkghaaGreatDoor
namespace Go.Proofs.YtffencjoddkghaaGreatDoor
open Go Go.RowKit Go.Eng Go.EV Go.EQ
variable[Fuel]
theorem zud{c:Bool}{e:Int}{r r2:List Token}{u:Unit}(h:zAp c e r=.ok (u,r2)):r2=r∧c=true:=by
 unfold zAp at h;split at h
 ·rename_i hc;cases h;exact⟨rfl,hc⟩
 ·cases h
variable[Fuel]
-- an expression has no more nodes than what was read has tokens
theorem zue{op:Int}{a b:Expr}:jG (JK op a b)=jG a+jG b+1:=by unfold JK;rw[jG,AR,AR,AR];omega
theorem zuf:∀(n:Nat),(∀(lv:Nat)(r:List Token),lv≤8→r.length<n→TWF r→∀e r2,DE lv r=.ok (e,r2)→jG e+r2.length≤r.length)∧(∀(lv:Nat)(e:Expr)(r:List Token),lv<8→r.length<n→TWF r→∀e2 r2,LP lv e r=.ok (e2,r2)→jG e2+r2.length≤jG e+r.length):=by
 intro n
 induction n with
 |zero=>exact⟨fun _ _ _ h=>by omega,fun _ _ _ _ h=>by omega⟩
 |succ n ih =>
  have hLP:∀(lv:Nat)(e:Expr)(r:List Token),lv<8→r.length<n+1→TWF r→∀e2 r2,LP lv e r=.ok (e2,r2)→jG e2+r2.length≤jG e+r.length:=by
   intro lv e r hlv hn hr e2 r2 h;rw[zor hr]at h;split at h
   ·cases h;omega
   ·rename_i op hop
    obtain⟨o,ho,_⟩:=kv hop;have ht:=zu hr (wv ho).1;obtain⟨a,r1,h1,h2⟩:=zL h;have g:=ht.lt;have ha:=yI ht.wf h1;have g1:=ha.lt;have k1:=ih.1 (lv+1) _ (by omega) (by omega) ht.wf _ _ h1;split at h2
    ·cases h2;rw[zue];omega
    ·have:=ih.2 lv _ _ hlv (by omega) ha.wf _ _ h2
     rw[zue]at this;omega
  refine⟨fun lv=>?_,hLP⟩
  have key:∀(k lv:Nat),8-lv=k→lv≤8→∀(r:List Token),r.length<n+1→TWF r→∀e r2,DE lv r=.ok (e,r2)→jG e+r2.length≤r.length:=by
   intro k
   induction k with
   |zero =>
    intro lv hk hl r hn hr e r2 h
    obtain rfl:lv=8:=by omega
    rw[ztl hr]at h;unfold HA at h;split at h
    ·obtain⟨a,r1,h1,h2⟩:=zL h
     cases h2;have:=(zl6 hr h1).lt;rw[jG,AR];omega
    ·split at h
     ·rename_i hb
      have ht:=zu hr (zC hb);obtain⟨a,r1,h1,h2⟩:=zL h;obtain⟨b,r3,h3,h4⟩:=zL h2;cases h4;have q1:=vv ht.wf h1;have q2:=vv q1.wf h3;have:=ht.lt;have:=q1.lt;have:=q2.lt;rw[jG,AR];omega
     ·split at h
      ·rename_i hb
       have ht:=zu hr (zC hb);obtain⟨a,r1,h1,h2⟩:=zL h;cases h2;have:=ht.lt;have:=(vv ht.wf h1).lt;rw[jG,AR];omega
      ·split at h
       ·rename_i hb
        have ht:=zu hr (zC hb);obtain⟨a,r1,h1,h2⟩:=zL h;obtain⟨b,r3,h3,h4⟩:=zL h2;cases h4;have g:=ht.lt;have q1:=ih.1 0 _ (by omega) (by omega) ht.wf _ _ h1;have:=(yN (yI ht.wf h1).wf h3).lt;omega
       ·obtain⟨a,r1,h1,h2⟩:=zL h
        cases h2;have:=(vv hr h1).lt;rw[jG,AR];omega
   |succ k ihk =>
    intro lv hk hl r hn hr e r2 h;rw[WS (by omega) hr]at h;split at h
    ·rename_i hb
     unfold ifS at h;have ht:=zu hr (zC hb.2);have g:=ht.lt;obtain⟨a,r1,h1,h⟩:=zL h;obtain⟨u,r3,h3,h⟩:=zL h;obtain⟨b,r4,h4,h⟩:=zL h;obtain⟨u,r5,h5,h⟩:=zL h;obtain⟨c,r6,h6,h⟩:=zL h;cases h;have w1:=yI ht.wf h1;have w3:=yN w1.wf h3;have w4:=yI w3.wf h4;have w5:=yN w4.wf h5;have:=w1.lt;have:=w3.lt;have:=w4.lt;have:=w5.lt;have q1:=ih.1 0 _ (by omega) (by omega) ht.wf _ _ h1;have q4:=ih.1 0 _ (by omega) (by omega) w3.wf _ _ h4;have q6:=ih.1 0 _ (by omega) (by omega) w5.wf _ _ h6;rw[jG,AR,AR,AR,AR];omega
    ·split at h
     ·rename_i hb
      have ht:=zu hr (zC hb.2);have g:=ht.lt;obtain⟨a,r1,h1,h⟩:=zL h;cases h;have q1:=ih.1 3 _ (by omega) (by omega) ht.wf _ _ h1;rw[jG,AR,AR];omega
     ·split at h
      ·rename_i hb
       have ht:=zu hr (zC hb.2);have g:=ht.lt;obtain⟨a,r1,h1,h⟩:=zL h;cases h;have q1:=ih.1 7 _ (by omega) (by omega) ht.wf _ _ h1;rw[jG,AR,AR];omega
      ·obtain⟨a,r1,h1,h⟩:=zL h
       have q1:=ihk (lv+1) (by omega) (by omega) r hn hr _ _ h1;have w1:=yI hr h1;have:=w1.lt;have:=ih.2 lv a r1 (by omega) (by omega) w1.wf _ _ h;omega
  exact fun r hl=>key _ lv rfl hl r
theorem zA1{lv:Nat}{r r2:List Token}{e:Expr}(hl:lv≤8)(hr:TWF r)(h:DE lv r=.ok (e,r2)):jG e+r2.length≤r.length:=(zuf (r.length+1)).1 lv r hl (Nat.lt_succ_self _) hr e r2 h
theorem zug{l r r2:List Token}{e:Expr}(hs:St l r)(h:DE 0 r=.ok (e,r2)):wj KK e=some ((WT e:Nat):Int):=by
 have h1:=zA1 (by omega) hs.wf h;have h2:=hs.lt;have h3:=hs.len;have h4:=zmm;exact ztp 1000000 e KK (by omega) (by omega) (by omega)
section
variable{b:BB}{r:List Token}{L:List (List UInt8)}
end
section
variable{b:BB}{r:List Token}{L:List (List UInt8)}
end
section
variable{b:BB}{r:List Token}{L:List (List UInt8)}
end
section
variable{α β:Type}{r:List Token}
end
section
variable{b:BB}
end
section
variable{α γ α' γ':Type}{l:List Token}{x:Except EE (α×List Token)}{s:Option γ}{f:α→Int→γ}{pe:γ→EE}{g:α→List Token→Except EE (α'×List Token)}{s2:γ→Option γ'}{f2:α'→Int→γ'}{pe2:γ'→EE}
end
section
variable{l:List Token}{a E P:Int}{r:List Token}
-- with an error, nothing more is read
end
section
variable{l r:List Token}
end
section
variable{l r:List Token}
end
section
variable{l r:List Token}
end
section
variable{l r:List Token}
end
section
variable{l r:List Token}
end
def OT{α:Type}(x:Except EE (α×List Token))(P:α→Prop):Prop:=∀a r,x=.ok (a,r)→P a
section
variable{α β:Type}{r:List Token}
structure Sh(r:List Token):Prop where
 wf:TWF r
 le:r.length≤1000000
theorem ot_DE(h:Sh r):OT (DE 0 r) Qu:=fun e r2 k=>by
 have:=zA1 (by omega) h.wf k;have:=h.le;unfold Qu;omega
end
theorem zD5(k:Nat)(h):(@uW ⟨k+500,h⟩)=some true:=by kernel_rfl
theorem zyo[i:Fuel]:uW=some true:=by
 obtain⟨n,h⟩:=i
 obtain⟨k,rfl⟩:∃k,n=k+500:=⟨n-500,by omega⟩
 exact zD5 k h
theorem zcz:∀(n p:Nat)(s:List UInt8)(q:Nat)(e:Int),QC n p s=.error (q,e)→e≠0
 |0,_,_,_,_,h=>by cases h
 |n+1,p,s,q,e,h=>by
  rw[QC]at h;split at h
  ·cases h
  ·split at h
   ·rename_i c r hd e' ht
    cases h;exact zl1 ht
   ·split at h
    ·rename_i hl
     cases h;exact zcz n _ _ _ _ hl
    ·cases h
def zc0(l:List Token):Except EE (Expr×List Token):=thn (DE 0 l) fun e r=>thn (zAp (decide ((hdT r).Kind=3)) 14 r) fun _ r=>thn (zAp (decide (WT e≤12)) 6 r) fun _ r=>.ok (e,r)
def JO(s:List UInt8):Except EE Expr:=match zDr s with
 |.error (p,e)=>.error ((p:Int),e)
 |.ok l=>match zc0 l with
  |.ok (e,_)=>.ok e
  |.error e=>.error e
def zuh:Except EE Expr→Int×Int×Int×Int×List UInt8×List UInt8×List Expr
 |.ok e=>(0,0,e.Op,e.N,e.S,e.Key,e.Args)
 |.error e=>(e.1,e.2,0,0,[],[],[])
theorem zjq{s:List UInt8}{e:Expr}(h:s.length≤8000)(hp:JO s=.ok e):Qu e:=by
 unfold JO at hp;split at hp
 ·cases hp
 ·rename_i l hl
  obtain⟨hs,h0⟩:=zct h hl;split at hp
  ·rename_i v r hv
   cases hp;unfold zc0 at hv;obtain⟨a,r1,h1,h2⟩:=zL hv;obtain⟨b,r3,h3,h4⟩:=zL h2;obtain⟨c,r5,h5,h6⟩:=zL h4;cases h6;exact ot_DE ⟨hs.wf,hs.len⟩ _ _ h1
  ·cases hp
def NZ{α:Type}(x:Except EE α):Prop:=∀e,x=.error e→e.2≠0
section
variable{α β:Type}{r:List Token}
theorem NZ.thn{x:Except EE (α×List Token)}{g:α→List Token→Except EE β}(h:NZ x)(hg:∀a r,x=.ok (a,r)→NZ (g a r)):NZ (thn x g):=by
 match x,h,hg with
 |.error e,h,_=>exact fun e' he=>h e' (congrArg Except.error (Except.error.inj he))
 |.ok (a,r),_,hg=>exact hg a r rfl
theorem HB{a:α}:NZ (.ok a:Except EE α):=fun e h=>by cases h
theorem zH3{p k:Int}(h:k≠0):NZ (.error (p,k):Except EE α):=fun e he=>by cases he;exact h
theorem zH4{k:Int}(h:k≠0):NZ (.error (zEk r k):Except EE α):=zH3 h
theorem NZ.ite{c:Prop}[Decidable c]{x y:Except EE α}(h1:c→NZ x)(h2:¬c→NZ y):NZ (if c then x else y):=by
 split
 ·rename_i h;exact h1 h
 ·rename_i h;exact h2 h
theorem zH5{lo hi:Int}:NZ (zth lo hi r):=.ite (fun _=>.ite (fun _=>HB) fun _=>zH4 (by decide)) fun _=>zH4 (by decide)
theorem zc1:NZ (qZ r):=.ite (fun _=>HB) fun _=>zH4 (by decide)
theorem zjr{w:List UInt8}:NZ (KP w r):=.ite (fun _=>HB) fun _=>zH4 (by decide)
theorem zA2{b:Bool}{k:Int}(h:k≠0):NZ (zAp b k r):=.ite (fun _=>HB) fun _=>zH4 h
end
theorem zyp:∀(n:Nat),(∀(lv:Nat)(r:List Token),lv≤8→r.length<n→TWF r→NZ (DE lv r))∧(∀(lv:Nat)(e:Expr)(r:List Token),lv<8→r.length<n→TWF r→NZ (LP lv e r)):=by
 intro n
 induction n with
 |zero=>exact⟨fun _ _ _ h=>by omega,fun _ _ _ _ h=>by omega⟩
 |succ n ih =>
  have hLP:∀(lv:Nat)(e:Expr)(r:List Token),lv<8→r.length<n+1→TWF r→NZ (LP lv e r):=by
   intro lv e r hlv hn hr;rw[zor hr];split
   ·exact HB
   ·rename_i op hop
    obtain⟨o,ho,_⟩:=kv hop;have ht:=zu hr (wv ho).1;have g:=ht.lt
    refine(ih.1 (lv+1) _ (by omega) (by omega) ht.wf).thn fun a r1 h1=>?_
    have ha:=yI ht.wf h1;have g1:=ha.lt
    exact .ite (fun _=>HB) fun _=>ih.2 lv _ _ hlv (by omega) ha.wf
  refine⟨fun lv=>?_,hLP⟩
  have key:∀(k lv:Nat),8-lv=k→lv≤8→∀(r:List Token),r.length<n+1→TWF r→NZ (DE lv r):=by
   intro k
   induction k with
   |zero =>
    intro lv hk hl r hn hr
    obtain rfl:lv=8:=by omega
    rw[ztl hr]
    refine .ite (fun _=>zH5.thn fun _ _ _=>HB) fun _=>.ite (fun _=>zc1.thn fun _ _ _=>zc1.thn fun _ _ _=>HB) fun _=>.ite (fun _=>zc1.thn fun _ _ _=>HB) fun _=>.ite (fun hb=>?_) fun _=>zc1.thn fun _ _ _=>HB
    have ht:=zu hr (zC hb);have g:=ht.lt
    exact(ih.1 0 _ (by omega) (by omega) ht.wf).thn fun _ _ _=>zjr.thn fun _ _ _=>HB
   |succ k ihk =>
    intro lv hk hl r hn hr;rw[WS (by omega) hr]
    refine .ite (fun hb=>?_) fun _=>.ite (fun hb=>?_) fun _=>.ite (fun hb=>?_) fun _=>?_
    ·have ht:=zu hr (zC hb.2)
     have g:=ht.lt
     refine(ih.1 0 _ (by omega) (by omega) ht.wf).thn fun a r1 h1=>zjr.thn fun u r3 h3=>?_
     have w1:=yI ht.wf h1;have w3:=yN w1.wf h3;have:=w1.lt;have:=w3.lt
     refine(ih.1 0 _ (by omega) (by omega) w3.wf).thn fun b r4 h4=>zjr.thn fun u r5 h5=>?_
     have w4:=yI w3.wf h4;have w5:=yN w4.wf h5;have:=w4.lt;have:=w5.lt
     exact(ih.1 0 _ (by omega) (by omega) w5.wf).thn fun _ _ _=>HB
    ·have ht:=zu hr (zC hb.2)
     have g:=ht.lt
     exact(ih.1 3 _ (by omega) (by omega) ht.wf).thn fun _ _ _=>HB
    ·have ht:=zu hr (zC hb.2)
     have g:=ht.lt
     exact(ih.1 7 _ (by omega) (by omega) ht.wf).thn fun _ _ _=>HB
    ·refine(ihk (lv+1) (by omega) (by omega) r hn hr).thn fun a r1 h1=>?_
     have w1:=yI hr h1;have:=w1.lt;exact ih.2 lv a r1 (by omega) (by omega) w1.wf
  exact fun r hl=>key _ lv rfl hl r
theorem nz_DE{lv:Nat}{r:List Token}(hl:lv≤8)(hr:TWF r):NZ (DE lv r):=(zyp (r.length+1)).1 lv r hl (Nat.lt_succ_self _) hr
theorem zyq{r:List Token}(hr:TWF r):NZ (zc0 r):=(nz_DE (by omega) hr).thn fun _ _ _=>(zA2 (by decide)).thn fun _ _ _=>(zA2 (by decide)).thn fun _ _ _=>HB
theorem zmn{s:List UInt8}(hs:s.length≤8000){e:EE}(h:JO s=.error e):e.2≠0:=by
 unfold JO at h;split at h
 ·rename_i p k hl
  cases h;exact zcz _ _ _ _ _ hl
 ·rename_i l hl
  split at h
  ·cases h
  ·rename_i e' he
   cases h;exact zyq (zct hs hl).1.wf _ he
theorem HC{s:List UInt8}(h:s.length≤8000):xd s=some (zuh (JO s)):=by
 have hne:∀e,JO s=.error e→e.2≠0:=fun e he=>zmn h he
 unfold JO at hne;unfold xd JO;rw[zG9 h,bsQ]
 cases hx:zDr s with
 |error y =>
  obtain⟨p,e⟩:=y;have he:=zcz _ _ _ _ _ hx;rw[show zIm (.error (p,e))=([],(p:Int),e) from rfl];dsimp only;rw[df he];rfl
 |ok l =>
  rw[hx]at hne;dsimp only at hne;obtain⟨hs,hp⟩:=zct h hx;rw[show zIm (.ok l)=(l,0,0) from rfl];dsimp only;rw[show decide ((0:Int)=0)=true from rfl,Bool.not_true,cf]
  have key:RT l (zc0 l) (jL l 0 0 0 [] [] []) (jM l 0 0 0 [] [] []) fE:=by
   unfold jL jM zc0;have hE:=zH2 (lv:=0) (by omega) hs;rw[hp,show(((0:Nat):Int))=(0:Int) from rfl]at hE
   refine hE.bind fun e r h1 hs1=>?_
   simp only[fE,vZ];rw[JI hs1,bsQ,bsQ]
   refine(zti hs1 _ _).bind fun u r2 h2 hs2=>?_
   obtain⟨rfl,hc⟩:=zud h2;rw[zug hs h1,bsQ,bsQ,show decide (((WT e:Nat):Int)≤12)=decide (WT e≤12) from xn (by omega)]
   refine(zti hs1 _ _).bind fun u r3 h3 hs3=>?_
   obtain⟨rfl,_⟩:=zud h3;exact⟨rfl,rfl,hs3⟩
  unfold vI vj
  cases hy:zc0 l with
  |ok v =>
   obtain⟨e,r⟩:=v;rw[hy]at key;rw[key.1];rfl
  |error e =>
   rw[hy]at key hne;have he:=hne e rfl;dsimp only;rw[key.1,key.2]
   show(bif (!(decide (e.2=0)))then _ else none)=_
   rw[df he];rfl
theorem Yx{s:List UInt8}(h:8000<s.length):xd s=some (0,6,0,0,[],[],[]):=by
 unfold xd;rw[(zxr h).1,bsQ];rfl
-- declarations
section
variable{r:List Token}{L:List (List UInt8)}
end
theorem W3(p:Nat):TWF [wb p]:=rfl
theorem zyr{l:List Token}{e:Expr}{p:Nat}(hl:WT e≤12)(h:DE 0 (l++[wb p])=.ok (e,[wb p])):zc0 (l++[wb p])=.ok (e,[wb p]):=by
 unfold zc0;rw[h];simp only[thn,zAp];rw[if_pos (by rfl)];simp only[thn];rw[if_pos (dt hl)]
theorem zmo{s:List UInt8}{l:List Token}{e:Expr}{p:Nat}(hx:zDr s=.ok (l++[wb p]))(hl:WT e≤12)(h:DE 0 (l++[wb p])=.ok (e,[wb p])):JO s=.ok e:=by
 unfold JO;rw[hx];dsimp only;rw[zyr hl h]
theorem zui{e:Expr}(h:OX 12 e){l:List Token}{p:Nat}(hl:l.map t3=yl 12 e):DE 0 (l++[wb p])=.ok (e,[wb p]) :=
 (zt5 h).1 0 l _ (by omega) (by rw[hl];exact zEl.symm) (W3 p) (zou rfl)
theorem zys{e:Expr}(h:OX 12 e){l:List Token}{p:Nat}(hl:l.map t3=sgQ wB::(yl 12 e++[sgQ xL])):DE 0 (l++[wb p])=.ok (e,[wb p]):=by
 obtain⟨a,l1,rfl,h1⟩:=map_cons hl;obtain⟨l2,l3,rfl,h2,h3⟩:=WZ h1;obtain⟨b,l4,rfl,h4⟩:=map_cons h3;obtain rfl:=map_nil h4;have hok:=(jB h).2.1
 have e1:tk (sgQ wB) a::(l2++[tk (sgQ xL) b])++[wb p]=tk (sgQ wB) a::(l2++(tk (sgQ xL) b::[wb p])):=by simp
 rw[e1];have w1:=wJ (a:=sgQ xL) (p:=b) rfl (W3 p);have hin:=(zt5 h).1 0 l2 (tk (sgQ xL) b::[wb p]) (by omega) (by rw[h2];exact zEl.symm) w1 (zou rfl)
 exact zcw (wJ (a:=sgQ wB) rfl (vx hok h2 w1)) (W3 p) 8 0 8 rfl (Nat.le_refl _)
  (fun j _ _=>⟨fun hh=>absurd hh.2 (by rw[kP];decide),fun hh=>absurd hh.2 (by rw[kP];decide),fun hh=>absurd hh.2 (by rw[kP];decide)⟩) (zou rfl) (zAu hok h2 (W3 p) hin)
theorem fewer{e c:Expr}(h:OX 12 e){s:List UInt8}{ts:List T3}(hs:LX s ts)(ho:OKs ts)(hn:ts.length<(yl 12 e).length)(hx:JO s=.ok c):c≠e:=by
 rintro rfl;obtain⟨l,p,h1,h2⟩:=zte hs;unfold JO at hx;rw[h2]at hx;dsimp only at hx;split at hx
 ·rename_i e' r hr
  cases hx;unfold zc0 at hr;obtain⟨a,r1,k1,k2⟩:=zL hr;obtain⟨_,r2,k3,k4⟩:=zL k2;obtain⟨_,r3,k5,k6⟩:=zL k4;cases k6;have hw:TWF (l++[wb p]):=vx ho h1 (W3 p);obtain⟨k,g1,g2⟩:=DE_gd (by omega) hw k1;have:=zyg g1 12 h;have h0:(qc (yl 12 c) (lvO c.Op) (fmG true 0)).length=(yl 12 c).length:=congrArg List.length (zEl (t:=yl 12 c) (op:=c.Op));rw[h0]at this;have hr1:=List.length_pos_iff.2 (yI hw k1).wf.ne
  have hl:l.length=ts.length:=by rw[← h1,List.length_map]
  simp only[la,lc,List.length_nil]at g2;omega
 ·cases hx
theorem zyt{e:Expr}(h:zuo e=true):Qu e:=zot h
section
variable{e:Expr}{l:List Token}{p:Nat}
theorem zyu(hk:OX 12 e)(hlen:(zR 12 e).length≤8000)(hl:l.map t3=yl 12 e)(hll:(l++[wb p]).length≤8001)(htx:∀t∈l++[wb p],t.Text.length≤8000)(he:Qu e)(b:Bool):
  zN b (l++[wb p]) e.Op e.N e.S e.Key e.Args KK 0=some (.inr ()):=by
 obtain⟨_,hok,hjq⟩:=jB hk
 have hokl:OKs (l.map t3):=by rw[hl];exact hok
 have:=zl8 (l++[wb p]) (fun _=>true) (some (Sum.inr ())) (some (Sum.inl false)) (zN b (l++[wb p]) e.Op e.N e.S e.Key e.Args) (by omega) (fun K i x hx=>by
  have hi:=ztr hx;rw[zN];simp only[zji hx,ctQ,xP hx,bsQ,kN (show i<9223372036854775807 by omega)];by_cases ht:x.Text=wB
  ·rw[dt ht,Bool.not_true,cf]
   obtain⟨k,hp⟩:=zoy (l:=l++[wb p]) (i:=i) (by omega) (by omega);rw[hp,bsQ,zox (by omega) htx,bsQ]
   have hx3:x.Kind≠3:=by
    have hm:=List.mem_of_getElem? hx
    rcases List.mem_append.1 hm with hm|hm
    ·exact zt3 (hokl (t3 x) (List.mem_map_of_mem hm))
    ·obtain rfl:=msQ.1 hm
     exact absurd (show([]:List UInt8)=wB from ht) (by decide)
   have hlt:=zHy k (l++[wb p]) 0 i x hx hx3;rw[zua hokl,Nat.zero_add]at hlt
   have hsub:(tx (wo (i:Int) k 0 (l++[wb p]))).Sublist l:=by
    have:=(zgx (i:Int) k 0 (l++[wb p])).filter fun t=>!(decide (t.Kind=3))
    have e2:=zua (p:=p) hokl;unfold tx at e2 ⊢;rw[e2]at this;exact this
   generalize hm:tx (wo (i:Int) k 0 (l++[wb p]))=m at hlt hsub;rw[zt9];have hs3:=hsub.map t3
   have hom:OKs (m.map t3):=fun t ht=>hokl t (hs3.subset ht)
   have hj:=zHx hs3;rw[hl,← hjq]at hj;rw[HC (Nat.le_trans hj hlen),bsQ]
   cases hx2:JO (jq (m.map t3))with
   |error y =>
    have hd:decide (y.2=0)=false:=df (zmn (Nat.le_trans hj hlen) hx2);obtain⟨y1,y2⟩:=y
    show((bif (decide (y2=0))then _ else some false).bind _).bind _=_
    rw[show decide (y2=0)=false from hd];rfl
   |ok c =>
    simp only[zuh,decide_true,ctQ,vZ];have hne:=fewer hk (zD2 hom) hom (by rw[← hl,List.length_map,List.length_map];exact hlt) hx2;rw[ztq (zjq (Nat.le_trans hj hlen) hx2),zx3 hne];rfl
  ·rw[df ht];rfl) (fun K=>by rw[zN,WV];rfl)
 rw[this]
 have:(l++[wb p]).all (fun _=>true)=true:=List.all_eq_true.2 fun _ _=>rfl
 rw[this];rfl
end
theorem zoz{e:Expr}:yT e=some true:=by
 unfold yT;rw[zyo,bsQ,vZ,zjj,bsQ]
 cases hf:zuo e with
 |false=>rfl
 |true =>
  rw[Bool.not_true,cf,zgv hf,bsQ];unfold zt6
  cases hk:okE 12 e with
  |false =>
   simp only[Bool.false_eq_true,if_false];rw[Qv (zma hf),hk];rfl
  |true =>
   rw[if_pos rfl];by_cases hlen:(zR 12 e).length≤8000
   ·rw[if_pos hlen]
    dsimp only;have ox:=zHl 12 e hk;obtain⟨hne,hok,hjq⟩:=jB ox;have hsm:=zyt hf;obtain⟨l,p,h1,h2⟩:=zte (zD2 hok);rw[← hjq]at h2;have hE:JO (zR 12 e)=.ok e:=zmo h2 (zAx ox) (zui ox h1);rw[show decide ((0:Int)=0)=true from rfl,Bool.not_true,cf,HC hlen,bsQ,yA (by rw[l28];omega),bsQ,yA (by rw[la,l28,l29];omega),bsQ,hE];simp only[zuh,decide_true,Bool.not_true,cf,vZ]
    have hsame:yk KK e e=some true:=by rw[ztq hsm,zD1 rfl]
    have hpar:∃y,xd (og++zR 12 e++oI)=some y∧((zR 12 e).length<7996→y=zuh (.ok e)):=by
     by_cases h8:(og++zR 12 e++oI).length≤8000
     ·refine⟨_,HC h8,fun _=>?_⟩
      have hokp:OKs (sgQ wB::(yl 12 e++[sgQ xL])):=y9 rfl (WX hok (y9 rfl KS));obtain⟨l',p',q1,q2⟩:=zte (zD2 hokp)
      have ej:og++zR 12 e++oI=jq (sgQ wB::(yl 12 e++[sgQ xL])):=by
       rw[o5 (by simp),zgt hne (by simp),← hjq,asc];rfl
      rw[ej,zmo q2 (zAx ox) (zys ox q1)]
     ·exact⟨_,Yx (by omega),fun hlt=>absurd hlt (by
       rw[la,la,l28,l29]at h8;omega)⟩
    obtain⟨y,hy1,hy2⟩:=hpar;rw[hsame,hy1,bsQ,bsQ,Bool.not_true,cf]
    have hb:(bif (decide (((List.length (zR 12 e):Nat):Int)<7996))then(bif (!(decide (y.2.1=0)))then some true else(yk KK (Expr.mk y.2.2.1 y.2.2.2.1 y.2.2.2.2.1 y.2.2.2.2.2.1 y.2.2.2.2.2.2) e).bind fun x11=>some (!x11))else some false)=some false:=by
     by_cases h7:(zR 12 e).length<7996
     ·rw[dt (by omega),ctQ,hy2 h7]
      simp only[zuh,decide_true,Bool.not_true,cf,vZ,hsame,bsQ]
     ·rw[df (by omega),cf]
    rw[hb,bsQ,cf,zG9 hlen,bsQ,h2];simp only[zIm,decide_true,Bool.not_true,cf];obtain⟨hst,_⟩:=zct hlen h2
    have hll:(l++[wb p]).length≤8001:=by
     have:=zl5 _ _ _ _ (Nat.lt_succ_self _) h2;omega
    have hokl:OKs (l.map t3):=by rw[h1];exact hok
    rw[zAy (by omega) hst.txt,bsQ,zua hokl,zt9,h1,← hjq,dt rfl];simp only[Bool.not_true,bsQ,cf];rw[zyu ox hlen h1 hll hst.txt hsm];rfl
   ·rw[if_neg hlen];rfl
end Go.Proofs.YtffencjoddkghaaGreatDoor
