/- texts that the proof reaches, part 11 -/
import Derived.Test.YtffencjoddkghaaGreatDoorKj
set_option linter.all false
set_option maxRecDepth 100000
namespace Go.Proofs.YtffencjoddkghaaGreatDoor
open Go Go.RowKit Go.Eng Go.EV Go.EQ
variable[Fuel]
def zD{p:Prop}{i:Decidable p}(h:p):@grd p i=some ():=if_pos h
def wa{n:Int}(h0:-9223372036854775808<=n)(h1:n<=9223372036854775807):EV.w64 n=n:=zzu h0 h1
def zNe{α:Type}[Inhabited α]{l:List α}{i:Nat}(h:i<l.length):idx l (i:Int)=some (l.getD i default):=by
 unfold idx;rw[if_pos ⟨ab,ab⟩];rfl
def ye{α:Type}[Inhabited α]{l:List α}{i:Nat}{x:α}(h:l[i]?=some x):idx l (i:Int)=some x:=by
 obtain⟨h1,h2⟩:=List.getElem?_eq_some_iff.1 h;rw[zNe h1,List.getD_eq_getElem?_getD,h];rfl
def zNf{α:Type}{l:List α}{a b:Nat}(h1:a<=b)(h2:b<=l.length):cut l (a:Int) (b:Int)=some ((l.take b).drop a):=by
 unfold cut;rw[if_pos ⟨ab,ab,ab⟩];rfl
def zkj{α:Type}{l:List α}{a:Nat}(h1:a<=l.length):cut l (a:Int) (l.length:Int)=some (l.drop a):=by
 rw[zNf h1 aq,List.take_length]
def xB{n:Nat}(h:n<9223372036854775807):w64 ((n:Int)+1)=((n+1:Nat):Int):=by rw[wa ab ab];rfl
def jz{n:Nat}(h:n<18446744073709551616):n<KK:=Nat.lt_of_lt_of_le h Fuel.big
def wb{α:Type}{l:List α}{i:Nat}{x:α}{r:List α}(h:l.drop i=x::r):l[i]?=some x/\l.drop (i+1)=r/\i<l.length:=by
 have h0:l[i]?=some x:=by
  have:=List.getElem?_drop (xs:=l) (i:=i) (j:=0);rw[h]at this;simpa using this.symm
 refine⟨h0,?_,(List.getElem?_eq_some_iff.1 h0).1⟩;rw[<- List.drop_drop,h];rfl
def drop_nil{α:Type}{l:List α}{i:Nat}(h:l.drop i=[])(hi:i<=l.length):i=l.length:=by
 have:=congrArg List.length h;simp at this;omega
-- bytes
def jZ(c:UInt8):Bool:=decide (97<=c.toNat)&&decide (c.toNat<=122)
def xi(c:UInt8):Bool:=decide (48<=c.toNat)&&decide (c.toNat<=57)
def yo(c:UInt8):Bool:=decide (c.toNat=32)||(decide (c.toNat=9)||decide (c.toNat=10))
def xq(c:UInt8):Bool:=jZ c||xi c
def zsg(a b:Bool):(bif a then some b else some false)=some (a&&b):=by cases a<;>rfl
def zvc(a b:Bool):(bif a then some true else some b)=some (a||b):=by cases a<;>rfl
def yE{p q:Prop}{i:Decidable p}{j:Decidable q}(h:p↔q):@decide p i=@decide q j:=by
 by_cases hq:q
 ·rw[dt hq,dt (h.2 hq)]
 ·rw[df hq,df (λhp=>hq (h.1 hp))]
def zNg(n m:Nat){a:Int}(h:a=(m:Int)):decide ((n:Int)>=a)=decide (m<=n):=yE ab
def zhs(n m:Nat){a:Int}(h:a=(m:Int)):decide ((n:Int)<=a)=decide (n<=m):=yE ab
def zDq(n m:Nat){a:Int}(h:a=(m:Int)):decide ((n:Int)=a)=decide (n=m):=yE ab
def zkk(c:UInt8):qk ((c.toNat:Nat):Int)=some (jZ c):=by
 unfold qk;rw[zsg,jZ,zNg _ 97 (a:=97) rfl,zhs _ 122 (a:=122) rfl]
def zsh(c:UInt8):uc ((c.toNat:Nat):Int)=some (xi c):=by
 unfold uc;rw[zsg,xi,zNg _ 48 (a:=48) rfl,zhs _ 57 (a:=57) rfl]
def zRp(c:UInt8):Kr ((c.toNat:Nat):Int)=some (yo c):=by
 unfold Kr;rw[zvc,zvc,yo,zDq _ 32 (a:=32) rfl,zDq _ 9 (a:=9) rfl,zDq _ 10 (a:=10) rfl]
def zDr(c:UInt8):oj ((c.toNat:Nat):Int)=some (xq c):=by
 unfold oj;rw[zkk,bsQ,zsh,bsQ,zvc,xq]
-- runs of bytes
def zbd(l:ak)(f:UInt8->Bool)(G:UInt8->Option Bool)(F:Nat->Int->Option Int)(hG:∀b,G b=some (f b))
  (hF:∀K q,F (K+1) q=((bif (decide (q<((List.length l:Nat):Int)))then(idx l q).bind G else some false)).bind λx1=>(bif x1 then F K (w64 (q+1))else some q)) (hl:l.length<4611686018427387904):
  ∀(r:ak)(i K:Nat),l.drop i=r->i<=l.length->r.length<K->F K (i:Int)=some ((i+(r.takeWhile f).length:Nat):Int):=by
 intro r
 induction r with
 |nil =>
  intro i K hr hi hK
  obtain⟨K,rfl⟩:∃k,K=k+1:=⟨K-1,ab⟩
  have:=drop_nil hr hi;rw[hF,df ab];simp
 |cons c r ih =>
  intro i K hr hi hK
  obtain⟨K,rfl⟩:∃k,K=k+1:=⟨K-1,ab⟩
  obtain⟨h1,h2,h3⟩:=wb hr;simp only[lc]at hK;rw[hF,dt ab,ctQ,ye h1,bsQ,hG,bsQ]
  cases hc:f c with
  |false=>simp[List.takeWhile,hc]
  |true =>
   rw[ctQ,xB ab,ih (i+1) K h2 ab ab];simp only[List.takeWhile,hc,lc]
   congr 2;omega
def vC(f:UInt8->Bool)(l:ak):Nat:=(l.takeWhile f).length
def Hf(f:UInt8->Bool)(l:ak):vC f l<=l.length:=(List.takeWhile_sublist _).length_le
def zd6{α:Type}(o:Option α):(o.bind λx=>some x)=o:=by cases o<;>rfl
def zXk{s:ak}(h:s.length<4611686018427387904):zaw s=some ((vC yo s:Nat):Int):=by
 unfold zaw;rw[zd6,show((0:Int))=((0:Nat):Int) from rfl,zbd s yo (λx2=>(Kr ((x2.toNat:Nat):Int)).bind λx3=>some x3) (Jo s) (λb=>by rw[zRp];rfl) (λK q=>rfl) h s 0 KK rfl ab (jz ab)];simp[vC]
def zRq{s:ak}(h:s.length<4611686018427387904):Qg s=some ((vC xq s:Nat):Int):=by
 unfold Qg;rw[zd6,show((0:Int))=((0:Nat):Int) from rfl,zbd s xq (λx2=>(Qf ((x2.toNat:Nat):Int)).bind λx3=>some x3) (uM s) (λb=>by rw[show Qf=oj from rfl,zDr];rfl) (λK q=>rfl) h s 0 KK rfl ab (jz ab)];simp[vC]
def zRr{s:ak}(h:s.length<4611686018427387904):Qh s=some ((vC xq s:Nat):Int):=by
 unfold Qh;rw[zd6,show((0:Int))=((0:Nat):Int) from rfl,zbd s xq (λx2=>(oj ((x2.toNat:Nat):Int)).bind λx3=>some x3) (uN s) (λb=>by rw[zDr];rfl) (λK q=>rfl) h s 0 KK rfl ab (jz ab)];simp[vC]
def zDs{s:ak}(h:s.length<4611686018427387904):Hr s=some ((vC xi s:Nat):Int):=by
 unfold Hr;rw[zd6,show((0:Int))=((0:Nat):Int) from rfl,zbd s xi (λx2=>(uc ((x2.toNat:Nat):Int)).bind λx3=>some x3) (uO s) (λb=>by rw[zsh];rfl) (λK q=>rfl) h s 0 KK rfl ab (jz ab)];simp[vC]
def zvd{f:UInt8->Bool}{l:ak}:vC f l=l.length↔l.all f=true:=by
 induction l with
 |nil=>simp[vC]
 |cons c l ih =>
  simp only[vC,List.takeWhile,List.all_cons]at ih ⊢
  cases f c with
  |false=>simp
  |true=>simp only[lc,Bool.true_and,<- ih];omega
-- words
def KO(s:ak):Bool:=match s with
 |[]=>false
 |c::r=>jZ c&&(decide (s.length<=20)&&r.all xq)
def zNh{s:ak}(h:s.length<4611686018427387904):Wb s=some (KO s):=by
 unfold Wb
 cases s with
 |nil=>rfl
 |cons c r =>
  rw[df af,cf,show((0:Int))=((0:Nat):Int) from rfl,ye (x:=c) rfl,bsQ,zkk,bsQ,zvc,bsQ,zRr h,bsQ]
  have e:decide ((vC xq (c::r):Int)=(((c::r).length:Nat):Int))=(xq c&&r.all xq):=by
   rw[<- List.all_cons,Bool.eq_iff_iff,decide_eq_true_iff,<- zvd];omega
  rw[e,KO]
  cases hc:jZ c with
  |false=>simp
  |true =>
   have:xq c=true:=by rw[xq,hc];rfl
   rw[this];by_cases h20:(c::r).length<=20
   ·rw[dt h20,df ab];simp
   ·rw[df h20,dt ab];simp
def JM(s:ak):List ak->Option Nat
 |[]=>none
 |x::r=>if x=s then some 0 else(JM s r).map (·+1)
def KP:Option Nat->Int
 |some i=>(i:Int)
 |none=>-1
def zo1{s:ak}:∀{l:List ak}{i:Nat},JM s l=some i->l[i]?=some s
 |x::r,i,h=>by
  rw[JM]at h;split at h
  ·rename_i e;cases h;simp[e]
  ·obtain⟨j,h1,rfl⟩:=Option.map_eq_some_iff.1 h
   simpa using zo1 h1
def RES:List ak:=[zCr,qh,AI,V7,wR,yY,yU,vw,xO,kE,V9,ze1,vG,qZ,zVx,yI,qi,ua,jx,Jm,yz,uE,xC,oW,wm,AJ,xh]
def zN(s:ak):Bool:=KO s&&!(decide (s∈RES))
def zsi:List ak->ak
 |[]=>[32]
 |w::r=>32::(w++zsi r)
def zJs:∀l,∃t,zsi l=32::t
 |[]=>⟨[],rfl⟩
 |w::r=>⟨_,rfl⟩
def zNi{t:ak}:∀{s w:ak},(∀b∈s,b≠32)->(∀b∈w,b≠32)->(s++[32]).isPrefixOf (w++32::t)=decide (s=w)
 |[],[],_,_=>by simp[List.isPrefixOf]
 |[],b::w,_,h=>by
  have:=h b al;simp[List.isPrefixOf,Ne.symm this]
 |a::s,[],h,_=>by
  have:=h a al;simp[List.isPrefixOf,this]
 |a::s,b::w,h,h'=>by
  have ih:=zNi (t:=t) (s:=s) (w:=w) (λx hx=>h x (mcQ _ hx)) (λx hx=>h' x (mcQ _ hx));simp only[List.cons_append,List.isPrefixOf,ih];by_cases e:a=b
  ·subst e;simp
  ·simp[e]
def zve{x y:ak}:∀{w:ak},(∀b∈w,b≠32)->Kk (w++x) (32::y)=Kk x (32::y)
 |[],_=>rfl
 |b::w,h=>by
  have h1:=h b al;rw[List.cons_append,Kk,zve λc hc=>h c (mcQ _ hc)];simp[List.isPrefixOf,Ne.symm h1]
def zo2{s:ak}(hs:∀b∈s,b≠32):∀{l:List ak},(∀w∈l,∀b∈w,b≠32)->Kk (zsi l) (32::(s++[32]))=decide (s∈l)
 |[],_=>by cases s<;>simp[zsi,Kk,List.isPrefixOf]
 |w::r,h=>by
  obtain⟨t,ht⟩:=zJs r;have hw:=h w al;rw[zsi,Kk,zve hw,zo2 hs λx hx=>h x (mcQ _ hx)]
  have:(32::(s++[32])).isPrefixOf (32::(w++zsi r))=decide (s=w):=by
   rw[ht];simp only[List.isPrefixOf,beq_self_eq_true,Bool.true_and];exact zNi hs hw
  rw[this];by_cases e:s=w
  ·simp[e]
  ·simp[e]
def zJt{c:UInt8}(h:xq c=true):c≠32:=by
 rintro rfl;revert h;decide
def YV{s:ak}(h:KO s=true):s.all xq=true:=by
 cases s with
 |nil=>cases h
 |cons c r =>
  simp only[KO,bn]at h;simp only[List.all_cons,xq,h.1,Bool.true_or,Bool.true_and];exact h.2.2
def zvf{s:ak}(h:KO s=true):s.length<=20/\s≠[]:=by
 cases s with
 |nil=>cases h
 |cons c r =>
  simp only[KO,bn,decide_eq_true_eq]at h;exact⟨h.2.1,af⟩
def yZ{s:ak}(h:s.length<4611686018427387904):QM s=some (zN s):=by
 unfold QM zN;rw[zNh h,bsQ]
 cases hw:KO s with
 |false=>rfl
 |true =>
  have h20:=(zvf hw).1
  have hs:∀b∈s,b≠32:=λb hb=>zJt (List.all_eq_true.1 (YV hw) b hb)
  have e:=zo2 hs (l:=RES) ae
  have e2:zsi RES=zh:=ae
  rw[e2]at e;rw[ctQ,zD (by simp[t__];omega),bsQ,zD (by simp[t__];omega),bsQ]
  have:Qj zh ((t__++s)++t__)=some (decide (s∈RES)):=by
   unfold Qj Qc;rw[zD ae,bsQ,<- e];rfl
  rw[this];rfl
def zyn(c:UInt8):Nat:=c.toNat-48
def YW:ak->Nat->Nat
 |[],n=>n
 |c::r,n=>YW r (10*n+zyn c)
def Vn(n:Nat)(r:ak):Nat:=YW r n
def YX(n:Nat)(c:UInt8)(r:ak):Vn n (c::r)=Vn (10*n+zyn c) r:=by simp only[Vn,YW]
def zNj(s:ak):Option Nat:=if s.all xi=true/\s≠[]/\(s.head?=some 48->s=[48])/\Vn 0 s<=1099511627776 then some (Vn 0 s)else none
def numR(s:ak):Int×Bool:=match zNj s with
 |some v=>((v:Int),true)
 |none=>(0,false)
def zDt:∀(r:ak)(n:Nat),n*10 ^ r.length<=Vn n r
 |[],n=>by simp[Vn,YW]
 |c::r,n=>by
  have:=zDt r (10*n+zyn c);rw[YX];refine Nat.le_trans ?_ this;rw[lc,Nat.pow_succ,Nat.mul_comm (10 ^ r.length) 10,<- Nat.mul_assoc];exact Nat.mul_le_mul_right _ ab
def zkl{c:UInt8}(h:xi c=true):48<=c.toNat/\c.toNat<=57:=by
 simp only[xi,bn,decide_eq_true_eq]at h;exact h
def zRs(s:ak)(hl:s.length<=13):∀(r:ak)(i K n:Nat),s.drop i=r->i<=s.length->r.length<K->r.all xi=true->n<10 ^ i->vW s (s.length:Int) K ((n:Int),(i:Int))=some ((Vn n r:Nat):Int):=by
 intro r
 induction r with
 |nil =>
  intro i K n hr hi hK hd hn
  obtain⟨K,rfl⟩:∃k,K=k+1:=⟨K-1,ab⟩
  have:=drop_nil hr hi;rw[vW,df (show ¬((i:Int)<(s.length:Int)) by omega)];rfl
 |cons c r ih =>
  intro i K n hr hi hK hd hn
  obtain⟨K,rfl⟩:∃k,K=k+1:=⟨K-1,ab⟩
  obtain⟨h1,h2,h3⟩:=wb hr;simp only[lc]at hK;simp only[List.all_cons,bn]at hd;have hc:=zkl hd.1;have h13:10 ^ i<=10 ^ 12:=Nat.pow_le_pow_right ab ab
  have h13':(10:Nat) ^ 12=1000000000000:=ae
  have hw:IntKind.u8.wrap (((c.toNat:Nat):Int)-48)=((zyn c:Nat):Int):=by
   unfold IntKind.wrap zyn;simp only[IntKind.bits,IntKind.signed];simp;omega
  have hdv:zyn c<=9:=by unfold zyn;omega
  rw[vW,dt (show((i:Int)<(s.length:Int)) by omega),ctQ,ye h1,bsQ,hw];simp only
  rw[wa (n:=10*(n:Int)) ab ab,wa (n:=((zyn c:Nat):Int)) ab ab,wa ab ab,xB ab,
   show(10*(n:Int)+((zyn c:Nat):Int))=((10*n+zyn c:Nat):Int) by omega]
  rw[ih (i+1) K _ h2 ab ab hd.2 (by rw[Nat.pow_succ];omega),YX]
def zJu{s:ak}(h:s.length<4611686018427387904):Qi s=some (numR s):=by
 unfold Qi numR zNj
 cases s with
 |nil=>rfl
 |cons c r =>
  have e1:decide ((c::r)=([]:ak))=false:=af
  have e2:decide (((vC xi (c::r):Nat):Int)=(((c::r).length:Nat):Int))=(c::r).all xi:=by
   rw[Bool.eq_iff_iff,decide_eq_true_iff,<- zvd];omega
  rw[e1,cf,zDs h,bsQ,e2]
  cases hd:(c::r).all xi with
  |false=>simp[hd]
  |true =>
   have e3:decide (((c.toNat:Nat):Int)=48)=decide (c=48):=yE ⟨λh=>UInt8.toNat_inj.1 (by simpa using(by omega:c.toNat=48)),λh=>by subst h;rfl⟩;rw[Bool.not_true,cf,show(0:Int)=((0:Nat):Int) from rfl,ye (x:=c) rfl,bsQ,e3];by_cases h48:c=48/\r≠[]
   ·obtain⟨rfl,hr⟩:=h48
    have:decide ((48::r)=t_0)=false:=df (by simp[t_0,hr]);rw[this];simp[hd,hr]
   ·have hv:((c::r).head?=some 48->(c::r)=[48]):=λe=>by
     simp at e;subst e
     have:r=[]:=Classical.byContradiction λhr=>h48 ⟨rfl,hr⟩
     rw[this]
    have e4:(bif decide (c=48)then(bif (!(decide ((c::r)=t_0)))then some true else some (decide ((((c::r).length:Nat):Int)>13)))else some (decide ((((c::r).length:Nat):Int)>13)))=some (decide (13<(c::r).length)):=by
     have e5:decide ((((c::r).length:Nat):Int)>13)=decide (13<(c::r).length):=yE ab;rw[e5];by_cases hc:c=48
     ·subst hc
      have:=hv rfl;rw[this];rfl
     ·rw[df hc,cf]
    rw[e4,bsQ];by_cases h13:13<(c::r).length
    ·rw[dt h13,ctQ]
     have hc:=zkl (c:=c) (by simp only[List.all_cons,bn]at hd;exact hd.1)
     have hc2:c≠48:=λe=>by
      subst e;rw[hv rfl]at h13;simp at h13
     have hc3:c.toNat≠48:=λe=>hc2 (UInt8.toNat_inj.1 (by simpa using e))
     have hg:1099511627776<Vn 0 (c::r):=by
      rw[YX];refine Nat.lt_of_lt_of_le ?_ (zDt r _);simp only[lc]at h13;have h1:10 ^ 13<=10 ^ r.length:=Nat.pow_le_pow_right ab ab
      have h2:1<=10*0+zyn c:=by unfold zyn;omega
      have h3:=Nat.mul_le_mul h2 h1
      have h4:(10:Nat) ^ 13=10000000000000:=ae
      omega
     rw[if_neg (λhh=>ab)]
    ·rw[df h13,cf,show((0:Nat):Int)=((0:Nat):Int) from rfl,zRs (c::r) ab (c::r) 0 KK 0 rfl ab (jz ab) hd ab,bsQ]
     have e6:decide (((Vn 0 (c::r):Nat):Int)>1099511627776)=!decide (Vn 0 (c::r)<=1099511627776):=by
      rw[<- decide_not];exact yE ab
     rw[e6];by_cases hg:Vn 0 (c::r)<=1099511627776
     ·rw[if_pos ⟨rfl,af,hv,hg⟩,dt hg];rfl
     ·rw[if_neg (λhh=>hg hh.2.2.2),df hg];rfl
def SG:List ak:=[qK,qL,yg,qa,xI,Az,zfl,zfj,yS,zfi,zfk,zfh,Ay,qj]
def zo3(s:ak):Option ak:=SG.find? λx=>x.isPrefixOf s
def tkS(s:ak):Except Int (Int×ak×Int):=match s with
 |[]=>.error 13
 |c::_=>if jZ c then(if(s.takeWhile xq).length<=20 then .ok (0,s.takeWhile xq,0)else .error 15)
  else if xi c then(match zNj (s.takeWhile xi)with|some v=>.ok (1,s.takeWhile xi,(v:Int))|none=>.error 3)
  else match zo3 s with|some t=>.ok (2,t,0)|none=>.error 13
def tokR:Except Int (Int×ak×Int)->Int×Int×ak×Int×Int
 |.ok (k,t,n)=>(0,k,t,n,0)
 |.error e=>(e,0,[],0,0)
def zd7(f:UInt8->Bool)(s:ak):s.take (vC f s)=s.takeWhile f:=by
 induction s with
 |nil=>rfl
 |cons c s ih =>
  simp only[vC,List.takeWhile]at ih ⊢
  cases f c with
  |false=>rfl
  |true=>simp only[lc,List.take_succ_cons,ih]
def Ww(f:UInt8->Bool)(s:ak):s.drop (vC f s)=s.dropWhile f:=by
 induction s with
 |nil=>rfl
 |cons c s ih =>
  simp only[vC,List.takeWhile,List.dropWhile]at ih ⊢
  cases f c with
  |false=>rfl
  |true=>simp only[lc,List.drop_succ_cons,ih]
def zJv(f:UInt8->Bool)(s:ak):(s.takeWhile f).all f=true:=by
 induction s with
 |nil=>rfl
 |cons c s ih =>
  simp only[List.takeWhile]
  cases h:f c with
  |false=>rfl
  |true=>simp[h,ih]
def zDu{c:UInt8}{r:ak}(hc:jZ c=true):KO ((c::r).takeWhile xq)=decide (((c::r).takeWhile xq).length<=20):=by
 have h:=zJv xq (c::r)
 have ha:xq c=true:=by rw[xq,hc];rfl
 simp only[List.takeWhile,ha]at h ⊢;simp only[List.all_cons,ha,Bool.true_and]at h;rw[KO,hc,h];simp
def zXl(s:ak):∀(r:List ak)(i K:Nat),SG.drop i=r->i<=14->r.length<K->ql s qK qL yg qa xI Az zfl zfj yS zfi zfk zfh Ay qj 0 ([]:ak) K (i:Int)=some (match r.find? λx=>x.isPrefixOf s with|some t=>.inl (0,2,t,0,0)|none=>.inr ()):=by
 intro r
 induction r with
 |nil =>
  intro i K hr hi hK
  obtain⟨K,rfl⟩:∃k,K=k+1:=⟨K-1,ab⟩
  have:=drop_nil hr hi;have:i=14:=this;rw[ql,df ab];rfl
 |cons c r ih =>
  intro i K hr hi hK
  obtain⟨K,rfl⟩:∃k,K=k+1:=⟨K-1,ab⟩
  obtain⟨h1,h2,h3⟩:=wb hr;have h3:i<14:=h3;simp only[lc]at hK;have hx:idx (α:=ak) ([qK,qL,yg,qa,xI,Az,zfl,zfj,yS,zfi,zfk,zfh,Ay,qj]:List ak) (i:Int)=some c:=ye h1;rw[ql,dt ab,ctQ,hx,bsQ,show Q8 s c=some (c.isPrefixOf s) from rfl,bsQ,List.find?_cons]
  cases c.isPrefixOf s with
  |true=>rfl
  |false=>rw[cf,xB ab,ih (i+1) K h2 ab ab]
def zJw{c:UInt8}{r:ak}:idx (c::r) 0=some c:=ye (i:=0) rfl
def zvg{α:Type}{l:List α}{b:Nat}(h:b<=l.length):cut l 0 (b:Int)=some (l.take b):=zNf (a:=0) (Nat.zero_le _) h
def jF(c:UInt8)(r:ak):tkS (c::r)=(if jZ c then(if((c::r).takeWhile xq).length<=20 then .ok (0,(c::r).takeWhile xq,0)else .error 15)
  else if xi c then(match zNj ((c::r).takeWhile xi)with|some v=>.ok (1,(c::r).takeWhile xi,(v:Int))|none=>.error 3)
  else match zo3 (c::r)with|some t=>.ok (2,t,0)|none=>.error 13):=rfl
def zXm{s:ak}(h:s.length<4611686018427387904)(h0:s≠[]):zax s=some (tokR (tkS s)):=by
 cases s with
 |nil=>exact absurd rfl h0
 |cons c r =>
  unfold zax;rw[jF,zJw,bsQ,zkk,bsQ]
  cases hc:jZ c with
  |true =>
   rw[ctQ,zRq h,bsQ,zvg (Hf _ _),bsQ,zd7];have ht:((c::r).takeWhile xq).length<4611686018427387904:=Nat.lt_of_le_of_lt (Hf xq _) h;rw[zNh ht,bsQ,zDu hc,if_pos rfl];by_cases h20:((c::r).takeWhile xq).length<=20
   ·rw[dt h20,if_pos h20];rfl
   ·rw[df h20,if_neg h20];rfl
  |false =>
   rw[cf,bsQ,zsh,bsQ,if_neg af]
   cases hd:xi c with
   |true =>
    rw[ctQ,zDs h,bsQ,zvg (Hf _ _),bsQ,zd7];have ht:((c::r).takeWhile xi).length<4611686018427387904:=Nat.lt_of_le_of_lt (Hf xi _) h;rw[zJu ht,bsQ,numR,if_pos rfl]
    cases zNj ((c::r).takeWhile xi)with
    |none=>rfl
    |some v=>rfl
   |false =>
    rw[cf,if_neg af];have:=zXl (c::r) SG 0 KK rfl ab (jz ae);rw[show(((0:Nat):Int))=(0:Int) from rfl]at this;rw[this,zo3]
    cases SG.find? λx=>x.isPrefixOf (c::r)with
    |none=>rfl
    |some t=>rfl
-- the reference
def ONE:ak:=xm
def SG_hd:∀x∈SG,∃a t,x=a::t/\a∈ONE:=by
 intro x hx;simp only[SG,List.mem_cons,List.mem_nil_iff,or_false]at hx
 rcases hx with rfl|rfl|rfl|rfl|rfl|rfl|rfl|rfl|rfl|rfl|rfl|rfl|rfl|rfl<;>exact⟨_,_,rfl,ae⟩
def zht{c:UInt8}{r:ak}(h:c ∉ ONE):zo3 (c::r)=none:=by
 rw[zo3,List.find?_eq_none];intro x hx hp;obtain⟨a,t,rfl,ha⟩:=SG_hd x hx;simp only[List.isPrefixOf,bn,beq_iff_eq]at hp;exact h (hp.1▸ha)
def zvh{c:UInt8}{r:ak}:zo3 (c::r)=if r.head?=some 61/\(c=60∨c=61)then some [c,61]else if c∈ONE then some [c]else none:=by
 by_cases h:c∈ONE
 ·rw[if_pos h]
  simp only[ONE,xm,List.mem_cons,List.mem_nil_iff,or_false]at h
  cases r with
  |nil=>rcases h with rfl|rfl|rfl|rfl|rfl|rfl|rfl|rfl|rfl|rfl|rfl|rfl<;>rfl
  |cons d r =>
   by_cases hd:d=61
   ·subst hd
    rcases h with rfl|rfl|rfl|rfl|rfl|rfl|rfl|rfl|rfl|rfl|rfl|rfl<;>simp[zo3,SG,List.find?,List.isPrefixOf,qK,qL,yg,qa,xI,Az,zfl,zfj,yS,zfi,zfk,zfh,Ay,qj]
   ·have hd2:((61:UInt8)==d)=false:=by simp[Ne.symm hd]
    rcases h with rfl|rfl|rfl|rfl|rfl|rfl|rfl|rfl|rfl|rfl|rfl|rfl<;>simp[zo3,SG,List.find?,List.isPrefixOf,qK,qL,yg,qa,xI,Az,zfl,zfj,yS,zfi,zfk,zfh,Ay,qj,hd,hd2]
 ·rw[zht h,if_neg (λhh=>h (by rcases hh.2 with rfl|rfl<;>decide)),if_neg h]
def takeWhile_cons{f:UInt8->Bool}{c:UInt8}{r:ak}(h:f c=true):(c::r).takeWhile f=c::r.takeWhile f:=by simp[List.takeWhile,h]
def zkm(p:Nat):Token:=Token.mk 3 [] 0 (p:Int)
def zab:Nat->Nat->ak->Except (Nat×Int) (List Token)
 |0,p,_=>.ok [zkm p]
 |n+1,p,s=>match s.dropWhile yo with
  |[]=>.ok [zkm (p+vC yo s)]
  |c::r=>match tkS (c::r)with
   |.error e=>.error (p+vC yo s,e)
   |.ok (k,t,v)=>match zab n (p+vC yo s+t.length) ((c::r).drop t.length)with
    |.error e=>.error e
    |.ok l=>.ok (Token.mk k t v ((p+vC yo s:Nat):Int)::l)
def zT2(s:ak):Except (Nat×Int) (List Token):=zab (s.length+1) 0 s
def lexR:Except (Nat×Int) (List Token)->List Token×Int×Int
 |.ok l=>(l,0,0)
 |.error (p,e)=>([],(p:Int),e)
def zkn{s t:ak}{k n:Int}(h:tkS s=.ok (k,t,n)):t≠[]/\t=s.take t.length/\t.length<=s.length:=by
 have fin:∀{c:UInt8}{r:ak}{f:UInt8->Bool},f c=true->(c::r).takeWhile f≠[]/\(c::r).takeWhile f=(c::r).take ((c::r).takeWhile f).length/\((c::r).takeWhile f).length<=(c::r).length:=λ{c r f} hc=>by
  refine⟨by simp[takeWhile_cons hc],?_,Hf f _⟩;exact(zd7 f (c::r)).symm
 cases s with
 |nil=>cases h
 |cons c r =>
  rw[jF]at h;split at h
  ·rename_i hc
   split at h
   ·cases h
    exact fin (by rw[xq,hc];rfl)
   ·cases h
  ·split at h
   ·rename_i hd
    split at h
    ·cases h;exact fin hd
    ·cases h
   ·split at h
    ·rename_i hs
     cases h;rw[zvh]at hs;split at hs
     ·rename_i hh
      cases hs
      cases r with
      |nil=>simp at hh
      |cons d r =>
       have:d=61:=by simpa using hh.1
       subst this;exact⟨af,rfl,af⟩
     ·split at hs
      ·cases hs;exact⟨af,rfl,af⟩
      ·cases hs
    ·cases h
def zvi{s:ak}{e:Int}(h:tkS s=.error e):e≠0:=by
 cases s with
 |nil=>cases h;decide
 |cons c r =>
  rw[jF]at h;split at h
  ·split at h
   ·cases h
   ·cases h;decide
  ·split at h
   ·split at h
    ·cases h
    ·cases h;decide
   ·split at h
    ·cases h
    ·cases h;decide
def zRt(s0:ak)(hs:s0.length<=8000):∀(n i K:Nat)(out:List Token),i<=s0.length->s0.length-i<n->n<=K->out.length<=i->oo s0 K ((i:Int),out)=some (.inl (match zab n i (s0.drop i)with|.ok l=>(out++l,0,0)|.error (p,e)=>([],(p:Int),e))):=by
 intro n
 induction n with
 |zero=>intro i K out hi hn;omega
 |succ n ih =>
  intro i K out hi hn hK ho
  obtain⟨K,rfl⟩:∃k,K=k+1:=⟨K-1,ab⟩
  have hl:(s0.drop i).length=s0.length-i:=List.length_drop;have hsp:=Hf yo (s0.drop i)
  have e1:w64 ((i:Int)+((vC yo (s0.drop i):Nat):Int))=((i+vC yo (s0.drop i):Nat):Int):=by rw[wa ab ab];rfl
  rw[oo,zab];simp only;rw[zkj hi,bsQ,zXk ab,bsQ,e1]
  cases hd:(s0.drop i).dropWhile yo with
  |nil =>
   have h1:=Ww yo (s0.drop i);rw[hd]at h1;have h2:=drop_nil h1 (Hf _ _);rw[dt ab,ctQ,zD (by simp only[la,lc,List.length_nil];omega),bsQ];rfl
  |cons c r =>
   have h1:=Ww yo (s0.drop i);rw[hd,List.drop_drop]at h1;obtain⟨g1,g2,g3⟩:=wb h1;rw[df ab,cf,zkj ab,bsQ,h1,zXm (by rw[<- h1,List.length_drop];omega) af,bsQ];dsimp only
   cases ht:tkS (c::r)with
   |error e =>
    have he:=zvi ht;simp only[tokR,he,decide_false,Bool.not_false,ctQ]
   |ok x =>
    obtain⟨k,t,v⟩:=x;obtain⟨t1,t2,t3⟩:=zkn ht;have t4:0<t.length:=List.length_pos_iff.2 t1;have t5:=congrArg List.length h1;simp only[List.length_drop]at t5;change (bif (!(decide ((0:Int)=0)))then some _ else(grd (List.length (out++([(Token.mk k t v (((i+vC yo (s0.drop i):Nat):Int)))]:List Token))*40<=140737488355328)).bind λ_=>oo s0 K (w64 (((i+vC yo (s0.drop i):Nat):Int)+((t.length:Nat):Int)),out++([(Token.mk k t v (((i+vC yo (s0.drop i):Nat):Int)))]:List Token)))=_;rw[dt rfl,Bool.not_true,cf,zD (by simp only[la,lc,List.length_nil];omega),bsQ]
    have e2:w64 (((i+vC yo (s0.drop i):Nat):Int)+((t.length:Nat):Int))=((i+vC yo (s0.drop i)+t.length:Nat):Int):=by rw[wa ab ab];rfl
    rw[e2,ih (i+vC yo (s0.drop i)+t.length) K _ ab ab ab (by simp only[la,lc,List.length_nil];omega),<- List.drop_drop,h1];dsimp only
    cases hx:zab n (i+vC yo (s0.drop i)+t.length) ((c::r).drop t.length)with
    |error e=>rfl
    |ok l=>simp
def l_Lex{s:ak}(h:s.length<=8000):zcv s=some (lexR (zT2 s)):=by
 unfold zcv;have:=zRt s h (s.length+1) 0 KK [] ab ab (by have:=jz (n:=s.length) ab;omega) af;rw[show(((0:Nat):Int))=(0:Int) from rfl]at this;rw[df ab,cf,this,List.drop_zero,zT2]
 cases zab (s.length+1) 0 s with
 |error e=>rfl
 |ok l=>rfl
def zyo{c:UInt8}{r:ak}(hc:yo c=true)(n p:Nat):zab (n+1) p (c::r)=zab (n+1) (p+1) r:=by
 have e1:(c::r).dropWhile yo=r.dropWhile yo:=by simp[List.dropWhile,hc]
 have e2:p+vC yo (c::r)=p+1+vC yo r:=by simp only[vC,takeWhile_cons hc,lc];omega
 rw[zab,zab,e1,e2]
def zDv{c:UInt8}{r:ak}(hc:yo c=false)(n p:Nat):zab (n+1) p (c::r)=match tkS (c::r)with
   |.error e=>.error (p,e)
   |.ok (k,t,v)=>match zab n (p+t.length) ((c::r).drop t.length)with
    |.error e=>.error e
    |.ok l=>.ok (Token.mk k t v (p:Int)::l):=by
 have e1:(c::r).dropWhile yo=c::r:=by simp[List.dropWhile,hc]
 have e2:vC yo (c::r)=0:=by simp[vC,List.takeWhile,hc]
 rw[zab,e1,e2];rfl
def zJx:∀(n p:Nat)(s:ak)(l:List Token),s.length<n->zab n p s=.ok l->∃b,l=b++[zkm (p+s.length)]/\∀t∈b,t.Kind≠3/\t.Text.length<=s.length:=by
 intro n
 induction n with
 |zero=>intro p s l hn;omega
 |succ n ih =>
  intro p s l hn h;rw[zab]at h;have hsp:=Hf yo s;have hds:=Ww yo s;split at h
  ·rename_i hd
   cases h;rw[hd]at hds;have:=drop_nil hds (Hf _ _);exact⟨[],by simp[this],λt ht=>by cases ht⟩
  ·rename_i c r hd
   rw[hd]at hds;have hl:=congrArg List.length hds;simp only[List.length_drop]at hl;split at h
   ·cases h
   ·rename_i k t v ht
    obtain⟨t1,t2,t3⟩:=zkn ht;have t4:0<t.length:=List.length_pos_iff.2 t1;split at h
    ·cases h
    ·rename_i l' hl'
     cases h;obtain⟨b,rfl,hb⟩:=ih _ _ _ (by rw[List.length_drop];omega) hl';rw[List.length_drop]at hb ⊢;refine⟨_::b,by rw[List.cons_append];congr 4;omega,λx hx=>?_⟩
     rcases List.mem_cons.1 hx with rfl|hx
     ·refine⟨?_,by simp only;omega⟩
      rw[jF]at ht;simp only;split at ht
      ·split at ht
       ·cases ht;decide
       ·cases ht
      ·split at ht
       ·split at ht
        ·cases ht;decide
        ·cases ht
       ·split at ht
        ·cases ht;decide
        ·cases ht
     ·have:=hb x hx;exact⟨this.1,ab⟩
abbrev T3:=Int×ak×Int
def t3(t:Token):T3:=(t.Kind,t.Text,t.N)
def zDw{s t:ak}{c:UInt8}{r:ak}{k v:Int}{n:Nat}(hd:s.dropWhile yo=c::r)(ht:tkS (c::r)=.ok (k,t,v))(h:s.length<n+1):((c::r).drop t.length).length<n:=by
 obtain⟨h1,_,h3⟩:=zkn ht
 have h4:(c::r).length<=s.length:=by
  rw[<- hd];exact(List.dropWhile_sublist _).length_le
 have:0<t.length:=List.length_pos_iff.2 h1;rw[List.length_drop];omega
def zd8:∀(n m p:Nat)(s:ak),s.length<n->s.length<m->zab n p s=zab m p s
 |0,_,_,_,h,_=>absurd h (Nat.not_lt_zero _)
 |_+1,0,_,_,_,h=>absurd h (Nat.not_lt_zero _)
 |n+1,m+1,p,s,hn,hm=>by
  rw[zab,zab]
  cases hd:s.dropWhile yo with
  |nil=>rfl
  |cons c r =>
   dsimp only
   cases ht:tkS (c::r)with
   |error e=>rfl
   |ok x =>
    obtain⟨k,t,v⟩:=x;dsimp only;rw[zd8 n m _ _ (zDw hd ht hn) (zDw hd ht hm)]
def zGn(p:Nat)(s:ak):Except (Nat×Int) (List Token):=zab (s.length+1) p s
def zhu{c:UInt8}{r:ak}(hc:yo c=true)(p:Nat):zGn p (c::r)=zGn (p+1) r:=by
 unfold zGn;rw[zyo hc];exact zd8 _ _ _ _ (by simp only[lc];omega) ab
def zNk(l:List Token):Except (Nat×Int) (List Token)->Except (Nat×Int) (List Token)
 |.ok r=>.ok (l++r)
 |.error e=>.error e
def zvj(a b:List Token):∀x,zNk a (zNk b x)=zNk (a++b) x
 |.ok r=>by simp[zNk]
 |.error e=>rfl
def zvk:∀x,zNk [] x=x
 |.ok r=>rfl
 |.error e=>rfl
def BL(s:ak):Prop:=∀c r,s=c::r->yo c=true
def zNl:BL []:=λ_ _ h=>by cases h
def zko{c:UInt8}{r:ak}(h:yo c=true):BL (c::r):=λ_ _ e=>by cases e;exact h
def zXn{a b:ak}(ha:BL a)(hb:BL b):BL (a++b):=by
 cases a with
 |nil=>exact hb
 |cons c r=>exact zko (ha c r rfl)
def okT(t:T3):Prop:=tkS t.2.1=.ok t
def zd9{c:UInt8}(h:yo c=true):c.toNat=32∨c.toNat=9∨c.toNat=10:=by
 simpa[yo]using h
def Wx{c:UInt8}(h:yo c=true):jZ c=false/\xi c=false/\xq c=false/\c≠61:=by
 have h:=zd9 h
 have h1:jZ c=false:=by
  unfold jZ;rw[df (show ¬97<=c.toNat by omega)];rfl
 have h2:xi c=false:=by
  unfold xi;rw[df (show ¬48<=c.toNat by omega)];rfl
 refine⟨h1,h2,by rw[xq,h1,h2];rfl,?_⟩;rintro rfl;exact absurd h ae
def zRu{f:UInt8->Bool}(hf:∀c,yo c=true->f c=false){r:ak}(h:BL r):r.takeWhile f=[]:=by
 cases r with
 |nil=>rfl
 |cons c r=>rw[List.takeWhile_cons,hf c (h c r rfl)];rfl
def zat{f:UInt8->Bool}(hf:∀c,yo c=true->f c=false){a r:ak}(h:BL r)(ha:a.takeWhile f=a):(a++r).takeWhile f=a:=by
 have:∀x∈a,f x=true:=by
  have:=List.all_takeWhile (p:=f) (l:=a);rw[ha]at this;exact List.all_eq_true.1 this
 rw[List.takeWhile_append_of_pos this,zRu hf h,List.append_nil]
def zRv{t:T3}(h:okT t){r:ak}(hr:BL r):tkS (t.2.1++r)=.ok t:=by
 obtain⟨k,x,n⟩:=t;unfold okT at h;dsimp only at h ⊢
 cases x with
 |nil=>cases h
 |cons c x =>
  rw[List.cons_append,jF];rw[jF]at h;by_cases hl:jZ c=true
  ·rw[if_pos hl]at h ⊢
   by_cases hn:((c::x).takeWhile xq).length<=20
   ·rw[if_pos hn]at h
    have e:(c::x).takeWhile xq=c::x:=by
     have:=Except.ok.inj h;exact congrArg (λy=>y.2.1) this
    have e2:=zat (f:=xq) (λc h=>(Wx h).2.2.1) hr e;rw[List.cons_append]at e2;rw[e]at h hn;rw[e2,if_pos hn];exact h
   ·rw[if_neg hn]at h;cases h
  ·rw[if_neg hl]at h ⊢
   by_cases hd:xi c=true
   ·rw[if_pos hd]at h ⊢
    cases hv:zNj ((c::x).takeWhile xi)with
    |none=>rw[hv]at h;cases h
    |some v =>
     rw[hv]at h;have e:(c::x).takeWhile xi=c::x:=congrArg (λy=>y.2.1) (Except.ok.inj h);have e2:=zat (f:=xi) (λc h=>(Wx h).2.1) hr e;rw[List.cons_append]at e2;rw[e]at h hv;rw[e2,hv];exact h
   ·rw[if_neg hd]at h ⊢
    rw[zvh]at h ⊢
    have h61:∀{d:UInt8},r.head?=some d->d≠61:=λ{d} e=>by
     cases r with
     |nil=>cases e
     |cons a r=>cases e;exact(Wx (hr _ _ rfl)).2.2.2
    by_cases h1:x.head?=some 61/\(c=60∨c=61)
    ·rw[if_pos h1]at h
     rw[if_pos ⟨by cases x with
      |nil=>simp at h1
      |cons a x=>simpa using h1.1,h1.2⟩]
     exact h
    ·rw[if_neg h1]at h
     by_cases h2:c∈ONE
     ·rw[if_pos h2]at h
      have e:[c]=c::x:=congrArg (λy=>y.2.1) (Except.ok.inj h)
      obtain rfl:x=[]:=by simpa using e.symm
      rw[List.nil_append,if_neg (λhh=>h61 hh.1 rfl),if_pos h2];exact h
     ·rw[if_neg h2]at h;cases h
def zJy{t:T3}(h:okT t):∃c r,t.2.1=c::r/\yo c=false:=by
 obtain⟨k,x,n⟩:=t;unfold okT at h;dsimp only at h ⊢
 cases x with
 |nil=>cases h
 |cons c x =>
  refine⟨c,x,rfl,?_⟩
  cases hb:yo c with
  |false=>rfl
  |true =>
   exfalso;obtain⟨h1,h2,_,_⟩:=Wx hb;rw[jF,h1,if_neg af,h2,if_neg af]at h;have hc:=zd9 hb
   rw[zht (λhm=>by
    have:∀d∈ONE,¬(d.toNat=32∨d.toNat=9∨d.toNat=10):=ae
    exact this c hm hc)]at h
   cases h
def mkT(t:T3)(p:Nat):Token:=Token.mk t.1 t.2.1 t.2.2 (p:Int)
def zJz{t:T3}(h:okT t){r:ak}(hr:BL r)(p:Nat):zGn p (t.2.1++r)=zNk [mkT t p] (zGn (p+t.2.1.length) r):=by
 obtain⟨c,x,e,hb⟩:=zJy h;have hk:=zRv h hr;obtain⟨k,y,n⟩:=t;dsimp only at e hk ⊢;subst e;unfold zGn;rw[List.cons_append]at hk ⊢;rw[zDv hb,hk];dsimp only
 rw[show(c::(x++r)).drop (c::x).length=r from by rw[<- List.cons_append];exact List.drop_left,
  zd8 _ (r.length+1) _ r (by simp only[lc,la];omega) ab]
 cases zab (r.length+1) (p+(c::x).length) r<;>rfl
def LX(s:ak)(ts:List T3):Prop:=∀p r,BL r->∃l,l.map t3=ts/\zGn p (s++r)=zNk l (zGn (p+s.length) r)
def zNm:LX [] []:=λp r _=>⟨[],rfl,by rw[zvk];rfl⟩
def zDx{t:T3}(h:okT t):LX t.2.1 [t]:=λp r hr=>⟨[mkT t p],rfl,zJz h hr p⟩
def zvl{c:UInt8}{s:ak}{ts:List T3}(hc:yo c=true)(h:LX s ts):LX (c::s) ts:=λp r hr=>by
 obtain⟨l,h1,h2⟩:=h (p+1) r hr;refine⟨l,h1,?_⟩;rw[List.cons_append,zhu hc,h2,lc,Nat.add_assoc,Nat.add_comm 1]
def zDy{a b:ak}{ts us:List T3}(ha:LX a ts)(hb:LX b us)(h:BL b):LX (a++b) (ts++us):=λp r hr=>by
 obtain⟨l,h1,h2⟩:=ha p (b++r) (zXn h hr);obtain⟨m,h3,h4⟩:=hb (p+a.length) r hr;refine⟨l++m,by rw[List.map_append,h1,h3],?_⟩;rw[asc,h2,h4,zvj,la,Nat.add_assoc]
def zXo{s:ak}{ts:List T3}(h:LX s ts):∃l p,l.map t3=ts/\zT2 s=.ok (l++[zkm p]):=by
 obtain⟨l,h1,h2⟩:=h 0 [] zNl;refine⟨l,0+s.length,h1,?_⟩;rw[List.append_nil]at h2;exact h2
-- a token of each kind
def zo4{f:UInt8->Bool}{l:ak}(h:l.all f=true):l.takeWhile f=l:=by
 have:=List.takeWhile_append_of_pos (l₂:=[]) (List.all_eq_true.1 h);simpa using this
def zvm{w:ak}(h:KO w=true):okT (0,w,0):=by
 cases w with
 |nil=>cases h
 |cons c r =>
  have ha:=YV h;have e:(c::r).takeWhile xq=c::r:=zo4 ha;simp only[KO,bn,decide_eq_true_eq]at h;unfold okT;dsimp only;rw[jF,if_pos h.1,e,if_pos h.2.1]
def zJ0{w:ak}(h:zN w=true):okT (0,w,0):=by
 unfold zN at h;rw[bn]at h;exact zvm h.1
def zkp:∀n:Nat,(Lib.decDigits n).all xi=true
 |n=>by
  rw[Lib.decDigits]
  have one:∀m<10,xi (UInt8.ofNat (48+m))=true:=ae
  split
  ·rename_i h
   rw[List.all_cons,one n h];rfl
  ·rename_i h
   rw[List.all_append,zkp (n / 10),List.all_cons,one (n % 10) ab];rfl
def zo5:∀(a b:ak)(n:Nat),YW (a++b) n=YW b (YW a n)
 |[],_,_=>rfl
 |c::a,b,n=>by rw[List.cons_append,YW,YW];exact zo5 a b _
def zvn:∀n:Nat,Vn 0 (Lib.decDigits n)=n
 |n=>by
  rw[Lib.decDigits]
  have one:∀m<10,zyn (UInt8.ofNat (48+m))=m:=ae
  unfold Vn;split
  ·rename_i h
   rw[YW,YW,one _ h];omega
  ·rename_i h
   have:=zvn (n / 10);unfold Vn at this;rw[zo5,this];rw[YW,YW,one _ (Nat.mod_lt _ ab)];omega
def zDz(n:Nat):Lib.decDigits n≠[]:=by
 rw[Lib.decDigits];split<;>simp
def zvo:∀n:Nat,(Lib.decDigits n).head?=some 48->n=0
 |n=>by
  rw[Lib.decDigits]
  have one:∀m<10,UInt8.ofNat (48+m)=48->m=0:=ae
  split
  ·rename_i h
   intro e;exact one n h (by simpa using e)
  ·rename_i h
   intro e;have h2:=zDz (n / 10)
   have e2:(Lib.decDigits (n / 10)).head?=some 48:=by
    cases hx:Lib.decDigits (n / 10)with
    |nil=>exact absurd hx h2
    |cons a b=>rw[hx]at e;simpa using e
   have:=zvo (n / 10) e2;omega
def zJ1{n:Nat}(h:n<=1099511627776):zNj (Lib.decDigits n)=some n:=by
 unfold zNj
 rw[zvn,if_pos ⟨zkp n,zDz n,λe=>by
  have:=zvo n e;subst this
  rw[Lib.decDigits];rfl,h⟩]
def zRw{n:Nat}(h:n<=1099511627776):okT (1,Lib.decDigits n,(n:Int)):=by
 unfold okT;dsimp only;have hn:=zDz n;have ha:=zkp n;have hb:=zJ1 h
 cases hx:Lib.decDigits n with
 |nil=>exact absurd hx hn
 |cons c r =>
  rw[hx]at ha hb;have e:(c::r).takeWhile xi=c::r:=zo4 ha
  have hc:xi c=true:=by rw[List.all_cons,bn]at ha;exact ha.1
  have hl:jZ c=false:=by
   have:=zkl hc;unfold jZ;rw[df (show ¬97<=c.toNat by omega)];rfl
  rw[jF,hl,if_neg af,if_pos hc,e,hb]
abbrev EE:=Int×Int
def TWF:List Token->Prop
 |[]=>False
 |[t]=>t.Kind=3
 |t::u::r=>t.Kind≠3/\TWF (u::r)
def hdT(r:List Token):Token:=r.headD default
def zU(l r:List Token):Int:=((l.length-r.length:Nat):Int)
structure St(l r:List Token):Prop where
 suf:∃a,l=a++r
 wf:TWF r
 len:l.length<=1000000
 txt:∀t∈l,t.Text.length<=8000
section
variable{l r:List Token}
def TWF.ne(h:TWF r):r≠[]:=by rintro rfl;exact h
def TWF.tail(h:TWF r)(hk:(hdT r).Kind≠3):TWF r.tail:=by
 match r,h with
 |[t],h=>exact absurd h hk
 |t::u::r,h=>exact h.2
def St.idx(h:St l r):idx l (zU l r)=some (hdT r):=by
 obtain⟨a,rfl⟩:=h.suf;have:=h.wf.ne
 cases r with
 |nil=>exact absurd rfl this
 |cons t r =>
  refine ye ?_;rw[la,Nat.add_sub_cancel,List.getElem?_append_right aq,Nat.sub_self];rfl
def zD0(h:St l r):zU l r+1=zU l r.tail:=by
 obtain⟨a,rfl⟩:=h.suf;have:=h.wf.ne
 cases r with
 |nil=>exact absurd rfl this
 |cons t r=>simp only[zU,la,lc,List.tail_cons];omega
def St.bnd(h:St l r):0<=zU l r/\zU l r<1000000:=by
 have:=h.len;have h2:=h.wf.ne;obtain⟨a,rfl⟩:=h.suf
 cases r with
 |nil=>exact absurd rfl h2
 |cons t r=>simp only[zU,la,lc]at this ⊢;omega
def St.step(h:St l r):w64 (zU l r+1)=zU l r.tail:=by
 have:=h.bnd;rw[wa ab ab,zD0 h]
def St.back(h:St l r):w64 (w64 (zU l r+1)-1)=zU l r:=by
 have:=h.bnd;rw[wa (n:=zU l r+1) ab ab,wa ab ab];omega
def St.tail(h:St l r)(hk:(hdT r).Kind≠3):St l r.tail:=by
 refine⟨?_,h.wf.tail hk,h.len,h.txt⟩;obtain⟨a,e⟩:=h.suf;have:=h.wf.ne
 cases r with
 |nil=>exact absurd rfl this
 |cons t r=>exact⟨a++[t],by rw[e];simp⟩
def St.mem(h:St l r):hdT r∈l:=by
 obtain⟨a,e⟩:=h.suf;have:=h.wf.ne
 cases r with
 |nil=>exact absurd rfl this
 |cons t r=>rw[e];simp[hdT]
def St.text(h:St l r):(hdT r).Text.length<4611686018427387904:=by have:=h.txt _ h.mem;omega
def St.lt(h:St l r):r.length<=l.length/\0<r.length:=by
 obtain⟨a,e⟩:=h.suf;exact⟨by rw[e,la];omega,List.length_pos_iff.2 h.wf.ne⟩
def zbe(h:TWF r):r.tail.length+1=r.length:=by
 cases r with
 |nil=>exact h.elim
 |cons t r=>rfl
end
-- single tokens
def isB(s:ak)(r:List Token):Bool:=(!(decide ((hdT r).Kind=3)))&&decide ((hdT r).Text=s)
def Kc(r:List Token):Bool:=decide ((hdT r).Kind=1)
def ze3(r:List Token):Bool:=decide ((hdT r).Kind=0)&&zN (hdT r).Text
def zkq(r:List Token)(e:Int):EE:=((hdT r).Pos,e)
def thn{α β:Type}(x:Except EE (α×List Token))(g:α->List Token->Except EE β):Except EE β:=match x with
 |.ok (a,r)=>g a r
 |.error e=>.error e
def J8(b:Bool)(e:Int)(r:List Token):Except EE (Unit×List Token):=if b then .ok ((),r)else .error (zkq r e)
def xV(s:ak)(r:List Token):Except EE (Unit×List Token):=if isB s r then .ok ((),r.tail)else .error (zkq r 14)
def u0(r:List Token):Except EE (ak×List Token):=if ze3 r then .ok ((hdT r).Text,r.tail)else .error (zkq r 14)
def qb(lo hi:Int)(r:List Token):Except EE (Int×List Token):=if Kc r then(if lo<=(hdT r).N/\(hdT r).N<=hi then .ok ((hdT r).N,r.tail)else .error (zkq r 3))else .error (zkq r 14)
def zw{s:ak}{r:List Token}(h:isB s r=true):(hdT r).Kind≠3:=by
 simp only[isB,bn,Bool.not_eq_true',decide_eq_false_iff_not]at h;exact h.1
def zo6{r:List Token}(h:Kc r=true):(hdT r).Kind≠3:=by
 have:=of_decide_eq_true h;omega
def zea{r:List Token}(h:ze3 r=true):(hdT r).Kind≠3:=by
 simp only[ze3,bn,decide_eq_true_eq]at h;omega
def RT{α β:Type}(l:List Token)(x:Except EE (α×List Token))(s:Option β)(p:Option EE)(f:α->Int->β):Prop:=match x with
 |.ok (v,r)=>s=some (f v (zU l r))/\p=none/\St l r
 |.error e=>s=none/\p=some e
def RT.bind{α β α' β':Type}{l:List Token}{x:Except EE (α×List Token)}{s:Option β}{p:Option EE}{f:α->Int->β}{g:α->List Token->Except EE (α'×List Token)}{s2:β->Option β'}{p2:β->Option EE}{f2:α'->Int->β'}
  (h:RT l x s p f) (h2:∀v r,x=.ok (v,r)->St l r->RT l (g v r) (s2 (f v (zU l r))) (p2 (f v (zU l r))) f2):RT l (thn x g) (s.bind s2) (orC p (λq=>some q) (s.bind p2)) f2:=by
 match x,h,h2 with
 |.error e,⟨h,h'⟩,_=>exact⟨by rw[h];rfl,by rw[h'];rfl⟩
 |.ok (v,r),⟨h,h',hs⟩,h2 =>
  have:=h2 v r rfl hs;rw[h,h'];exact this
section
variable{l r:List Token}
def Wy(h:St l r):vx l (zU l r)=some ((hdT r).Kind,(hdT r).Text,(hdT r).N,(hdT r).Pos):=by
 unfold vx;rw[h.idx];rfl
def q_is(h:St l r)(s:ak):zcw l (zU l r) s=some (isB s r):=by
 unfold zcw isB;rw[Wy h,bsQ];cases decide ((hdT r).Kind=3)<;>rfl
def zkr(h:St l r)(s:ak):xx l (zU l r) s=some (isB s r,if isB s r then zU l r.tail else zU l r):=by
 unfold xx;rw[q_is h,bsQ,h.step];cases isB s r<;>rfl
def Qx(h:St l r):xG l (zU l r)=some (Kc r):=by
 unfold xG Kc;rw[Wy h];rfl
def zvp(h:St l r):oq l (zU l r)=some (ze3 r):=by
 unfold oq ze3;rw[Wy h,bsQ,bsQ];dsimp only;rw[yZ h.text];cases decide ((hdT r).Kind=0)<;>rfl
def zsj(h:St l r)(b:Bool)(e:Int):RT l (J8 b e r) (yB l (zU l r) b e) (xX l (zU l r) b e) (λ_ _=>()):=by
 unfold yB xX Qk J8
 cases b with
 |true=>exact⟨rfl,rfl,h⟩
 |false=>rw[Wy h];exact⟨rfl,rfl⟩
def QT(h:St l r)(s:ak):RT l (xV s r) (jJ l (zU l r) s) (AK l (zU l r) s) (λ_ i=>i):=by
 unfold jJ AK xV;rw[zkr h,bsQ,bsQ];dsimp only
 cases hb:isB s r with
 |true=>exact⟨rfl,rfl,h.tail (zw hb)⟩
 |false =>
  rw[if_neg af,if_neg af];unfold yB xX Qk;rw[Wy h];exact⟨rfl,rfl⟩
def HO(h:St l r):RT l (u0 r) (xn l (zU l r)) (jK l (zU l r)) (λv i=>(v,i)):=by
 unfold xn jK u0;rw[zvp h,bsQ,bsQ,h.back,h.step,h.idx]
 cases hb:ze3 r with
 |true=>exact⟨rfl,rfl,h.tail (zea hb)⟩
 |false =>
  unfold yB xX Qk;rw[Wy h];exact⟨rfl,rfl⟩
def zbf(h:St l r)(lo hi:Int):RT l (qb lo hi r) (ka l (zU l r) lo hi) (ou l (zU l r) lo hi) (λv i=>(v,i)):=by
 unfold ka ou qb;rw[Qx h,bsQ,bsQ,h.step,Wy h];unfold yB xX Qk;rw[Wy h]
 cases hb:Kc r with
 |false=>exact⟨rfl,rfl⟩
 |true =>
  rw[if_pos rfl];by_cases h1:lo<=(hdT r).N
  ·by_cases h2:(hdT r).N<=hi
   ·rw[if_pos ⟨h1,h2⟩]
    have e1:decide ((hdT r).N>=lo)=true:=dt h1;have e2:decide ((hdT r).N<=hi)=true:=dt h2;simp only[bsQ,e1,e2];exact⟨rfl,rfl,h.tail (zo6 hb)⟩
   ·rw[if_neg (λhh=>h2 hh.2)]
    have e1:decide ((hdT r).N>=lo)=true:=dt h1;have e2:decide ((hdT r).N<=hi)=false:=df h2;simp only[bsQ,e1,e2];exact⟨rfl,rfl⟩
  ·rw[if_neg (λhh=>h1 hh.1)]
   have e1:decide ((hdT r).N>=lo)=false:=df h1;simp only[bsQ,e1];exact⟨rfl,rfl⟩
end
-- what a list of tokens and the end are
def zNn:∀{b:List Token}{e:Token},e.Kind=3->(∀t∈b,t.Kind≠3)->TWF (b++[e])
 |[],e,h,_=>h
 |[t],e,h,h2=>⟨h2 t al,h⟩
 |t::u::b,e,h,h2=>⟨h2 t al,zNn (b:=u::b) h λx hx=>h2 x (mcQ _ hx)⟩
def zJ2:∀(n p:Nat)(s:ak)(l:List Token),s.length<n->zab n p s=.ok l->l.length<=s.length+1:=by
 intro n
 induction n with
 |zero=>intro p s l hn;omega
 |succ n ih =>
  intro p s l hn h;rw[zab]at h;have hsp:=Hf yo s;have hds:=Ww yo s;split at h
  ·cases h;simp
  ·rename_i c r hd
   rw[hd]at hds;have hl:=congrArg List.length hds;simp only[List.length_drop]at hl;split at h
   ·cases h
   ·rename_i k t v ht
    obtain⟨t1,t2,t3⟩:=zkn ht;have t4:0<t.length:=List.length_pos_iff.2 t1;split at h
    ·cases h
    ·rename_i l' hl'
     cases h;have:=ih _ _ _ (by rw[List.length_drop];omega) hl';rw[List.length_drop]at this;simp only[lc]at this hl t3 ⊢;omega
def zD1{s:ak}{l:List Token}(hs:s.length<=8000)(h:zT2 s=.ok l):St l l/\zU l l=0:=by
 obtain⟨b,rfl,hb⟩:=zJx _ _ _ _ (Nat.lt_succ_self _) h;have hl:=zJ2 _ _ _ _ (Nat.lt_succ_self _) h;refine⟨⟨⟨[],rfl⟩,zNn rfl λt ht=>(hb t ht).1,ab,λt ht=>?_⟩,by simp[zU]⟩
 rcases List.mem_append.1 ht with ht|ht
 ·have:=(hb t ht).2;omega
 ·cases msQ.1 ht;simp[zkm]
end Go.Proofs.YtffencjoddkghaaGreatDoor
set_option maxRecDepth 100000
namespace Go.Proofs.YtffencjoddkghaaGreatDoor
open Go Go.RowKit Go.Eng Go.EV Go.EQ
variable[Fuel]
def OPS:List zd:=[(zd.mk zVx 14 1),(zd.mk zCr 13 2),(zd.mk qL 10 4),(zd.mk zfl 11 4),(zd.mk qK 12 4),(zd.mk zfj 4 5),(zd.mk yS 5 5),(zd.mk zfi 6 6),(zd.mk zfk 7 6),(zd.mk zfh 8 6)]
def opR(r:List Token):Option zd:=if(hdT r).Kind=3 then none else OPS.find? λo=>decide ((hdT r).Text=o.text)
def zlv(lv:Nat)(r:List Token):Option Int:=match opR r with
 |some o=>if o.form=(lv:Int)then some o.op else none
 |none=>none
def YY(op:Int)(a b:Expr):Expr:=Expr.mk op 0 [] [] [a,b]
def oof{α:Type}:Except EE α:=.error (0,-1)
mutual
def DE(lv:Nat)(r:List Token):Except EE (Expr×List Token) :=
 if lv>=8 then
  if Kc r then thn (qb 0 1099511627776 r) λn r=>.ok (Expr.mk 0 n [] [] [],r)
  else if isB yz r then thn (u0 r.tail) λs r=>thn (u0 r) λk r=>.ok (Expr.mk 2 0 s k [],r)
  else if isB xh r then thn (u0 r.tail) λs r=>.ok (Expr.mk 3 0 s [] [],r)
  else if isB Ay r then(if h:r.tail.length<r.length then thn (DE 0 r.tail) λe r=>thn (xV qj r) λ_ r=>.ok (e,r)else oof)
  else thn (u0 r) λs r=>.ok (Expr.mk 1 0 s [] [],r)
 else if lv=0/\isB V9 r=true then
  if h:r.tail.length<r.length then thn (DE 0 r.tail) λa r1=>thn (xV uE r1) λ_ r2 =>
   if h2:r2.length<r.length then thn (DE 0 r2) λb r3=>thn (xV yY r3) λ_ r4 =>
    if h4:r4.length<r.length then thn (DE 0 r4) λc r5=>.ok (Expr.mk 16 0 [] [] [a,b,c],r5)else oof
   else oof
  else oof
 else if lv=3/\isB qZ r=true then
  if h:r.tail.length<r.length then thn (DE 3 r.tail) λa r1=>.ok (Expr.mk 15 0 [] [] [a],r1)else oof
 else if lv=7/\isB yS r=true then
  if h:r.tail.length<r.length then thn (DE 7 r.tail) λa r1=>.ok (Expr.mk 9 0 [] [] [a],r1)else oof
 else thn (DE (lv+1) r) λe r1=>if h:r1.length<r.length then LP lv e r1 else oof
termination_by (r.length,9-lv)
def LP(lv:Nat)(e:Expr)(r:List Token):Except EE (Expr×List Token):=match zlv lv r with
 |none=>.ok (e,r)
 |some op=>if h:r.tail.length<r.length then thn (DE (lv+1) r.tail) λe2 r2 =>
   if h2:r2.length<r.length then(if lv=4 then .ok (YY op e e2,r2)else LP lv (YY op e e2) r2)else oof
  else oof
termination_by (r.length,9-lv)
end
structure Aft(r r2:List Token):Prop where
 suf:∃a,r=a++r2
 wf:TWF r2
 lt:r2.length<r.length
structure zhv(r r2:List Token):Prop where
 suf:∃a,r=a++r2
 wf:TWF r2
 le:r2.length<=r.length
def Aft.e{r r2:List Token}(h:Aft r r2):zhv r r2:=⟨h.suf,h.wf,Nat.le_of_lt h.lt⟩
def zhv.refl{r:List Token}(h:TWF r):zhv r r:=⟨⟨[],rfl⟩,h,aq⟩
def zeb{r r2 r3:List Token}(h:∃a,r=a++r2)(k:∃a,r2=a++r3):∃a,r=a++r3:=by
 obtain⟨a,rfl⟩:=h;obtain⟨b,rfl⟩:=k;exact⟨a++b,af⟩
def Aft.trans{r r2 r3:List Token}(h:Aft r r2)(k:zhv r2 r3):Aft r r3:=⟨zeb h.suf k.suf,k.wf,Nat.lt_of_le_of_lt k.le h.lt⟩
def zhv.trans{r r2 r3:List Token}(h:zhv r r2)(k:zhv r2 r3):zhv r r3:=⟨zeb h.suf k.suf,k.wf,Nat.le_trans k.le h.le⟩
def zF{r:List Token}(h:TWF r)(hk:(hdT r).Kind≠3):Aft r r.tail:=by
 refine⟨?_,h.tail hk,by have:=zbe h;omega⟩
 cases r with
 |nil=>exact h.elim
 |cons t r=>exact⟨[t],rfl⟩
def YZ{r:List Token}(h:TWF r):r.tail.length<r.length:=by have:=zbe h;omega
def St.aft{l r r2:List Token}(h:St l r)(k:zhv r r2):St l r2:=⟨zeb h.suf k.suf,k.wf,h.len,h.txt⟩
def jG{r r2:List Token}{s:ak}(h:TWF r)(e:u0 r=.ok (s,r2)):Aft r r2:=by
 unfold u0 at e;split at e
 ·rename_i hk;cases e;exact zF h (zea hk)
 ·cases e
def kT{r r2:List Token}{lo hi n:Int}(h:TWF r)(e:qb lo hi r=.ok (n,r2)):Aft r r2:=by
 unfold qb at e;split at e
 ·rename_i hk
  split at e
  ·cases e;exact zF h (zo6 hk)
  ·cases e
 ·cases e
def xj{r r2:List Token}{s:ak}{u:Unit}(h:TWF r)(e:xV s r=.ok (u,r2)):Aft r r2:=by
 unfold xV at e;split at e
 ·rename_i hk;cases e;exact zF h (zw hk)
 ·cases e
def yv{α β:Type}{x:Except EE (α×List Token)}{g:α->List Token->Except EE β}{b:β}(h:thn x g=.ok b):∃a r,x=.ok (a,r)/\g a r=.ok b:=by
 match x,h with
 |.ok (a,r),h=>exact⟨a,r,rfl,h⟩
def xQ{α β:Type}{x:Except EE (α×List Token)}{g g':α->List Token->Except EE β}(h:∀a r,x=.ok (a,r)->g a r=g' a r):thn x g=thn x g':=by
 match x,h with
 |.ok (a,r),h=>exact h a r rfl
 |.error e,_=>rfl
def zP{α β γ:Type}{x:Except EE (α×List Token)}{g:α->List Token->Except EE (β×List Token)}{k:β->List Token->Except EE γ}:thn (thn x g) k=thn x λa r=>thn (g a r) k:=by
 match x with
 |.ok (a,r)=>rfl
 |.error e=>rfl
def Wz{α:Type}{x:Except EE (α×List Token)}:(thn x λa r=>.ok (a,r))=x:=by
 match x with
 |.ok (a,r)=>rfl
 |.error e=>rfl
def kU{r:List Token}{o:zd}(h:opR r=some o):(hdT r).Kind≠3/\o∈OPS/\(hdT r).Text=o.text:=by
 unfold opR at h;split at h
 ·cases h
 ·rename_i hk
  exact⟨hk,List.mem_of_find?_eq_some h,by simpa using List.find?_some h⟩
def KQ{r:List Token}{lv:Nat}{op:Int}(h:zlv lv r=some op):∃o,opR r=some o/\o.form=(lv:Int)/\o.op=op:=by
 unfold zlv at h;split at h
 ·rename_i o ho
  split at h
  ·rename_i hf;cases h;exact⟨o,ho,hf,rfl⟩
  ·cases h
 ·cases h
def zD2:∀(n:Nat),(∀(lv:Nat)(r:List Token),r.length<n->TWF r->∀e r2,DE lv r=.ok (e,r2)->Aft r r2)/\(∀(lv:Nat)(e:Expr)(r:List Token),r.length<n->TWF r->∀e2 r2,LP lv e r=.ok (e2,r2)->zhv r r2):=by
 intro n
 induction n with
 |zero=>exact⟨λ_ _ h=>ab,λ_ _ _ h=>ab⟩
 |succ n ih =>
  have hLP:∀(lv:Nat)(e:Expr)(r:List Token),r.length<n+1->TWF r->∀e2 r2,LP lv e r=.ok (e2,r2)->zhv r r2:=by
   intro lv e r hn hr e2 r2 h;rw[LP]at h;split at h
   ·cases h;exact zhv.refl hr
   ·rename_i op hop
    obtain⟨o,ho,_⟩:=KQ hop;have ht:=zF hr (kU ho).1;rw[dif_pos ht.lt]at h;obtain⟨a,r1,h1,h2⟩:=yv h;have:=ht.lt;have ha:=ih.1 _ _ ab ht.wf _ _ h1;split at h2
    ·split at h2
     ·cases h2;exact(ht.trans ha.e).e
     ·exact(ht.trans ha.e).e.trans (ih.2 _ _ _ (by have:=ha.lt;omega) ha.wf _ _ h2)
    ·cases h2
  refine⟨λlv=>?_,hLP⟩
  -- by level, downwards
  have key:∀(k lv:Nat),8-lv=k->∀(r:List Token),r.length<n+1->TWF r->∀e r2,DE lv r=.ok (e,r2)->Aft r r2:=by
   intro k
   induction k with
   |zero =>
    intro lv hk r hn hr e r2 h;rw[DE,if_pos ab]at h;split at h
    ·obtain⟨a,r1,h1,h2⟩:=yv h
     cases h2;exact kT hr h1
    ·split at h
     ·rename_i hb
      have ht:=zF hr (zw hb);obtain⟨a,r1,h1,h2⟩:=yv h;obtain⟨b,r3,h3,h4⟩:=yv h2;cases h4;have q1:=jG ht.wf h1;exact ht.trans (q1.trans (jG q1.wf h3).e).e
     ·split at h
      ·rename_i hb
       have ht:=zF hr (zw hb);obtain⟨a,r1,h1,h2⟩:=yv h;cases h2;exact ht.trans (jG ht.wf h1).e
      ·split at h
       ·rename_i hb
        have ht:=zF hr (zw hb);rw[dif_pos ht.lt]at h;obtain⟨a,r1,h1,h2⟩:=yv h;obtain⟨b,r3,h3,h4⟩:=yv h2;cases h4;have q1:=ih.1 _ _ (by have:=ht.lt;omega) ht.wf _ _ h1;exact ht.trans (q1.trans (xj q1.wf h3).e).e
       ·obtain⟨a,r1,h1,h2⟩:=yv h
        cases h2;exact jG hr h1
   |succ k ihk =>
    intro lv hk r hn hr e r2 h;rw[DE,if_neg ab]at h;split at h
    ·rename_i hb
     have ht:=zF hr (zw hb.2);rw[dif_pos ht.lt]at h;obtain⟨a,r1,h1,h⟩:=yv h;obtain⟨_,r3,h3,h⟩:=yv h;have q1:=ht.trans (ih.1 _ _ (by have:=ht.lt;omega) ht.wf _ _ h1).e;have q2:=q1.trans (xj q1.wf h3).e;rw[dif_pos q2.lt]at h;obtain⟨b,r4,h4,h⟩:=yv h;obtain⟨_,r5,h5,h⟩:=yv h;have q3:=q2.trans (ih.1 _ _ (by have:=q2.lt;omega) q2.wf _ _ h4).e;have q4:=q3.trans (xj q3.wf h5).e;rw[dif_pos q4.lt]at h;obtain⟨c,r6,h6,h⟩:=yv h;cases h;exact q4.trans (ih.1 _ _ (by have:=q4.lt;omega) q4.wf _ _ h6).e
    ·split at h
     ·rename_i hb
      have ht:=zF hr (zw hb.2);rw[dif_pos ht.lt]at h;obtain⟨a,r1,h1,h⟩:=yv h;cases h;exact ht.trans (ih.1 _ _ (by have:=ht.lt;omega) ht.wf _ _ h1).e
     ·split at h
      ·rename_i hb
       have ht:=zF hr (zw hb.2);rw[dif_pos ht.lt]at h;obtain⟨a,r1,h1,h⟩:=yv h;cases h;exact ht.trans (ih.1 _ _ (by have:=ht.lt;omega) ht.wf _ _ h1).e
      ·obtain⟨a,r1,h1,h⟩:=yv h
       have q1:=ihk (lv+1) ab r hn hr _ _ h1;rw[dif_pos q1.lt]at h;exact q1.trans (hLP _ _ _ (by have:=q1.lt;omega) q1.wf _ _ h)
  exact key _ lv rfl
def wc{lv:Nat}{r r2:List Token}{e:Expr}(hr:TWF r)(h:DE lv r=.ok (e,r2)):Aft r r2:=(zD2 (r.length+1)).1 lv r (Nat.lt_succ_self _) hr e r2 h
def WA(r:List Token):Except EE (Expr×List Token) :=
 if Kc r then thn (qb 0 1099511627776 r) λn r=>.ok (Expr.mk 0 n [] [] [],r)
 else if isB yz r then thn (u0 r.tail) λs r=>thn (u0 r) λk r=>.ok (Expr.mk 2 0 s k [],r)
 else if isB xh r then thn (u0 r.tail) λs r=>.ok (Expr.mk 3 0 s [] [],r)
 else if isB Ay r then thn (DE 0 r.tail) λe r=>thn (xV qj r) λ_ r=>.ok (e,r)
 else thn (u0 r) λs r=>.ok (Expr.mk 1 0 s [] [],r)
def ifS(r:List Token):Except EE (Expr×List Token):=thn (DE 0 r.tail) λa r1=>thn (xV uE r1) λ_ r2=>thn (DE 0 r2) λb r3=>thn (xV yY r3) λ_ r4=>thn (DE 0 r4) λc r5=>.ok (Expr.mk 16 0 [] [] [a,b,c],r5)
def zGo{r:List Token}(hr:TWF r):DE 8 r=WA r:=by
 rw[DE,if_pos (Nat.le_refl 8),WA];simp only[dif_pos (YZ hr)]
def zfq{lv:Nat}{r:List Token}(hl:lv<8)(hr:TWF r):DE lv r=if lv=0/\isB V9 r=true then ifS r else if lv=3/\isB qZ r=true then thn (DE 3 r.tail) λa r1=>.ok (Expr.mk 15 0 [] [] [a],r1)
  else if lv=7/\isB yS r=true then thn (DE 7 r.tail) λa r1=>.ok (Expr.mk 9 0 [] [] [a],r1)else thn (DE (lv+1) r) λe r1=>LP lv e r1:=by
 rw[DE,if_neg ab];simp only[dif_pos (YZ hr)];by_cases hi:lv=0/\isB V9 r=true
 ·rw[if_pos hi,if_pos hi,ifS]
  have ht:=zF hr (zw hi.2)
  refine xQ λa r1 h1=>xQ λu r2 h2=>?_
  have q1:=ht.trans (wc ht.wf h1).e;have q2:=q1.trans (xj q1.wf h2).e;rw[dif_pos q2.lt]
  refine xQ λb r3 h3=>xQ λu r4 h4=>?_
  have q3:=q2.trans (wc q2.wf h3).e;have q4:=q3.trans (xj q3.wf h4).e;rw[dif_pos q4.lt]
 ·rw[if_neg hi,if_neg hi]
  split
  ·rfl
  ·split
   ·rfl
   ·refine xQ λe r1 h1=>?_
    rw[dif_pos (wc hr h1).lt]
def zD3{lv:Nat}{e:Expr}{r:List Token}(hr:TWF r):LP lv e r=match zlv lv r with
 |none=>.ok (e,r)
 |some op=>thn (DE (lv+1) r.tail) λe2 r2=>if lv=4 then .ok (YY op e e2,r2)else LP lv (YY op e e2) r2:=by
 rw[LP];split
 ·rfl
 ·rename_i op hop
  obtain⟨o,ho,_⟩:=KQ hop;have ht:=zF hr (kU ho).1;rw[dif_pos ht.lt]
  refine xQ λe2 r2 h2=>?_
  rw[dif_pos (ht.trans (wc ht.wf h2).e).lt]
noncomputable def pd(p:Prop):Bool:=@decide p (Classical.propDecidable p)
def ju{p:Prop}:pd p=true↔p:=by unfold pd;exact @decide_eq_true_iff p (Classical.propDecidable p)
def zac{p:Prop}[Decidable p]:decide p=pd p:=yE Iff.rfl
def Ak{b:Bool}{p:Prop}(h:b=true↔p):b=pd p:=by
 cases b with
 |true=>exact(ju.2 (h.1 rfl)).symm
 |false =>
  cases hp:pd p with
  |false=>rfl
  |true=>exact absurd (h.2 (ju.1 hp)) ae
def JN{p q:Prop}(h:p↔q):pd p=pd q:=Ak (ju.trans h)
def zo7{α β:Type}[Inhabited α][Inhabited β](a:List α)(b:List β)(G:α->β->Option Bool)(g:α->β->Bool)(L:Nat->Int->Option (Bool⊕Unit))
  (hL:∀K q,L (K+1) q=(bif (decide (q<((List.length a:Nat):Int)))then(idx a q).bind λx=>(idx b q).bind λy=>(G x y).bind λr=>(bif (!r)then some (Sum.inl false)else L K (w64 (q+1)))else some (Sum.inr ())))
  (hs:a.length<4611686018427387904) (hl:b.length=a.length):
  ∀(r:List α)(t:List β)(i K:Nat),a.drop i=r->b.drop i=t->i<=a.length->r.length<K->(∀x∈r,∀y∈t,G x y=some (g x y))->L K (i:Int)=some (bif (r.zip t).all (λp=>g p.1 p.2)then Sum.inr ()else Sum.inl false)
 |[],t,i,K,hr,ht,hi,hK,_=>by
  obtain⟨K,rfl⟩:∃k,K=k+1:=⟨K-1,by simp at hK;omega⟩
  have:=drop_nil hr hi;rw[hL,df ab];simp
 |x::r,[],i,K,hr,ht,hi,hK,_=>by
  have h1:=drop_nil ht ab;obtain⟨_,_,h3⟩:=wb hr;omega
 |x::r,y::t,i,K,hr,ht,hi,hK,hG=>by
  obtain⟨K,rfl⟩:∃k,K=k+1:=⟨K-1,by simp at hK;omega⟩
  obtain⟨h1,h2,h3⟩:=wb hr;obtain⟨k1,k2,k3⟩:=wb ht;simp only[lc]at hK;rw[hL,dt ab,ctQ,ye h1,bsQ,ye k1,bsQ,hG x al y al,bsQ];simp only[List.zip_cons_cons,List.all_cons]
  cases hg:g x y with
  |false=>rfl
  |true =>
   simp only[Bool.not_true,cf,Bool.true_and];rw[xB ab]
   exact zo7 a b G g L hL hs hl r t (i+1) K h2 k2 ab ab λx hx y hy=>hG x (mcQ _ hx) y (mcQ _ hy)
def zD4{α:Type}{g:α->α->Bool}:∀{a b:List α},a.length=b.length->(∀x∈a,∀y∈b,(g x y=true↔x=y))->((a.zip b).all (λp=>g p.1 p.2)=true↔a=b)
 |[],[],_,_=>af
 |[],_::_,h,_=>by simp at h
 |_::_,[],h,_=>by simp at h
 |x::a,y::b,h,hg=>by
  simp only[lc,Nat.add_right_cancel_iff]at h;simp only[List.zip_cons_cons,List.all_cons,bn,List.cons.injEq];rw[hg x al y al,zD4 h λx hx y hy=>hg x (mcQ _ hx) y (mcQ _ hy)]
def vP{α:Type}[Inhabited α](a b:List α)(G:α->α->Option Bool)(L:Nat->Int->Option (Bool⊕Unit))
  (hL:∀K q,L (K+1) q=(bif (decide (q<((List.length a:Nat):Int)))then(idx a q).bind λx=>(idx b q).bind λy=>(G x y).bind λr=>(bif (!r)then some (Sum.inl false)else L K (w64 (q+1)))else some (Sum.inr ())))
  (hs:a.length<4611686018427387904) (hG:∀x∈a,∀y∈b,G x y=some (pd (x=y))):
  (bif (!(decide (((List.length a:Nat):Int)=((List.length b:Nat):Int))))then some false else(L KK 0).bind (xM some λ_=>some true))=some (pd (a=b)):=by
 by_cases hl:a.length=b.length
 ·rw[dt ab]
  simp only[Bool.not_true,cf];have:=zo7 a b G (λx y=>pd (x=y)) L hL hs hl.symm a b 0 KK rfl rfl (Nat.zero_le _) (jz ab) hG;rw[show((0:Int))=((0:Nat):Int) from rfl,this]
  have hz:=zD4 (g:=λx y=>pd (x=y)) hl λx _ y _=>ju
  have e:=Ak hz;rw[<- e];cases (a.zip b).all (λp=>pd (p.1=p.2))<;>rfl
 ·rw[df ab]
  simp only[Bool.not_false,ctQ];exact congrArg some (Ak ⟨λh=>(by cases h),λh=>absurd (congrArg List.length h) hl⟩)
-- levels
mutual
def W2:Expr->Nat
 |⟨_,_,_,_,az⟩=>zsk az+1
def zsk:List Expr->Nat
 |[]=>0
 |e::r=>max (W2 e) (zsk r)
end
mutual
def jv:Expr->Nat
 |⟨_,_,_,_,az⟩=>HP az+1
def HP:List Expr->Nat
 |[]=>0
 |e::r=>jv e+HP r
end
def JO:∀e:Expr,0<jv e
 |⟨_,_,_,_,az⟩=>by rw[jv];omega
def Qy:∀l:List Expr,l.length<=HP l
 |[]=>Nat.le_refl _
 |e::r=>by rw[HP,lc];have:=Qy r;have:=JO e;omega
def zo8:∀(l:List Expr)(i:Nat),HP (l.drop i)<=HP l
 |l,0=>Nat.le_refl _
 |[],i+1=>Nat.le_refl _
 |e::r,i+1=>by rw[List.drop_succ_cons,HP];have:=zo8 r i;omega
mutual
def zD5:∀e:Expr,W2 e<=jv e
 |⟨_,_,_,_,az⟩=>by rw[W2,jv];have:=zks az;omega
def zks:∀l:List Expr,zsk l<=HP l
 |[]=>Nat.le_refl _
 |e::r=>by rw[zsk,HP];have:=zD5 e;have:=zks r;omega
end
def zD6:∀(n:Nat)(e:Expr)(K:Nat),jv e<=n->n<=K->n<=1000000000->vX K e=some ((W2 e:Nat):Int):=by
 intro n
 induction n with
 |zero=>intro e K h;have:=JO e;omega
 |succ n ih =>
  intro e K h hK hn
  obtain⟨K,rfl⟩:∃k,K=k+1:=⟨K-1,ab⟩
  obtain⟨op,nn,ss,kk,az⟩:=e;rw[jv]at h
  have loop:∀(l:List Expr)(i Q m:Nat),az.drop i=l->i<=az.length->l.length<Q->m<=1000000000->qm (vX K) az (az.length:Int) Q ((m:Int),(i:Int))=some ((max m (zsk l):Nat):Int):=by
   intro l
   induction l with
   |nil =>
    intro i Q m hd hi hQ hm
    obtain⟨Q,rfl⟩:∃k,Q=k+1:=⟨Q-1,ab⟩
    have:=drop_nil hd hi;rw[qm,df (show ¬((i:Int)<(az.length:Int)) by omega)];simp[zsk]
   |cons a l ihl =>
    intro i Q m hd hi hQ hm
    obtain⟨Q,rfl⟩:∃k,Q=k+1:=⟨Q-1,ab⟩
    obtain⟨h1,h2,h3⟩:=wb hd;simp only[lc]at hQ
    have hna:jv a+HP l<=n:=by
     have:=zo8 az i;rw[hd,HP]at this;omega
    have hlen:=Qy az;have hla:=zD5 a;rw[qm,dt (show((i:Int)<(az.length:Int)) by omega),ctQ,ye h1,bsQ,show Expr.mk a.Op a.N a.S a.Key a.Args=a by cases a;rfl,ih a K ab ab ab,bsQ,xB ab]
    have e:max (m:Int) ((W2 a:Nat):Int)=((max m (W2 a):Nat):Int):=ab
    simp only;rw[e,ihl (i+1) Q (max m (W2 a)) h2 ab ab ab,zsk,Nat.max_assoc]
  have hlen:=Qy az;have hlv:=zks az;rw[vX,W2];have:=loop az 0 KK 0 rfl ab (jz ab) ab;rw[show(((0:Nat):Int))=(0:Int) from rfl]at this;simp only;rw[this,bsQ,Nat.zero_max,wa ab ab];rfl
-- expressions
def zbg:∀{l:List Expr}{e:Expr},e∈l->jv e<=HP l
 |x::r,e,h=>by
  rw[HP]
  rcases List.mem_cons.1 h with rfl|h
  ·omega
  ·have:=zbg h;omega
def zD7:∀(n:Nat)(a b:Expr)(K:Nat),jv a<=n->2*n<=K->n<=1000000000->ja K a b=some (pd (a=b)):=by
 intro n
 induction n with
 |zero=>intro a b K h;have:=JO a;omega
 |succ n ih =>
  intro a b K h hK hn
  obtain⟨K,rfl⟩:∃k,K=k+2:=⟨K-2,ab⟩
  obtain⟨o1,n1,s1,k1,z1⟩:=a;obtain⟨o2,n2,s2,k2,z2⟩:=b;rw[jv]at h;have hz:=Qy z1
  have hl:vA (K+1) z1 z2=some (pd (z1=z2)):=by
   rw[vA]
   refine vP z1 z2 (λx y=>ja K (Expr.mk x.Op x.N x.S x.Key x.Args) (Expr.mk y.Op y.N y.S y.Key y.Args)) _ (λK q=>rfl) ab λx hx y hy=>?_
   have h1:=zbg hx;have:=ih x y K ab ab ab;cases x;cases y;exact this
  rw[ja];simp only[hl,bsQ];simp only[zac]
  have e:pd ((⟨o1,n1,s1,k1,z1⟩:Expr)=⟨o2,n2,s2,k2,z2⟩)=(pd (o1=o2)&&(pd (n1=n2)&&(pd (s1=s2)&&(pd (k1=k2)&&pd (z1=z2))))):=by
   refine(Ak ?_).symm;simp only[bn,ju,Expr.mk.injEq]
  rw[e];cases pd (o1=o2)<;>cases pd (n1=n2)<;>cases pd (s1=s2)<;>cases pd (k1=k2)<;>rfl
def QU(e:Expr):Prop:=jv e<=1000000000
def zhw{a b:Expr}(h:QU a):ja KK a b=some (pd (a=b)):=zD7 1000000000 a b KK h (Nat.le_of_lt (jz ab)) ab
def yW(e:Expr):Expr.mk e.Op e.N e.S e.Key e.Args=e:=by cases e;rfl
def Al{p q:Prop}:pd (p/\q)=(pd p&&pd q):=(Ak (by simp only[bn,ju])).symm
def zD8{a b:List Def}(hs:a.length<4611686018427387904)(hE:∀d∈a,QU d.Body):wq a b=some (pd (a=b)):=by
 unfold wq
 refine vP a b (λx y=>za2 (Def.mk x.Name (Expr.mk x.Body.Op x.Body.N x.Body.S x.Body.Key x.Body.Args)) (Def.mk y.Name (Expr.mk y.Body.Op y.Body.N y.Body.S y.Body.Key y.Body.Args))) _ (λK q=>rfl) hs λx hx y hy=>?_
 have h:=hE x hx;simp only[yW];obtain⟨n1,e1⟩:=x;obtain⟨n2,e2⟩:=y;unfold za2;simp only[yW,zhw h,bsQ,zac,Def.mk.injEq,Al];cases pd (n1=n2)<;>rfl
def zhx{a b:List ak}(hs:a.length<4611686018427387904):jD a b=some (pd (a=b)):=by
 unfold jD
 refine vP a b (λx y=>some (decide (x=y))) _ (λK q=>rfl) hs λx _ y _=>?_
 rw[zac]
def zo9{a b:List Entry}(hs:a.length<4611686018427387904):jL a b=some (pd (a=b)):=by
 unfold jL
 refine vP a b (λx y=>some (decide (x.Name=y.Name)&&(decide (x.N=y.N)))) _ (λK q=>rfl) hs λx _ y _=>?_
 obtain⟨n1,m1⟩:=x;obtain⟨n2,m2⟩:=y;simp only[zac,Entry.mk.injEq,Al]
def zec{a b:List zV}(hs:a.length<4611686018427387904):vg a b=some (pd (a=b)):=by
 unfold vg
 refine vP a b (λx y=>some (decide (x.X=y.X)&&(decide (x.Y=y.Y)))) _ (λK q=>rfl) hs λx _ y _=>?_
 obtain⟨n1,m1⟩:=x;obtain⟨n2,m2⟩:=y;simp only[zac,zV.mk.injEq,Al]
def ZG{a b:List zg}(hs:a.length<4611686018427387904):vh a b=some (pd (a=b)):=by
 unfold vh
 refine vP a b (λx y=>some (decide (x.X=y.X)&&(decide (x.Y=y.Y)&&(decide (x.Z_=y.Z_))))) _ (λK q=>rfl) hs λx _ y _=>?_
 obtain⟨n1,m1,k1⟩:=x;obtain⟨n2,m2,k2⟩:=y;simp only[zac,zg.mk.injEq,Al]
def zsl{a b:List Table}(hs:a.length<4611686018427387904)(hE:∀d∈a,d.Rows.length<4611686018427387904):wu a b=some (pd (a=b)):=by
 unfold wu
 refine vP a b za3 _ (λK q=>rfl) hs λx hx y hy=>?_
 have h:=hE x hx;obtain⟨n1,r1,e1⟩:=x;obtain⟨n2,r2,e2⟩:=y;unfold za3;simp only[zo9 h,bsQ,zac,Table.mk.injEq,Al];cases pd (n1=n2)<;>cases pd (e1=e2)<;>cases pd (r1=r2)<;>rfl
def zNo{a b:Bool}:(a==b)=pd (a=b):=Ak beq_iff_eq
def zyp{a b:List yp}(hs:a.length<4611686018427387904)(hE:∀d∈a,d.Corners.length<4611686018427387904):wx a b=some (pd (a=b)):=by
 unfold wx
 refine vP a b za4 _ (λK q=>rfl) hs λx hx y hy=>?_
 have h:=hE x hx;obtain⟨n1,r1,e1⟩:=x;obtain⟨n2,r2,e2⟩:=y;unfold za4;simp only[zec h,bsQ,zac,zNo,yp.mk.injEq,Al];cases pd (n1=n2)<;>cases pd (r1=r2)<;>rfl
def zD9{a b:List Cap}(hs:a.length<4611686018427387904)(hE:∀d∈a,d.Corners.length<4611686018427387904):wy a b=some (pd (a=b)):=by
 unfold wy
 refine vP a b za5 _ (λK q=>rfl) hs λx hx y hy=>?_
 have h:=hE x hx;obtain⟨n1,r1,l1,e1⟩:=x;obtain⟨n2,r2,l2,e2⟩:=y;unfold za5;simp only[zec h,bsQ,zac,Cap.mk.injEq,Al];cases pd (n1=n2)<;>cases pd (r1=r2)<;>cases pd (l1=l2)<;>rfl
def zyq{a b:List View}(hs:a.length<4611686018427387904)(hE:∀d∈a,d.Targets.length<4611686018427387904):wz a b=some (pd (a=b)):=by
 unfold wz
 refine vP a b za6 _ (λK q=>rfl) hs λx hx y hy=>?_
 have h:=hE x hx;obtain⟨n1,⟨x1,y1,z1⟩,l1,e1⟩:=x;obtain⟨n2,⟨x2,y2,z2⟩,l2,e2⟩:=y;unfold za6;simp only[ZG h,bsQ,zac,View.mk.injEq,zg.mk.injEq,Al];cases pd (n1=n2)<;>cases pd (x1=x2)<;>cases pd (y1=y2)<;>cases pd (z1=z2)<;>cases pd (l1=l2)<;>rfl
def zpa{a b:zO}(h1:a.Zones.length<4611686018427387904)(h2:a.Except.length<4611686018427387904)(h3:QU a.Test):qt a b=some (pd (a=b)):=by
 obtain⟨a1,a2,a3,a4,a5,a6,a7,a8,a9,⟨p1,p2,p3,p4⟩,a10,a11,a12⟩:=a;obtain⟨b1,b2,b3,b4,b5,b6,b7,b8,b9,⟨q1,q2,q3,q4⟩,b10,b11,b12⟩:=b;unfold qt;simp only[zhx h1,zhx h2,yW,zhw h3,bsQ,zac,zNo,zO.mk.injEq,zy.mk.injEq,Al]
 cases pd (a2=b2)<;>cases pd (a3=b3)<;>cases pd (a9=b9)<;>simp only[Bool.not_true,Bool.not_false,ctQ,cf,bsQ,Bool.false_and,Bool.and_false,Bool.true_and] <;>
 cases pd (a1=b1)<;>cases pd (a4=b4)<;>cases pd (a5=b5)<;>cases pd (a6=b6)<;>simp only[bsQ,ctQ,cf,Bool.false_and,Bool.and_false,Bool.true_and] <;>
 cases pd (a7=b7)<;>cases pd (a8=b8)<;>simp only[bsQ,ctQ,cf,Bool.false_and,Bool.and_false,Bool.true_and] <;>
 cases (pd (p1=q1)&&(pd (p2=q2)&&(pd (p3=q3)&&pd (p4=q4))))<;>cases pd (a10=b10)<;>cases pd (a11=b11)<;>rfl
def zyr{a b:List zO}(hs:a.length<4611686018427387904)(hE:∀d∈a,d.Zones.length<4611686018427387904/\d.Except.length<4611686018427387904/\QU d.Test):wv a b=some (pd (a=b)):=by
 unfold wv
 refine vP a b (λx1 x2=>qt (zO.mk x1.Name x1.Zones x1.Except x1.From x1.Until x1.Grace x1.Vary x1.Kind (Expr.mk x1.Test.Op x1.Test.N x1.Test.S x1.Test.Key x1.Test.Args) x1.zy x1.Uses x1.Other x1.N) (zO.mk x2.Name x2.Zones x2.Except x2.From x2.Until x2.Grace x2.Vary x2.Kind (Expr.mk x2.Test.Op x2.Test.N x2.Test.S x2.Test.Key x2.Test.Args) x2.zy x2.Uses x2.Other x2.N)) _ (λK q=>rfl) hs λx hx y hy=>?_
 obtain⟨h1,h2,h3⟩:=hE x hx;simp only[yW];exact zpa h1 h2 h3
def FitP(p:yX):Prop :=
 (p.Defs.length<4611686018427387904/\∀d∈p.Defs,QU d.Body)/\(p.Tables.length<4611686018427387904/\∀d∈p.Tables,d.Rows.length<4611686018427387904)/\(p.Zones.length<4611686018427387904/\∀d∈p.Zones,d.Corners.length<4611686018427387904) /\
 (p.Rules.length<4611686018427387904/\∀d∈p.Rules,d.Zones.length<4611686018427387904/\d.Except.length<4611686018427387904/\QU d.Test)/\(p.Caps.length<4611686018427387904/\∀d∈p.Caps,d.Corners.length<4611686018427387904)/\(p.Views.length<4611686018427387904/\∀d∈p.Views,d.Targets.length<4611686018427387904)/\p.Sun.length<4611686018427387904
def zEa{a b:yX}(h:FitP a):zuk a b=some (pd (a=b)):=by
 obtain⟨⟨d1,d2⟩,⟨t1,t2⟩,⟨z1,z2⟩,⟨r1,r2⟩,⟨c1,c2⟩,⟨v1,v2⟩,s1⟩:=h;obtain⟨aD,aT,aZ,aR,aC,aV,aS,aH⟩:=a;obtain⟨bD,bT,bZ,bR,bC,bV,bS,bH⟩:=b;unfold zuk;simp only[zD8 d1 d2,zsl t1 t2,zyp z1 z2,zyr r1 r2,zD9 c1 c2,zyq v1 v2,ZG s1,bsQ,zac,yX.mk.injEq,Al];cases pd (aD=bD)<;>cases pd (aT=bT)<;>cases pd (aZ=bZ)<;>cases pd (aR=bR)<;>cases pd (aC=bC)<;>cases pd (aV=bV)<;>cases pd (aS=bS)<;>rfl
def zvq{α τ:Type}(l:List α)(g:α->Bool)(ok bad:τ)(L:Nat->Int->τ)
  (hL:∀K (i:Nat) x,l[i]?=some x->L (K+1) (i:Int)=bif g x then L K ((i+1:Nat):Int)else bad) (hE:∀K,L (K+1) (l.length:Int)=ok):
  ∀(r:List α)(i K:Nat),l.drop i=r->i<=l.length->r.length<K->L K (i:Int)=bif r.all g then ok else bad
 |[],i,K,hr,hi,hK=>by
  obtain⟨K,rfl⟩:∃k,K=k+1:=⟨K-1,by simp at hK;omega⟩
  have:=drop_nil hr hi;subst this;rw[hE];rfl
 |x::r,i,K,hr,hi,hK=>by
  obtain⟨K,rfl⟩:∃k,K=k+1:=⟨K-1,by simp at hK;omega⟩
  obtain⟨h1,h2,h3⟩:=wb hr;simp only[lc]at hK;rw[hL K i x h1,List.all_cons]
  cases g x with
  |false=>rfl
  |true=>exact zvq l g ok bad L hL hE r (i+1) K h2 ab ab
def zbh{α τ:Type}(l:List α)(g:α->Bool)(ok bad:τ)(L:Nat->Int->τ)(hs:l.length<=9223372036854775807)
  (hL:∀K (i:Nat) x,l[i]?=some x->L (K+1) (i:Int)=bif g x then L K ((i+1:Nat):Int)else bad) (hE:∀K,L (K+1) (l.length:Int)=ok):
  L KK 0=bif l.all g then ok else bad:=zvq l g ok bad L hL hE l 0 KK rfl (Nat.zero_le _) (jz ab)
def zpb{α σ τ:Type}(l:List α)(f:σ->α->σ)(fin:σ->τ)(I:Nat->σ->Prop)(L:Nat->Int->σ->τ)
  (hL:∀K (i:Nat) x s,l[i]?=some x->I i s->L (K+1) (i:Int) s=L K ((i+1:Nat):Int) (f s x)/\I (i+1) (f s x)) (hE:∀K s,I l.length s->L (K+1) (l.length:Int) s=fin s):
  ∀(r:List α)(i K:Nat)(s:σ),l.drop i=r->i<=l.length->r.length<K->I i s->L K (i:Int) s=fin (r.foldl f s)/\I l.length (r.foldl f s)
 |[],i,K,s,hr,hi,hK,hI=>by
  obtain⟨K,rfl⟩:∃k,K=k+1:=⟨K-1,by simp at hK;omega⟩
  have:=drop_nil hr hi;subst this;exact⟨hE K s hI,hI⟩
 |x::r,i,K,s,hr,hi,hK,hI=>by
  obtain⟨K,rfl⟩:∃k,K=k+1:=⟨K-1,by simp at hK;omega⟩
  obtain⟨h1,h2,h3⟩:=wb hr;simp only[lc]at hK;obtain⟨e1,e2⟩:=hL K i x s h1 hI;rw[e1,List.foldl_cons];exact zpb l f fin I L hL hE r (i+1) K (f s x) h2 ab ab e2
def zed{α σ τ:Type}(l:List α)(f:σ->α->σ)(fin:σ->τ)(I:Nat->σ->Prop)(L:Nat->Int->σ->τ)(s:σ)(hs:l.length<4611686018427387904)(h0:I 0 s)
  (hL:∀K (i:Nat) x s,l[i]?=some x->I i s->L (K+1) (i:Int) s=L K ((i+1:Nat):Int) (f s x)/\I (i+1) (f s x)) (hE:∀K s,I l.length s->L (K+1) (l.length:Int) s=fin s):
  L KK 0 s=fin (l.foldl f s)/\I l.length (l.foldl f s):=zpb l f fin I L hL hE l 0 KK s rfl (Nat.zero_le _) (jz ab) h0
def HQ{α:Type}{l:List α}{i:Nat}{x:α}(h:l[i]?=some x):decide ((i:Int)<(List.length l:Nat))=true:=dt (by have:=(List.getElem?_eq_some_iff.1 h).1;omega)
def ko{α:Type}{l:List α}:decide (((List.length l:Nat):Int)<(List.length l:Nat))=false:=df ab
def AA{α:Type}{l:List α}{i:Nat}{x:α}(h:l[i]?=some x):i<l.length:=(List.getElem?_eq_some_iff.1 h).1
def QE:Int⊕ak->ak
 |.inl n=>if n<0 then 45::32::Lib.decDigits n.natAbs else Lib.decDigits n.toNat
 |.inr s=>s
def zsm(s:ak):ak:=bif s.isEmpty||decide (s.getLast?=some 10)then s else s++[32]
def zkt(s:ak)(x:Int⊕ak):ak:=zsm s++QE x
def spT(l:List (Int⊕ak)):ak:=l.flatMap λx=>32::QE x
def yf:List (Int⊕ak)->ak
 |[]=>[59,10]
 |x::l=>QE x++spT l++[32,59,10]
def Good(t:ak):Prop:=t≠[]/\t.getLast?≠some 10
def zJ3{s:ak}(h:Good s):zsm s=s++[32]:=by
 unfold zsm
 have h1:s.isEmpty=false:=by cases s with
  |nil=>exact absurd rfl h.1
  |cons=>rfl
 rw[h1,df h.2];rfl
def xf{s t:ak}(h:Good t):Good (s++t):=by
 obtain⟨h1,h2⟩:=h;refine⟨by simp[h1],?_⟩;rw[List.getLast?_append]
 cases ht:t.getLast? with
 |none=>exact absurd (List.getLast?_eq_none_iff.1 ht) h1
 |some a=>rw[ht]at h2;simpa using h2
def zee:∀{l:List (Int⊕ak)}{s:ak},Good s->(∀x∈l,Good (QE x))->l.foldl zkt s=s++spT l/\Good (s++spT l)
 |[],s,h,_=>by simp only[List.foldl_nil,spT,List.flatMap_nil,List.append_nil,true_and];exact h
 |x::l,s,h,hl=>by
  have e:zkt s x=s++32::QE x:=by rw[zkt,zJ3 h];simp
  have hg:Good (s++32::QE x):=by
   have:=xf (s:=s++[32]) (hl x al);simpa using this
  have:=zee (l:=l) hg (λy hy=>hl y (mcQ _ hy));rw[List.foldl_cons,e];simp only[spT,List.flatMap_cons]at this ⊢;simpa using this
def JP{o:Option (Bool⊕Unit)}{g r:Bool}{f:Unit->Option Bool}(h:o=some (bif g then Sum.inr ()else Sum.inl false))(hr:g=true->f ()=some r):o.bind (xM some f)=some (g&&r):=by
 subst h
 cases g with
 |false=>rfl
 |true=>rw[ctQ,bsQ,xM,hr rfl,Bool.true_and]
def zku{o:Option Bool}{f:Option Bool}{g r:Bool}(h:o=some g)(hr:g=true->f=some (!r)):(o.bind λx=>bif (!x)then some true else f)=some (!(g&&r)):=by
 subst h
 cases g with
 |false=>rfl
 |true=>rw[bsQ,Bool.not_true,cf,hr rfl,Bool.true_and]
def ux{a:Nat}{m:Int}(n:Nat){f:Option Bool}{r:Bool}(hm:m=(n:Int))(hr:a<=n->f=some (!r)):(bif decide ((a:Int)>m)then some true else f)=some (!(decide (a<=n)&&r)):=by
 by_cases h:a<=n
 ·rw[df ab,dt h,cf,hr h,Bool.true_and]
 ·rw[dt ab,df h];rfl
def Vo{a:Nat}{m:Int}(n:Nat)(hm:m=(n:Int)):some (decide ((a:Int)>m))=some (!(decide (a<=n))):=by
 by_cases h:a<=n
 ·rw[df ab,dt h];rfl
 ·rw[dt ab,df h];rfl
def kV{α:Type}(l:List α)(g:α->Bool)(L:Nat->Int->Option (Bool⊕Unit))(B:Int->Option Bool)(hs:l.length<=9223372036854775807)
  (hL:∀K q,L (K+1) q=(bif (decide (q<((List.length l:Nat):Int)))then(B q).bind λr=>(bif r then some (Sum.inl false)else L K (w64 (q+1)))else some (Sum.inr ())))
  (hB:∀(i:Nat) x,l[i]?=some x->B (i:Int)=some (!(g x))):L KK 0=some (bif l.all g then Sum.inr ()else Sum.inl false):=by
 have:=zbh l g (some (Sum.inr ())) (some (Sum.inl false)) L hs (λK i x h=>?_) (λK=>by rw[hL,ko];rfl)
 ·rw[this];cases l.all g<;>rfl
 ·have hi:=AA h
  rw[hL,HQ h,ctQ,hB i x h,bsQ,xB ab];cases g x<;>rfl
mutual
def Am:Expr->Bool
 |⟨_,_,s,k,az⟩=>zpc az&&(decide (s.length<=30)&&decide (k.length<=30))
def zpc:List Expr->Bool
 |[]=>true
 |e::r=>Am e&&zpc r
end
def Y0:∀l:List Expr,zpc l=l.all Am
 |[]=>by rw[zpc];rfl
 |e::r=>by rw[zpc,Y0 r,List.all_cons]
def zEb{o n:Int}{s k:ak}{az:List Expr}{m RK:Nat}(hm:m<=1000)(ih:∀m'<m,∀e,vK RK e (m':Int)=some ((min (jv e) (m'+1):Nat):Int)):
  ∀(r:List Expr)(i j K:Nat),az.drop i=r->i<=az.length->i<j->j<=m+1->m+1<K+j->vn (vK RK) (m:Int) o n s k az K ((j:Int),(i:Int))=some ((min (j+HP r) (m+1):Nat):Int)
 |[],i,j,K,hr,hi,h1,h2,hK=>by
  obtain⟨K,rfl⟩:∃k,K=k+1:=⟨K-1,ab⟩
  have:=drop_nil hr hi;rw[vn];simp only[df (show ¬((i:Int)<(az.length:Nat)) by omega),cf,bsQ];rw[HP];exact congrArg some ab
 |x::r,i,j,K,hr,hi,h1,h2,hK=>by
  obtain⟨K,rfl⟩:∃k,K=k+1:=⟨K-1,ab⟩
  obtain⟨g1,g2,g3⟩:=wb hr;rw[vn];simp only[dt (show((i:Int)<(az.length:Nat)) by omega),ctQ,bsQ];by_cases hj:j<=m
  ·rw[dt (show(j:Int)<=(m:Int) by omega),ctQ,ye g1,bsQ,wa ab ab,show(m:Int)-(j:Int)=((m-j:Nat):Int) by omega,ih (m-j) ab x,bsQ]
   have hp:=JO x;rw[wa ab ab,xB ab,show(j:Int)+((min (jv x) (m-j+1):Nat):Int)=((j+min (jv x) (m-j+1):Nat):Int) by omega];rw[zEb hm ih r (i+1) (j+min (jv x) (m-j+1)) K g2 ab ab ab ab,HP];exact congrArg some ab
  ·rw[df (show ¬(j:Int)<=(m:Int) by omega),cf,HP]
   exact congrArg some ab
def zEc:∀(m:Nat)(e:Expr)(K:Nat),m<K->m<=1000->vK K e (m:Int)=some ((min (jv e) (m+1):Nat):Int):=by
 intro m
 induction m using Nat.strongRecOn with
 |_ m ih =>
  intro e K hK hm
  obtain⟨K,rfl⟩:∃k,K=k+1:=⟨K-1,ab⟩
  obtain⟨o,n,s,k,az⟩:=e;rw[vK];have:=zEb (o:=o) (n:=n) (s:=s) (k:=k) (az:=az) (m:=m) (RK:=K) hm (λm' h' e=>ih m' h' e K ab ab) az 0 1 KK rfl (Nat.zero_le _) ab ab (by have:=jz (n:=2000) ab;omega);rw[show((1:Int),(0:Int))=(((1:Nat):Int),((0:Nat):Int)) from rfl,this,jv,bsQ];exact congrArg some ab
def zEd:∀(n:Nat)(e:Expr)(K:Nat),jv e<=n->n<=K->n<=1000000000->jU K e=some (Am e):=by
 intro n
 induction n with
 |zero=>intro e K h;have:=JO e;omega
 |succ n ih =>
  intro e K h hK hn
  obtain⟨K,rfl⟩:∃k,K=k+1:=⟨K-1,ab⟩
  obtain⟨o,m,s,k,az⟩:=e;rw[jv]at h;have hz:=Qy az;rw[jU,Am,Y0]
  refine JP (kV az Am _ (λq=>(idx az q).bind λx1=>(jU K x1).bind λx2=>some (!x2)) ab (λK q=>?_) λi x hx=>?_) λ_=>?_
  ·rw[qM]
   simp only[Option.bind_assoc,bsQ]
  ·rw[ye hx,bsQ,ih x K (by have:=zbg (List.mem_of_getElem? hx);omega) ab ab];rfl
  ·show(bif decide (((List.length s:Nat):Int)<=30)then some (decide (((List.length k:Nat):Int)<=30))else some false)=_
   rw[zhs s.length 30 (a:=30) rfl,zhs k.length 30 (a:=30) rfl];cases decide (List.length s<=30)<;>rfl
def zzi(e:Expr):Bool:=decide (jv e<=200)&&Am e
def zef(e:Expr):jk e=some (zzi e):=by
 unfold jk zzi;rw[yW,show(200:Int)=((200:Nat):Int) from rfl,zEc 200 e KK (jz ab) ab,bsQ,yE (q:=jv e<=200) ab];by_cases h:jv e<=200
 ·rw[dt h,ctQ,zEd 200 e KK h (Nat.le_of_lt (jz ab)) ab];rfl
 ·rw[df h];rfl
def zNp(l:List ak):Bool:=l.all (λx=>decide (x.length<=30))&&decide (l.length<=10)
def ZH{l:List ak}(h:l.length<=9223372036854775807):wh l=some (zNp l):=by
 unfold wh zNp
 refine JP (kV l _ _ (λq=>(idx l q).bind λx1=>some (decide (((List.length x1:Nat):Int)>30))) h (λK q=>?_) λi x hx=>?_) λ_=>?_
 ·rw[jm]
  simp only[Option.bind_assoc,bsQ]
 ·rw[ye hx,bsQ];exact Vo 30 rfl
 ·rw[zhs l.length 10 (a:=10) rfl]
def zT3(t:Table):Bool:=decide (t.Name.length<=30)&&(decide (t.Rows.length<=64)&&t.Rows.all λx=>decide (x.Name.length<=30))
def zNq(r:zO):Bool:=decide (r.Name.length<=30)&&(zNp r.Zones&&(zNp r.Except&&zzi r.Test))
def zXp(p:yX):Bool :=
 (decide (p.Defs.length<=8)&&(decide (p.Tables.length<=8)&&(decide (p.Zones.length<=8)&&(decide (p.Rules.length<=8)&&(decide (p.Caps.length<=8)&&(decide (p.Views.length<=8)&&decide (p.Sun.length<=64))))))) &&
 (p.Defs.all (λd=>decide (d.Name.length<=30)&&zzi d.Body)&&(p.Tables.all zT3&&(p.Zones.all (λd=>decide (d.Name.length<=30)&&decide (d.Corners.length<=64))&&(p.Rules.all zNq &&
 (p.Caps.all (λd=>decide (d.Name.length<=30)&&decide (d.Corners.length<=64))&&(p.Views.all (λd=>decide (d.Name.length<=30)&&decide (d.Targets.length<=64))&&true))))))
def LenP(p:yX):Prop:=∀r∈p.Rules,r.Zones.length<=9223372036854775807/\r.Except.length<=9223372036854775807
def zXq{c0:List Def}{c1:List Table}{c2:List yp}{c3:List zO}{c4:List Cap}{c5:List View}{c6:List zg}{c7:Int}(hl:c0.length<=8):AN c0 c1 c2 c3 c4 c5 c6 c7 KK 0=some (bif c0.all (λd=>decide (d.Name.length<=30)&&zzi d.Body)then .inr ()else .inl false):=by
 refine kV c0 _ _ _ ab (λK q=>rfl) λi x hx=>?_
 simp only[ye hx,bsQ,zef]
 exact ux 30 rfl λ_=>rfl
def zXr{c0:List Def}{c1:List Table}{c2:List yp}{c3:List zO}{c4:List Cap}{c5:List View}{c6:List zg}{c7:Int}(hl:c1.length<=8):vL c0 c1 c2 c3 c4 c5 c6 c7 KK 0=some (bif c1.all zT3 then .inr ()else .inl false):=by
 have:=zbh c1 zT3 (some (Sum.inr ())) (some (Sum.inl false)) (vL c0 c1 c2 c3 c4 c5 c6 c7) ab (λK i x h=>?_) (λK=>by rw[vL,ko];rfl)
 ·rw[this];cases c1.all zT3<;>rfl
 ·have hi:=AA h
  rw[vL,HQ h,ctQ,ye h,bsQ,xB ab];rw[ux (m:=30) 30 rfl (r:=decide (x.Rows.length<=64)) (λ_=>Vo (m:=64) 64 rfl),bsQ];unfold zT3;cases hn:decide (x.Name.length<=30)
  ·rfl
  cases hr:decide (x.Rows.length<=64)
  ·rfl
  simp only[Bool.and_self,Bool.not_true,cf,Bool.true_and];have hr':=of_decide_eq_true hr;rw[kV x.Rows (λx=>decide (x.Name.length<=30)) (ug (i:Int) c0 c1 c2 c3 c4 c5 c6 c7 x.Name x.Rows x.Else) (λq=>(idx x.Rows q).bind λx1=>some (decide (((List.length x1.Name:Nat):Int)>30))) ab (λK q=>?_) λi x hx=>?_,bsQ]
  ·cases x.Rows.all (λx=>decide (x.Name.length<=30))<;>rfl
  ·rw[ug]
   simp only[Option.bind_assoc,bsQ]
  ·rw[ye hx,bsQ];exact Vo 30 rfl
def zXs{c0:List Def}{c1:List Table}{c2:List yp}{c3:List zO}{c4:List Cap}{c5:List View}{c6:List zg}{c7:Int}(hl:c2.length<=8):AO c0 c1 c2 c3 c4 c5 c6 c7 KK 0=some (bif c2.all (λd=>decide (d.Name.length<=30)&&decide (d.Corners.length<=64))then .inr ()else .inl false):=by
 refine kV c2 _ _ _ ab (λK q=>rfl) λi x hx=>?_
 simp only[ye hx,bsQ]
 exact ux 30 rfl λ_=>Vo 64 rfl
def zXt{c0:List Def}{c1:List Table}{c2:List yp}{c3:List zO}{c4:List Cap}{c5:List View}{c6:List zg}{c7:Int}(hl:c4.length<=8):AP c0 c1 c2 c3 c4 c5 c6 c7 KK 0=some (bif c4.all (λd=>decide (d.Name.length<=30)&&decide (d.Corners.length<=64))then .inr ()else .inl false):=by
 refine kV c4 _ _ _ ab (λK q=>rfl) λi x hx=>?_
 simp only[ye hx,bsQ]
 exact ux 30 rfl λ_=>Vo 64 rfl
def zXu{c0:List Def}{c1:List Table}{c2:List yp}{c3:List zO}{c4:List Cap}{c5:List View}{c6:List zg}{c7:Int}(hl:c5.length<=8):AQ c0 c1 c2 c3 c4 c5 c6 c7 KK 0=some (bif c5.all (λd=>decide (d.Name.length<=30)&&decide (d.Targets.length<=64))then .inr ()else .inl false):=by
 refine kV c5 _ _ _ ab (λK q=>rfl) λi x hx=>?_
 simp only[ye hx,bsQ]
 exact ux 30 rfl λ_=>Vo 64 rfl
def zXv{c0:List Def}{c1:List Table}{c2:List yp}{c3:List zO}{c4:List Cap}{c5:List View}{c6:List zg}{c7:Int}(hl:c3.length<=8)(hz:∀r∈c3,r.Zones.length<=9223372036854775807/\r.Except.length<=9223372036854775807):kl c0 c1 c2 c3 c4 c5 c6 c7 KK 0=some (bif c3.all zNq then .inr ()else .inl false):=by
 refine kV c3 zNq (kl c0 c1 c2 c3 c4 c5 c6 c7) (λq=>(idx c3 q).bind λx1=>((bif (decide (((List.length x1.Name:Nat):Int)>30))then some true else(wh x1.Zones).bind λx3=>(bif (!x3)then some true else(wh x1.Except).bind λx4=>(bif (!x4)then some true else(jk (Expr.mk x1.Test.Op x1.Test.N x1.Test.S x1.Test.Key x1.Test.Args)).bind λx5=>some (!x5)))))) ab (λK q=>?_) λi x hx=>?_
 ·rw[kl]
  simp only[Option.bind_assoc]
 ·obtain⟨h1,h2⟩:=hz x (List.mem_of_getElem? hx)
  simp only[ye hx,bsQ,zef,yW]
  exact ux 30 rfl λ_=>zku (ZH h1) λ_=>zku (ZH h2) λ_=>rfl
def zRx{p:yX}(h:LenP p):Wl p=some (zXp p):=by
 unfold Wl zXp;rw[ux (m:=8) 8 rfl λ_=>ux (m:=8) 8 rfl λ_=>ux (m:=8) 8 rfl λ_=>ux (m:=8) 8 rfl λ_=>ux (m:=8) 8 rfl λ_=>ux (m:=8) 8 rfl λ_=>Vo (m:=64) 64 rfl,bsQ];cases hh:(decide (p.Defs.length<=8)&&(decide (p.Tables.length<=8)&&(decide (p.Zones.length<=8)&&(decide (p.Rules.length<=8)&&(decide (p.Caps.length<=8)&&(decide (p.Views.length<=8)&&decide (p.Sun.length<=64)))))))
 ·rfl
 simp only[bn,decide_eq_true_eq]at hh;obtain⟨h1,h2,h3,h4,h5,h6,h7⟩:=hh;simp only[Bool.not_true,cf,Bool.true_and]
 exact JP (zXq h1) λ_=>JP (zXr h2) λ_=>JP (zXs h3) λ_=>JP (zXv h4 h) λ_=>JP (zXt h5) λ_=>JP (zXu h6) λ_=>rfl
-- greater bounds, for plans that were read
def zEe(e:Expr):Bool:=decide (jv e<=5000)&&Am e
def zT4(l:List ak):Bool:=l.all (λx=>decide (x.length<=30))&&decide (l.length<=3000)
def zGp(r:zO):Bool:=decide (r.Name.length<=30)&&(zT4 r.Zones&&(zT4 r.Except&&zEe r.Test))
def zvr{e:Expr}(h:zzi e=true):zEe e=true:=by
 simp only[zzi,zEe,bn,decide_eq_true_eq]at h ⊢;exact⟨ab,h.2⟩
def zvs{l:List ak}(h:zNp l=true):zT4 l=true:=by
 simp only[zNp,zT4,bn,decide_eq_true_eq]at h ⊢;exact⟨h.1,ab⟩
def zJ4{r:zO}(h:zNq r=true):zGp r=true:=by
 simp only[zNq,zGp,bn]at h ⊢;exact⟨h.1,zvs h.2.1,zvs h.2.2.1,zvr h.2.2.2⟩
def zNr{τ:Type}(n lo:Nat)(g:Nat->Bool)(ok bad:τ)(L:Nat->Int->τ)(hL:∀K (i:Nat),lo<=i->i<n->L (K+1) (i:Int)=bif g i then L K ((i+1:Nat):Int)else bad)(hE:∀K (i:Nat),n<=i->L (K+1) (i:Int)=ok):
  ∀(m a K:Nat),lo<=a->n-a<=m->m<K->L K (a:Int)=bif pd (∀k,a<=k->k<n->g k=true)then ok else bad
 |0,a,K,hlo,h,hK=>by
  obtain⟨K,rfl⟩:∃k,K=k+1:=⟨K-1,ab⟩
  rw[hE K a ab,ju.2 (λk h1 h2=>ab)];rfl
 |m+1,a,K,hlo,h,hK=>by
  obtain⟨K,rfl⟩:∃k,K=k+1:=⟨K-1,ab⟩
  by_cases ha:n<=a
  ·rw[hE K a ha,ju.2 (λk h1 h2=>ab)];rfl
  ·rw[hL K a hlo ab]
   cases hg:g a with
   |false =>
    have:pd (∀k,a<=k->k<n->g k=true)=false:=by
     cases hp:pd (∀k,a<=k->k<n->g k=true)with
     |false=>rfl
     |true=>rw[ju.1 hp a aq ab]at hg;cases hg
    rw[this];rfl
   |true =>
    rw[ctQ,zNr n lo g ok bad L hL hE m (a+1) K ab ab ab]
    have:pd (∀k,a+1<=k->k<n->g k=true)=pd (∀k,a<=k->k<n->g k=true):=JN ⟨λh k h1 h2=>by
     by_cases hk:k=a
     ·rw[hk];exact hg
     ·exact h k ab h2,λh k h1 h2=>h k ab h2⟩
    rw[this]
def ptA(p:List zV)(i:Nat):zV:=p.getD (i % p.length) default
def zys(a b c:zV):Bool :=
 (decide (0<=a.X)&&(decide (a.X<=1048576)&&(decide (0<=a.Y)&&decide (a.Y<=1048576)))) &&
 (!(decide (a.X=b.X)==decide (a.Y=b.Y))&&!(decide (a.X=b.X)==decide (b.X=c.X)))
def zyt(p:List zV)(i:Nat):Bool:=zys (ptA p i) (ptA p (i+1)) (ptA p (i+2))
def zRy{α β:Type}{o:Option α}{v:α}{f:α->Option β}{r:Option β}(h:o=some v)(h2:f v=r):o.bind f=r:=by rw[h,bsQ,h2]
def zEf(a b c:zV):((YH a).bind λx5=>(bif (!x5)then some true else(bif ((decide (a.X=b.X))==(decide (a.Y=b.Y)))then some true else(xy ⟨a,b⟩).bind λx6=>(xy ⟨b,c⟩).bind λx7=>some (x6==x7))))=some (!(zys a b c)):=by
 show((bif (decide (0<=a.X))then(bif (decide (a.X<=1048576))then(bif (decide (0<=a.Y))then some (decide (a.Y<=1048576))else some false)else some false)else some false).bind λx5=>(bif (!x5)then some true else(bif ((decide (a.X=b.X))==(decide (a.Y=b.Y)))then some true else(some ((decide (a.X=b.X))==(decide (b.X=c.X)))))))=_
 unfold zys;cases decide (0<=a.X)
 ·rfl
 cases decide (a.X<=1048576)
 ·rfl
 cases decide (0<=a.Y)
 ·rfl
 cases decide (a.Y<=1048576)
 ·rfl
 cases (decide (a.X=b.X)==decide (a.Y=b.Y))<;>cases (decide (a.X=b.X)==decide (b.X=c.X))<;>rfl
def zJ5(a b:zV):Bool:=decide (a.X<b.X)||(decide (a.X=b.X)&&decide (a.Y<b.Y))
def zZ7(p:List zV)(i:Nat):Bool:=!(decide (0<i))||zJ5 (ptA p 0) (ptA p i)
def zXw(a b c d:zV):Bool:=decide (max (min a.X b.X) (min c.X d.X)<=min (max a.X b.X) (max c.X d.X))&&decide (max (min a.Y b.Y) (min c.Y d.Y)<=min (max a.Y b.Y) (max c.Y d.Y))
def zT5(p:List zV)(i k:Nat):Bool:=decide ((k+1) % p.length=i)||!(zXw (ptA p i) (ptA p (i+1)) (ptA p k) (ptA p (k+1)))
def Hg(p:List zV):Prop:=(4<=p.length/\p.length<=60)/\(∀i,0<=i->i<p.length->(zyt p i&&zZ7 p i)=true)/\(∀i,0<=i->i<p.length->pd (∀k,i+2<=k->k<p.length->zT5 p i k=true)=true)/\¬(ptA p 0).X=(ptA p 1).X
def zNs{p:List zV}{i:Nat}(h:0<p.length):idx p (((i % p.length:Nat)):Int)=some (ptA p i):=zNe (Nat.mod_lt _ h)
def zEg{p:List zV}{i:Nat}(h:i<p.length):idx p ((i:Nat):Int)=some (ptA p i):=by
 have:=zNs (p:=p) (i:=i) ab
 rwa [Nat.mod_eq_of_lt h]at this
def zvt{i n:Nat}:Int.tmod (i:Int) (n:Int)=((i % n:Nat):Int):=rfl
def zXx{p:List zV}{i:Nat}:ptA p (i % p.length)=ptA p i:=by unfold ptA;rw[Nat.mod_mod]
def zRz{p:List zV}{i:Nat}:ptA p (i % p.length+1)=ptA p (i+1):=by unfold ptA;rw[Nat.mod_add_mod]
def zpd(p:List zV)(i:Nat):zI:=⟨ptA p i,ptA p (i+1)⟩
def zEh{p:List zV}(h0:0<p.length)(h1:p.length<=60):∃l,Ql p=some l/\l.length=p.length/\∀j<p.length,l[j]?=some (zpd p j):=by
 have hr:(List.range p.length).length=p.length:=List.length_range
 have key:=zed (List.range p.length) (λs i=>List.set s i (zpd p i)) (λs=>some s) (λi s=>s.length=p.length/\∀j<i,s[j]?=some (zpd p j)) (λK q s=>wU p ((List.length p:Nat):Int) K (q,s))
  (List.replicate (Int.toNat ((List.length p:Nat):Int)) (zI.mk (zV.mk 0 0) (zV.mk 0 0))) ab ⟨af,λj hj=>ab⟩ (λK i x s hx hs=>?_) (λK s hs=>?_)
 ·refine⟨_,?_,key.2.1,λj hj=>key.2.2 j ab⟩
  unfold Ql;rw[zD ab,bsQ,key.1];rfl
 ·have hi:=AA hx
  rw[hr]at hi
  have hxi:x=i:=by simpa[List.getElem?_range,hi]using hx.symm
  subst hxi;obtain⟨s1,s2⟩:=hs;refine⟨?_,by rw[List.length_set];exact s1,λj hj=>?_⟩
  ·show wU p ((List.length p:Nat):Int) (K+1) ((x:Int),s)=_
   rw[wU];simp only[dt (show(x:Int)<((List.length p:Nat):Int) by omega),ctQ,zEg hi,bsQ];rw[zD ab,bsQ,xB ab,zvt,zNs h0,bsQ,zD ab,bsQ];simp only[Int.toNat_natCast];rw[List.getElem?_eq_getElem ab,bsQ];rfl
  ·by_cases hjx:j=x
   ·subst hjx
    rw[List.getElem?_set_self ab]
   ·rw[List.getElem?_set_ne (Ne.symm hjx)]
    exact s2 j ab
 ·rw[hr,wU]
  simp only[ko,cf]
def zyu(a b:zV):(Jr a b).bind (λx=>some (decide (x>=0)))=some (!(zJ5 a b)):=by
 have hc:∀x y:Int,kJ x y=some (if x<y then -1 else if x>y then 1 else 0):=λx y=>by
  unfold kJ Jq;simp only[bsQ,decide_true,Bool.not_true,cf];by_cases h:x<y
  ·rw[dt h,if_pos h];rfl
  ·rw[df h,if_neg h]
   by_cases h2:x>y
   ·rw[dt h2,if_pos h2];rfl
   ·rw[df h2,if_neg h2];rfl
 have ho:∀x y:Int,zaz [x,y]=some (if x=0 then y else x):=λx y=>by
  unfold zaz
  have e:KK=(KK-3)+3:=by have:=jz (n:=10) ab;omega
  rw[e,qn];simp only[show decide ((0:Int)<((List.length [x,y]:Nat):Int))=true from rfl,ctQ,show idx [x,y] 0=some x from rfl,bsQ];by_cases h:x=0
  ·rw[dt h,if_pos h]
   simp only[Bool.not_true,cf];rw[show w64 (0+1)=1 from rfl,qn];simp only[show decide ((1:Int)<((List.length [x,y]:Nat):Int))=true from rfl,ctQ,show idx [x,y] 1=some y from rfl,bsQ];by_cases h2:y=0
   ·rw[dt h2,h2]
    simp only[Bool.not_true,cf];rw[show w64 (1+1)=2 from rfl,qn];rfl
   ·rw[df h2];rfl
  ·rw[df h,if_neg h];rfl
 unfold Jr;simp only[hc,ho,bsQ];unfold zJ5;refine congrArg some ?_;by_cases h1:a.X<b.X
 ·simp[h1]
 ·by_cases h2:a.X>b.X
  ·have:¬a.X=b.X:=ab
   simp[h1,h2,this]
  ·have:a.X=b.X:=ab
   by_cases h3:a.Y<b.Y
   ·simp[this,h3]
   ·by_cases h4:a.Y>b.Y
    ·simp[this,h3,h4]
    ·simp[this,h3,h4]
def zJ6{p:Prop}(h:¬p):pd p=false:=(Ak (b:=false) ⟨λh=>(by cases h),λh2=>absurd h2 h⟩).symm
def zsn(n:Nat)(g:Nat->Bool)(L:Nat->Int->Option (Bool⊕Unit))(a:Nat)(hn:n<4611686018427387904)(hL:∀K (i:Nat),a<=i->i<n->L (K+1) (i:Int)=bif g i then L K ((i+1:Nat):Int)else some (Sum.inl false))(hE:∀K (i:Nat),n<=i->L (K+1) (i:Int)=some (Sum.inr ())):
  L KK (a:Int)=some (bif pd (∀k,a<=k->k<n->g k=true)then Sum.inr ()else Sum.inl false):=by
 rw[zNr n a g _ _ L hL hE n a KK aq ab (jz ab)];cases pd (∀k,a<=k->k<n->g k=true)<;>rfl
def WB{o:Option (Bool⊕Unit)}{g r:Prop}{f:Unit->Option Bool}(h:o=some (bif pd g then Sum.inr ()else Sum.inl false))(hr:g->f ()=some (pd r)):o.bind (xM some f)=some (pd (g/\r)):=by
 rw[Al]
 exact JP h λhg=>hr (ju.1 hg)
def zeg{p:List zV}:wV p=some (pd (Hg p)):=by
 unfold wV zcz;by_cases hh:4<=p.length/\p.length<=60
 ·obtain⟨h4,h60⟩:=hh
  obtain⟨l,e1,e2,e3⟩:=zEh (p:=p) ab h60
  have hl:∀j<p.length,idx l (j:Int)=some (zpd p j):=λj hj=>ye (e3 j hj)
  rw[df (show ¬((List.length p:Nat):Int)<4 by omega),df (show ¬((List.length p:Nat):Int)>60 by omega),cf,bsQ,cf,e1,bsQ,zd6];have hp:pd (Hg p)=pd ((∀i,0<=i->i<p.length->(zyt p i&&zZ7 p i)=true)/\(∀i,0<=i->i<p.length->pd (∀k,i+2<=k->k<p.length->zT5 p i k=true)=true)/\¬(ptA p 0).X=(ptA p 1).X):=JN ⟨λh=>h.2,λh=>⟨⟨h4,h60⟩,h⟩⟩;rw[hp,e2]
  refine WB ?_ λ_=>WB ?_ λ_=>?_
  ·refine zsn p.length (λi=>zyt p i&&zZ7 p i) (kg p l (List.length p:Nat)) 0 ab (λK i _ hi=>?_) (λK i hi=>?_)
   ·rw[kg]
    simp only[dt (show(i:Int)<((List.length p:Nat):Int) by omega),ctQ,hl i hi,bsQ,e2];rw[zD ab,bsQ,xB ab,zvt,hl _ (Nat.mod_lt _ ab)];rw[show zpd p ((i+1) % p.length)=zpd p (i+1) by unfold zpd;rw[zXx,zRz],bsQ];have h0:idx p 0=some (ptA p 0):=zEg (p:=p) (i:=0) ab;refine zRy (zEf (ptA p i) (ptA p (i+1)) (ptA p (i+2))) ?_;unfold zyt zZ7;cases zys (ptA p i) (ptA p (i+1)) (ptA p (i+2))
    ·rfl
    simp only[Bool.not_true,cf,Bool.true_and];by_cases hi0:0<i
    ·rw[dt (show(i:Int)>0 by omega),dt hi0,ctQ,h0,zEg hi]
     simp only[bsQ,zyu,Bool.not_true,Bool.false_or];cases zJ5 (ptA p 0) (ptA p i)<;>rfl
    ·rw[df (show ¬(i:Int)>0 by omega),df hi0];rfl
   ·rw[kg,df ab];rfl
  ·refine zsn p.length (λi=>pd (∀k,i+2<=k->k<p.length->zT5 p i k=true)) (kj l (List.length p:Nat)) 0 ab (λK i _ hi=>?_) (λK i hi=>?_)
   ·rw[kj,dt (show(i:Int)<((List.length p:Nat):Int) by omega),ctQ,wa ab ab,show((i:Int)+2)=((i+2:Nat):Int) by omega]
    rw[zsn p.length (λk=>zT5 p i k) (kh l (i:Int) (List.length p:Nat)) (i+2) ab (λK k hlo hk=>?_) (λK k hk=>?_),xB ab]
    ·cases pd (∀k,i+2<=k->k<p.length->zT5 p i k=true)<;>rfl
    ·rw[kh,e2,dt (show(k:Int)<((List.length p:Nat):Int) by omega),ctQ,wa (n:=(i:Int)+_) ab ab,wa ab ab,hl i hi,hl k hk]
     have hm:decide ((i:Int)+((List.length p:Nat):Int)-(k:Int)>1)=!(decide ((k+1) % p.length=i)):=by
      by_cases hk1:k+1=p.length
      ·rw[hk1,Nat.mod_self]
       by_cases hi0:0=i
       ·rw[dt hi0,df ab];rfl
       ·rw[df hi0,dt ab];rfl
      ·rw[Nat.mod_eq_of_lt ab]
       rw[df (show ¬k+1=i by omega),dt ab];rfl
     rw[hm];unfold zT5;cases decide ((k+1) % p.length=i)
     ·simp only[Bool.not_false,ctQ,bsQ,Bool.false_or]
      show((bif (decide (max (min (ptA p i).X (ptA p (i+1)).X) (min (ptA p k).X (ptA p (k+1)).X)<=min (max (ptA p i).X (ptA p (i+1)).X) (max (ptA p k).X (ptA p (k+1)).X)))then some (decide (max (min (ptA p i).Y (ptA p (i+1)).Y) (min (ptA p k).Y (ptA p (k+1)).Y)<=min (max (ptA p i).Y (ptA p (i+1)).Y) (max (ptA p k).Y (ptA p (k+1)).Y)))else some false).bind λx4=>some x4).bind _=_
      rw[zsg,bsQ,bsQ,xB ab];unfold zXw;cases (decide (max (min (ptA p i).X (ptA p (i+1)).X) (min (ptA p k).X (ptA p (k+1)).X)<=min (max (ptA p i).X (ptA p (i+1)).X) (max (ptA p k).X (ptA p (k+1)).X))&&decide (max (min (ptA p i).Y (ptA p (i+1)).Y) (min (ptA p k).Y (ptA p (k+1)).Y)<=min (max (ptA p i).Y (ptA p (i+1)).Y) (max (ptA p k).Y (ptA p (k+1)).Y)))<;>rfl
     ·rw[xB ab];rfl
    ·rw[kh,e2,df ab];rfl
   ·rw[kj,df ab];rfl
  ·have:=hl 0 ab
   rw[show((0:Nat):Int)=0 from rfl]at this;rw[this,bsQ,xy,bsQ];exact congrArg some (Ak (by simp[zpd]))
 ·rw[zJ6 (λh=>hh h.1)]
  by_cases h4:p.length<4
  ·rw[dt (show((List.length p:Nat):Int)<4 by omega)];rfl
  ·rw[df (show ¬((List.length p:Nat):Int)<4 by omega),dt (show((List.length p:Nat):Int)>60 by omega)];rfl
def An(u:Bool):List ak->List ak->Bool
 |_,[]=>true
 |seen,s::r=>zN s&&(!(u&&decide (s∈seen))&&An u (seen++[s]) r)
def ZI:∀(l seen:List ak),An false seen l=l.all zN
 |[],_=>rfl
 |s::r,seen=>by rw[An,ZI r,List.all_cons,Bool.false_and,Bool.not_false,Bool.true_and]
def Y1:∀(l seen:List ak),An true seen l=true->l.all zN=true
 |[],_,_=>rfl
 |s::r,seen,h=>by
  simp only[An,bn]at h;rw[List.all_cons,h.1,Y1 r _ h.2.2];rfl
def KM(m:List (ak×Bool))(L:List ak):Prop:=∀x,(xe x m).getD false=decide (x∈L)
def zpe{α β:Type}[DecidableEq α](a x:α)(b:β):∀l:List (α×β),xe x (oc a b l)=if x=a then some b else xe x l
 |[]=>by simp[oc,xe]
 |(k,c)::r=>by
  have ih:=zpe a x b r;simp only[oc];by_cases h:a=k
  ·rw[if_pos h]
   subst h;by_cases h2:x=a
   ·simp[xe,h2]
   ·simp[xe,h2]
  ·rw[if_neg h]
   simp only[xe,ih];by_cases h2:x=k
   ·subst h2
    simp[Ne.symm h]
   ·simp[h2]
def KM.add{m:List (ak×Bool)}{L:List ak}(h:KM m L)(s:ak):KM (oc s true m) (L++[s]):=λx=>by
 rw[zpe];by_cases hx:x=s
 ·rw[if_pos hx];simp[hx]
 ·rw[if_neg hx,h x]
  exact yE (by simp[hx])
def zEi(u:Bool)(l:List ak)(hs:l.length<4611686018427387904)(hn:∀s∈l,s.length<4611686018427387904):
  ∀(r:List ak)(i K:Nat)(m:List (ak×Bool))(seen:List ak),l.drop i=r->i<=l.length->r.length<K->KM m seen ->
   oA u l (l.length:Nat) K ((i:Int),m)=some (bif An u seen r then .inr ()else .inl false)
 |[],i,K,m,seen,hr,hi,hK,hm=>by
  obtain⟨K,rfl⟩:∃k,K=k+1:=⟨K-1,by simp at hK;omega⟩
  have:=drop_nil hr hi;subst this;rw[oA,ko];rfl
 |x::r,i,K,m,seen,hr,hi,hK,hm=>by
  obtain⟨K,rfl⟩:∃k,K=k+1:=⟨K-1,by simp at hK;omega⟩
  obtain⟨h1,h2,h3⟩:=wb hr;simp only[lc]at hK;rw[oA,HQ h1,ctQ,An];simp only[ye h1,bsQ,yZ (hn x (List.mem_of_getElem? h1)),hm x]
  cases zN x with
  |false=>rfl
  |true =>
   simp only[Bool.not_true,cf,Bool.true_and]
   cases hu:(u&&decide (x∈seen))with
   |true =>
    simp only[bn]at hu;rw[hu.1,hu.2];rfl
   |false =>
    have:(bif u then some (decide (x∈seen))else some false)=some false:=by
     cases u
     ·rfl
     ·simpa using hu
    rw[this];simp only[bsQ,cf,Bool.not_false,Bool.true_and];rw[xB ab];exact zEi u l hs hn r (i+1) K _ _ h2 ab ab (hm.add x)
def zkv{u:Bool}{l:List ak}(hs:l.length<4611686018427387904)(hn:∀s∈l,s.length<4611686018427387904):qq l u=some (An u [] l):=by
 unfold qq;rw[show(0:Int)=((0:Nat):Int) from rfl,zEi u l hs hn l 0 KK [] [] rfl (Nat.zero_le _) (jz ab) (λx=>by simp[xe])];cases An u [] l<;>rfl
def zhy{α β:Type}(g:α->β):∀(l:List α)(s:List β),l.foldl (λs x=>s++[g x]) s=s++l.map g
 |[],s=>af
 |x::l,s=>by rw[List.foldl_cons,zhy g l];simp
def zyv{α τ:Type}(l:List α)(g:α->ak)(L:Nat->(Int×List ak)->τ)(fin:List ak->τ)(hs:l.length<=1000)
  (hL:∀K (i:Nat) x s,l[i]?=some x->List.length s<=1000->L (K+1) ((i:Int),s)=L K (((i+1:Nat):Int),s++[g x])) (hE:∀K s,L (K+1) ((l.length:Int),s)=fin s):L KK (0,[])=fin (l.map g):=by
 have:=(zed l (λs x=>s++[g x]) fin (λi s=>s.length=i/\i<=l.length) (λK q s=>L K (q,s)) [] ab ⟨rfl,Nat.zero_le _⟩ (λK i x s h hi=>⟨hL K i x s h ab,by have:=AA h;simp;omega⟩) (λK s _=>hE K s)).1;rw[zhy]at this;simpa using this
def qB{α:Type}[Inhabited α](l:List α)(g:α->ak)(m:Nat)(L:Nat->(Int×List ak)->Option (List ak))(B:α->Option ak)(hs:l.length<=1000)(hn:∀x∈l,(g x).length<4611686018427387904)
  (hL:∀K q,L (K+1) q=(bif (decide (q.1<((List.length l:Nat):Int)))then(idx l q.1).bind λx1=>(B x1).bind λx2=>(grd (List.length (q.2++([x2]:List ak))*16<=140737488355328)).bind λ_=>L K ((w64 (q.1+1)),(q.2++([x2]:List ak)))else some q.2))
  (hB:∀x,B x=some (g x)):(L KK (0,[])).bind (λx1=>(bif (decide (((List.length l:Nat):Int)<=(m:Int)))then(qq x1 true).bind λx2=>some x2 else some false))=some (decide (l.length<=m)&&An true [] (l.map g)):=by
 rw[zyv l g L some hs (λK i x s h h2=>?_) (λK s=>by rw[hL];simp only[ko,cf]),bsQ,zkv (by simp;omega) (λs h=>?_),zhs _ m rfl]
 ·cases decide (l.length<=m)<;>rfl
 ·obtain⟨x,h1,rfl⟩:=List.mem_map.1 h
  exact hn x h1
 ·have:=AA h
  rw[hL];simp only[HQ h,ctQ,ye h,bsQ,hB];rw[zD (by rw[la,List.length_singleton];omega),bsQ,xB ab]
-- expressions
def qC(op:Int):Int:=if op<=3 then 0 else if op=9∨op=15 then 1 else if op=16 then 3 else 2
def wk(e:Expr):Bool:=decide (0<=e.Op/\e.Op<17/\((e.Args.length:Nat):Int)=qC e.Op)&&(decide (if e.Op=0 then 0<=e.N/\e.N<=1099511627776 else e.N=0) &&
 ((if e.Op=1∨e.Op=2∨e.Op=3 then zN e.S else decide (e.S=[]))&&(if e.Op=2 then zN e.Key else decide (e.Key=[]))))
def okE:Nat->Expr->Bool
 |0,_=>false
 |d+1,e=>wk e&&e.Args.all (okE d)
def zJ7{n:Int}(h0:0<=n)(h1:n<17):n=0∨n=1∨n=2∨n=3∨n=9∨n=15∨n=16∨(¬n=0/\¬n=1/\¬n=2/\¬n=3/\¬n=9/\¬n=15/\¬n=16/\¬n<=3):=ab
def KR{n:Int}:decide ((min (max n 0) 1099511627776)=n)=decide (0<=n/\n<=1099511627776):=yE ab
def AU{s:ak}:decide ([]=s)=decide (s=[]):=yE ⟨Eq.symm,Eq.symm⟩
def kW{n:Int}:decide (0=n)=decide (n=0):=yE ⟨Eq.symm,Eq.symm⟩
def zXy{n:Int}{s k:ak}{az:List Expr} :wk ⟨0,n,s,k,az⟩=(decide (((az.length:Nat):Int)=0)&&(decide (0<=n/\n<=1099511627776)&&(decide (s=[])&&decide (k=[])))):=by
 simp[wk,qC]
def r_0{RK:Nat}{d n:Int}{s k:ak}{az:List Expr}{r:Bool}(hd:¬d=0)(hS:s.length<4611686018427387904)(hK:k.length<4611686018427387904)(h:wk ⟨0,n,s,k,az⟩=true->xJ (yr RK) d az ((List.length az:Nat):Int) KK 0=some (bif r then Sum.inr ()else Sum.inl false)):yr (RK+1) ⟨0,n,s,k,az⟩ d=some (wk ⟨0,n,s,k,az⟩&&r):=by
 rw[zXy ]at h ⊢;rw[yr];simp only[df hd,KR,AU,kW,yZ hS,yZ hK,Bool.not_true,Bool.not_false,cf,ctQ,bsQ,xM,Int.reduceEq,Int.reduceLT,Int.reduceGE,Int.reduceLE,decide_true,decide_false,ge_iff_le]
 cases ha:decide (((az.length:Nat):Int)=0)<;>cases hb:decide (0<=n/\n<=1099511627776)<;>cases hc:decide (s=[])<;>cases he:decide (k=[])<;>(first|rfl|(rw[ha,hb,hc,he]at h;rw[h rfl];cases r<;>rfl))
def zXz{n:Int}{s k:ak}{az:List Expr} :wk ⟨1,n,s,k,az⟩=(decide (((az.length:Nat):Int)=0)&&(decide (n=0)&&(zN s&&decide (k=[])))):=by
 simp[wk,qC]
def r_1{RK:Nat}{d n:Int}{s k:ak}{az:List Expr}{r:Bool}(hd:¬d=0)(hS:s.length<4611686018427387904)(hK:k.length<4611686018427387904)(h:wk ⟨1,n,s,k,az⟩=true->xJ (yr RK) d az ((List.length az:Nat):Int) KK 0=some (bif r then Sum.inr ()else Sum.inl false)):yr (RK+1) ⟨1,n,s,k,az⟩ d=some (wk ⟨1,n,s,k,az⟩&&r):=by
 rw[zXz ]at h ⊢;rw[yr];simp only[df hd,KR,AU,kW,yZ hS,yZ hK,Bool.not_true,Bool.not_false,cf,ctQ,bsQ,xM,Int.reduceEq,Int.reduceLT,Int.reduceGE,Int.reduceLE,decide_true,decide_false,ge_iff_le]
 cases ha:decide (((az.length:Nat):Int)=0)<;>cases hb:decide (n=0)<;>cases hc:zN s<;>cases he:decide (k=[])<;>(first|rfl|(rw[ha,hb,hc,he]at h;rw[h rfl];cases r<;>rfl))
def zX0{n:Int}{s k:ak}{az:List Expr} :wk ⟨2,n,s,k,az⟩=(decide (((az.length:Nat):Int)=0)&&(decide (n=0)&&(zN s&&zN k))):=by
 simp[wk,qC]
def r_2{RK:Nat}{d n:Int}{s k:ak}{az:List Expr}{r:Bool}(hd:¬d=0)(hS:s.length<4611686018427387904)(hK:k.length<4611686018427387904)(h:wk ⟨2,n,s,k,az⟩=true->xJ (yr RK) d az ((List.length az:Nat):Int) KK 0=some (bif r then Sum.inr ()else Sum.inl false)):yr (RK+1) ⟨2,n,s,k,az⟩ d=some (wk ⟨2,n,s,k,az⟩&&r):=by
 rw[zX0 ]at h ⊢;rw[yr];simp only[df hd,KR,AU,kW,yZ hS,yZ hK,Bool.not_true,Bool.not_false,cf,ctQ,bsQ,xM,Int.reduceEq,Int.reduceLT,Int.reduceGE,Int.reduceLE,decide_true,decide_false,ge_iff_le]
 cases he:zN k with
 |false=>simp only[Bool.and_false,Bool.false_and];rfl
 |true =>
  simp only[Bool.not_true,cf,bsQ,xM,kW,decide_true]
  cases ha:decide (((az.length:Nat):Int)=0)<;>cases hb:decide (n=0)<;>cases hc:zN s<;>(first|rfl|(rw[ha,hb,hc,he]at h;rw[h rfl];cases r<;>rfl))
def zX1{n:Int}{s k:ak}{az:List Expr} :wk ⟨3,n,s,k,az⟩=(decide (((az.length:Nat):Int)=0)&&(decide (n=0)&&(zN s&&decide (k=[])))):=by
 simp[wk,qC]
def r_3{RK:Nat}{d n:Int}{s k:ak}{az:List Expr}{r:Bool}(hd:¬d=0)(hS:s.length<4611686018427387904)(hK:k.length<4611686018427387904)(h:wk ⟨3,n,s,k,az⟩=true->xJ (yr RK) d az ((List.length az:Nat):Int) KK 0=some (bif r then Sum.inr ()else Sum.inl false)):yr (RK+1) ⟨3,n,s,k,az⟩ d=some (wk ⟨3,n,s,k,az⟩&&r):=by
 rw[zX1 ]at h ⊢;rw[yr];simp only[df hd,KR,AU,kW,yZ hS,yZ hK,Bool.not_true,Bool.not_false,cf,ctQ,bsQ,xM,Int.reduceEq,Int.reduceLT,Int.reduceGE,Int.reduceLE,decide_true,decide_false,ge_iff_le]
 cases ha:decide (((az.length:Nat):Int)=0)<;>cases hb:decide (n=0)<;>cases hc:zN s<;>cases he:decide (k=[])<;>(first|rfl|(rw[ha,hb,hc,he]at h;rw[h rfl];cases r<;>rfl))
def zX2{n:Int}{s k:ak}{az:List Expr} :wk ⟨9,n,s,k,az⟩=(decide (((az.length:Nat):Int)=1)&&(decide (n=0)&&(decide (s=[])&&decide (k=[])))):=by
 simp[wk,qC]
def r_9{RK:Nat}{d n:Int}{s k:ak}{az:List Expr}{r:Bool}(hd:¬d=0)(hS:s.length<4611686018427387904)(hK:k.length<4611686018427387904)(h:wk ⟨9,n,s,k,az⟩=true->xJ (yr RK) d az ((List.length az:Nat):Int) KK 0=some (bif r then Sum.inr ()else Sum.inl false)):yr (RK+1) ⟨9,n,s,k,az⟩ d=some (wk ⟨9,n,s,k,az⟩&&r):=by
 rw[zX2 ]at h ⊢;rw[yr];simp only[df hd,KR,AU,kW,yZ hS,yZ hK,Bool.not_true,Bool.not_false,cf,ctQ,bsQ,xM,Int.reduceEq,Int.reduceLT,Int.reduceGE,Int.reduceLE,decide_true,decide_false,ge_iff_le]
 cases ha:decide (((az.length:Nat):Int)=1)<;>cases hb:decide (n=0)<;>cases hc:decide (s=[])<;>cases he:decide (k=[])<;>(first|rfl|(rw[ha,hb,hc,he]at h;rw[h rfl];cases r<;>rfl))
def zR0{n:Int}{s k:ak}{az:List Expr} :wk ⟨15,n,s,k,az⟩=(decide (((az.length:Nat):Int)=1)&&(decide (n=0)&&(decide (s=[])&&decide (k=[])))):=by
 simp[wk,qC]
def r_15{RK:Nat}{d n:Int}{s k:ak}{az:List Expr}{r:Bool}(hd:¬d=0)(hS:s.length<4611686018427387904)(hK:k.length<4611686018427387904)(h:wk ⟨15,n,s,k,az⟩=true->xJ (yr RK) d az ((List.length az:Nat):Int) KK 0=some (bif r then Sum.inr ()else Sum.inl false)):yr (RK+1) ⟨15,n,s,k,az⟩ d=some (wk ⟨15,n,s,k,az⟩&&r):=by
 rw[zR0 ]at h ⊢;rw[yr];simp only[df hd,KR,AU,kW,yZ hS,yZ hK,Bool.not_true,Bool.not_false,cf,ctQ,bsQ,xM,Int.reduceEq,Int.reduceLT,Int.reduceGE,Int.reduceLE,decide_true,decide_false,ge_iff_le]
 cases ha:decide (((az.length:Nat):Int)=1)<;>cases hb:decide (n=0)<;>cases hc:decide (s=[])<;>cases he:decide (k=[])<;>(first|rfl|(rw[ha,hb,hc,he]at h;rw[h rfl];cases r<;>rfl))
def zR1{n:Int}{s k:ak}{az:List Expr} :wk ⟨16,n,s,k,az⟩=(decide (((az.length:Nat):Int)=3)&&(decide (n=0)&&(decide (s=[])&&decide (k=[])))):=by
 simp[wk,qC]
def r_16{RK:Nat}{d n:Int}{s k:ak}{az:List Expr}{r:Bool}(hd:¬d=0)(hS:s.length<4611686018427387904)(hK:k.length<4611686018427387904)(h:wk ⟨16,n,s,k,az⟩=true->xJ (yr RK) d az ((List.length az:Nat):Int) KK 0=some (bif r then Sum.inr ()else Sum.inl false)):yr (RK+1) ⟨16,n,s,k,az⟩ d=some (wk ⟨16,n,s,k,az⟩&&r):=by
 rw[zR1 ]at h ⊢;rw[yr];simp only[df hd,KR,AU,kW,yZ hS,yZ hK,Bool.not_true,Bool.not_false,cf,ctQ,bsQ,xM,Int.reduceEq,Int.reduceLT,Int.reduceGE,Int.reduceLE,decide_true,decide_false,ge_iff_le]
 cases ha:decide (((az.length:Nat):Int)=3)<;>cases hb:decide (n=0)<;>cases hc:decide (s=[])<;>cases he:decide (k=[])<;>(first|rfl|(rw[ha,hb,hc,he]at h;rw[h rfl];cases r<;>rfl))
def zX3{op n:Int}{s k:ak}{az:List Expr}(hlo:0<=op)(hhi:op<17)(h0:¬op=0)(h1:¬op=1)(h2:¬op=2)(h3:¬op=3)(h9:¬op=9)(h15:¬op=15)(h16:¬op=16)(h3l:¬op<=3):wk ⟨op,n,s,k,az⟩=(decide (((az.length:Nat):Int)=2)&&(decide (n=0)&&(decide (s=[])&&decide (k=[])))):=by
 simp[wk,qC,h0,h1,h2,h3,h9,h15,h16,h3l,hlo,hhi]
def r_b{RK:Nat}{op d n:Int}{s k:ak}{az:List Expr}{r:Bool}(hlo:0<=op)(hhi:op<17)(h0:¬op=0)(h1:¬op=1)(h2:¬op=2)(h3:¬op=3)(h9:¬op=9)(h15:¬op=15)(h16:¬op=16)(h3l:¬op<=3)(hd:¬d=0)(hS:s.length<4611686018427387904)(hK:k.length<4611686018427387904)(h:wk ⟨op,n,s,k,az⟩=true->xJ (yr RK) d az ((List.length az:Nat):Int) KK 0=some (bif r then Sum.inr ()else Sum.inl false)):yr (RK+1) ⟨op,n,s,k,az⟩ d=some (wk ⟨op,n,s,k,az⟩&&r):=by
 rw[zX3 hlo hhi h0 h1 h2 h3 h9 h15 h16 h3l]at h ⊢;rw[yr];simp only[df h0,df h1,df h2,df h3,df h9,df h15,df h16,df h3l,df (Int.not_lt.2 hlo),df (Int.not_le.2 hhi),df hd,KR,AU,kW,yZ hS,yZ hK,Bool.not_true,Bool.not_false,cf,ctQ,bsQ,xM,Int.reduceEq,Int.reduceLT,Int.reduceGE,Int.reduceLE,decide_true,decide_false,ge_iff_le]
 cases ha:decide (((az.length:Nat):Int)=2)<;>cases hb:decide (n=0)<;>cases hc:decide (s=[])<;>cases he:decide (k=[])<;>(first|rfl|(rw[ha,hb,hc,he]at h;rw[h rfl];cases r<;>rfl))
def zX4{RK:Nat}{d:Int}{e:Expr}{r:Bool}(hd:¬d=0)(hS:e.S.length<4611686018427387904)(hK:e.Key.length<4611686018427387904)(h:wk e=true->xJ (yr RK) d e.Args ((List.length e.Args:Nat):Int) KK 0=some (bif r then Sum.inr ()else Sum.inl false)):yr (RK+1) e d=some (wk e&&r):=by
 obtain⟨op,n,s,k,az⟩:=e;by_cases hlo:0<=op
 ·by_cases hhi:op<17
  ·obtain rfl|rfl|rfl|rfl|rfl|rfl|rfl|⟨h0,h1,h2,h3,h9,h15,h16,h3l⟩:=zJ7 hlo hhi
   ·exact r_0 hd hS hK h
   ·exact r_1 hd hS hK h
   ·exact r_2 hd hS hK h
   ·exact r_3 hd hS hK h
   ·exact r_9 hd hS hK h
   ·exact r_15 hd hS hK h
   ·exact r_16 hd hS hK h
   ·exact r_b hlo hhi h0 h1 h2 h3 h9 h15 h16 h3l hd hS hK h
  ·have:wk ⟨op,n,s,k,az⟩=false:=by simp[wk,hhi]
   rw[this,yr];simp only[df hd,df (show ¬op<0 by omega),dt (show op>=17 by omega)];rfl
 ·have:wk ⟨op,n,s,k,az⟩=false:=by simp[wk,hlo]
  rw[this,yr];simp only[df hd,dt (show op<0 by omega)];rfl
def zR2{e:Expr}(h:Am e=true):e.S.length<=30/\e.Key.length<=30:=by
 obtain⟨op,n,s,k,az⟩:=e;rw[Am]at h;simp only[bn,decide_eq_true_eq]at h;exact h.2
def zyw{e x:Expr}(h:Am e=true)(hx:x∈e.Args):Am x=true:=by
 obtain⟨op,n,s,k,az⟩:=e;rw[Am,Y0]at h;simp only[bn]at h;exact List.all_eq_true.1 h.1 x hx
def zJ8{e:Expr}{n:Nat}(h:jv e<=n):e.Args.length<n:=by
 obtain⟨op,m,s,k,az⟩:=e;rw[jv]at h;have:=Qy az
 show az.length<n
 omega
def zJ9{e x:Expr}{n:Nat}(h:jv e<=n)(hx:x∈e.Args):jv x<=n:=by
 obtain⟨op,m,s,k,az⟩:=e;rw[jv]at h;have:=zbg (show x∈az from hx);omega
def zKa:∀(d:Nat)(e:Expr)(K:Nat),d<K->d<=1000->jv e<=5000->Am e=true->yr K e (d:Int)=some (okE d e):=by
 intro d
 induction d with
 |zero =>
  intro e K hK _ _ _
  obtain⟨K,rfl⟩:∃k,K=k+1:=⟨K-1,ab⟩
  rw[yr];rfl
 |succ d ih =>
  intro e K hK hd hn hs
  obtain⟨K,rfl⟩:∃k,K=k+1:=⟨K-1,ab⟩
  have h1:=zR2 hs;have hz:=zJ8 hn;rw[okE]
  refine zX4 ab ab ab λ_=>?_
  refine kV e.Args (okE d) _ (λq=>(idx e.Args q).bind λx1=>(yr K (Expr.mk x1.Op x1.N x1.S x1.Key x1.Args) (w64 (((d+1:Nat):Int)-1))).bind λx2=>some (!x2)) ab (λK q=>?_) λi x hx=>?_
  ·rw[xJ]
   simp only[Option.bind_assoc,bsQ]
  ·have hx':=List.mem_of_getElem? hx
   rw[ye hx,bsQ,yW,wa ab ab,show(((d+1:Nat):Int)-1)=(d:Int) by omega,ih x K ab ab (zJ9 hn hx') (zyw hs hx')];rfl
def zKb{e:Expr}(h:zzi e=true):jv e<=200/\Am e=true:=by
 unfold zzi at h;rw[bn]at h;exact⟨of_decide_eq_true h.1,h.2⟩
def WC{e:Expr}(h:zEe e=true):jv e<=5000/\Am e=true:=by
 unfold zEe at h;simp only[bn,decide_eq_true_eq]at h;exact h
def ZJ{e:Expr}(h:zEe e=true):jR e=some (okE 12 e):=by
 unfold jR;obtain⟨h1,h2⟩:=WC h;rw[yW,show(12:Int)=((12:Nat):Int) from rfl,zKa 12 e KK (jz ab) ab ab h2];rfl
def zeh{a b:Int}{l:List Int}(h:l.length<1000):yd a b l=some (l.all λn=>decide (a<=n)&&decide (n<=b)):=by
 unfold yd;rw[kV l (λn=>decide (a<=n)&&decide (n<=b)) (Af a b l (List.length l:Nat)) (λq=>(idx l q).bind λx1=>(bif (decide (x1<a))then some true else some (decide (x1>b)))) ab (λK q=>?_) λi x hx=>?_]
 ·cases l.all λn=>decide (a<=n)&&decide (n<=b)<;>rfl
 ·rw[Af]
  simp only[Option.bind_assoc]
 ·rw[ye hx,bsQ]
  by_cases h1:a<=x
  ·rw[df (show ¬x<a by omega),dt h1,cf,Bool.true_and]
   by_cases h2:x<=b
   ·rw[dt h2,df (show ¬x>b by omega)];rfl
   ·rw[df h2,dt (show x>b by omega)];rfl
  ·rw[dt (show x<a by omega),df h1];rfl
def Ao{a b x:Int}:yd a b [x]=some (pd (a<=x/\x<=b)):=by
 rw[zeh af];exact congrArg some (Ak af)
def Y2{a b x y:Int}:yd a b [x,y]=some (pd ((a<=x/\x<=b)/\(a<=y/\y<=b))):=by
 rw[zeh af];exact congrArg some (Ak af)
def zR3{a b x y z:Int}:yd a b [x,y,z]=some (pd ((a<=x/\x<=b)/\(a<=y/\y<=b)/\(a<=z/\z<=b))):=by
 rw[zeh af];exact congrArg some (Ak af)
def zEj:Expr:=⟨0,0,[],[],[]⟩
def Vp(r:zO):Prop :=
 (0<=r.Kind/\r.Kind<=3)/\(r.Kind=0->okE 12 r.Test=true)/\(¬r.Kind=0->r.Test=zEj) /\
 (r.Kind=1->(0<=r.zy.Side/\r.zy.Side<=3)/\(0<=r.zy.Base/\r.zy.Base<=4096)/\(0<=r.zy.Num/\r.zy.Num<=4096)/\(1<=r.zy.Den/\r.zy.Den<=4096))/\(¬r.Kind=1->r.zy=⟨0,0,0,0⟩) /\
 (r.Kind=2->1<=r.Uses/\r.Uses<=63)/\(r.Kind=3->(0<=r.Uses/\r.Uses<=5)/\(0<=r.Other/\r.Other<=5)/\(0<=r.N/\r.N<=1048576)) /\
 (¬r.Kind=2->¬r.Kind=3->r.Uses=0)/\(¬r.Kind=3->r.Other=0/\r.N=0)
def zX5(r:zO):Prop:=(0<=r.From/\r.From<=1073741824)/\(0<=r.Grace/\r.Grace<=1073741824)/\(0<=r.Until/\r.Until<=1073741824)/\(r.Until=0∨r.From<r.Until)
def WD(r:zO):Prop:=((r.Zones.all zN=true/\r.Except.all zN=true)/\zX5 r)/\Vp r
def zpf{l:List ak}(h:zNp l=true):l.length<=10/\∀s∈l,s.length<=30:=by
 unfold zNp at h;simp only[bn,decide_eq_true_eq,List.all_eq_true]at h;exact⟨h.2,h.1⟩
def zKc{r:zO}(h:zNq r=true):r.Name.length<=30/\(r.Zones.length<=10/\∀s∈r.Zones,s.length<=30)/\(r.Except.length<=10/\∀s∈r.Except,s.length<=30)/\zzi r.Test=true:=by
 unfold zNq at h;simp only[bn,decide_eq_true_eq]at h;exact⟨h.1,zpf h.2.1,zpf h.2.2.1,h.2.2.2⟩
def zpg{l:List ak}(h:zT4 l=true):l.length<=3000/\∀s∈l,s.length<=30:=by
 unfold zT4 at h;simp only[bn,decide_eq_true_eq,List.all_eq_true]at h;exact⟨h.2,h.1⟩
def WE{r:zO}(h:zGp r=true):r.Name.length<=30/\(r.Zones.length<=3000/\∀s∈r.Zones,s.length<=30)/\(r.Except.length<=3000/\∀s∈r.Except,s.length<=30)/\zEe r.Test=true:=by
 unfold zGp at h;simp only[bn,decide_eq_true_eq]at h;exact⟨h.1,zpg h.2.1,zpg h.2.2.1,h.2.2.2⟩
def zyx{e:Expr}(h:zEe e=true):QU e:=by
 have:=(WC h).1;unfold QU;omega
def zhz{e:Expr}(h:zzi e=true):QU e:=by
 have:=(zKb h).1;unfold QU;omega
def zEk{A B C:Bool}{un fr:Int}:((bif (!A)then some true else(bif (!B)then some true else(bif (!C)then some true else(bif (!(decide (un=0)))then some (decide (un<=fr))else some false)))):Option Bool)=some (!(A&&(B&&(C&&pd (un=0∨fr<un))))):=by
 have:pd (un=0∨fr<un)=(decide (un=0)||decide (fr<un)):=(Ak af).symm;rw[this]
 have lt:decide (un<=fr)=!(decide (fr<un)):=by
  by_cases h:un<=fr
  ·rw[dt h,df ab];rfl
  ·rw[df h,dt ab];rfl
 rw[lt];cases A<;>cases B<;>cases C<;>cases decide (un=0)<;>rfl
def zso{p:Prop}(h:p):pd p=true:=ju.2 h
def zEl{r:zO}(h:zGp r=true):Ag r=some (pd (WD r)):=by
 obtain⟨_,⟨z1,z2⟩,⟨x1,x2⟩,te⟩:=WE h;obtain⟨nm,zs,ex,fr,un,gr,va,ki,t,⟨ps,pb,pn,pdn⟩,us,ot,n⟩:=r;simp only at z1 z2 x1 x2 te;have n1:=zkv (u:=false) (l:=zs) ab (λs hs=>by have:=z2 s hs;omega);have n2:=zkv (u:=false) (l:=ex) ab (λs hs=>by have:=x2 s hs;omega);rw[ZI]at n1 n2
 have sm:∀x,qt ⟨nm,zs,ex,fr,un,gr,va,ki,t,⟨ps,pb,pn,pdn⟩,us,ot,n⟩ x=some (pd ((⟨nm,zs,ex,fr,un,gr,va,ki,t,⟨ps,pb,pn,pdn⟩,us,ot,n⟩:zO)=x)):=λx=>zpa (a:=⟨nm,zs,ex,fr,un,gr,va,ki,t,⟨ps,pb,pn,pdn⟩,us,ot,n⟩) (by show zs.length<_;omega) (by show ex.length<_;omega) (zyx te)
 have hp:pd (WD ⟨nm,zs,ex,fr,un,gr,va,ki,t,⟨ps,pb,pn,pdn⟩,us,ot,n⟩)=((zs.all zN&&(ex.all zN&&(pd ((0<=fr/\fr<=1073741824)/\(0<=gr/\gr<=1073741824)/\(0<=un/\un<=1073741824))&&pd (un=0∨fr<un))))&&pd (Vp ⟨nm,zs,ex,fr,un,gr,va,ki,t,⟨ps,pb,pn,pdn⟩,us,ot,n⟩)):=by
  refine(Ak ?_).symm;simp only[bn,ju,WD,zX5];constructor
  ·rintro⟨⟨a,b,⟨c,d,e⟩,f⟩,g⟩;exact⟨⟨⟨a,b⟩,c,d,e,f⟩,g⟩
  ·rintro⟨⟨⟨a,b⟩,c,d,e,f⟩,g⟩;exact⟨⟨a,b,⟨c,d,e⟩,f⟩,g⟩
 rw[hp];unfold Ag;simp only[n1,n2,zR3,bsQ];rw[zEk,bsQ];cases hh:(zs.all zN&&(ex.all zN&&(pd ((0<=fr/\fr<=1073741824)/\(0<=gr/\gr<=1073741824)/\(0<=un/\un<=1073741824))&&pd (un=0∨fr<un))))
 ·rfl
 simp only[Bool.not_true,cf,Bool.true_and];by_cases k0:ki=0
 ·subst k0
  simp only[decide_true,ctQ,yW,ZJ te,bsQ]
  have hb:pd (Vp ⟨nm,zs,ex,fr,un,gr,va,0,t,⟨ps,pb,pn,pdn⟩,us,ot,n⟩)=(okE 12 t&&pd ((⟨nm,zs,ex,fr,un,gr,va,0,t,⟨ps,pb,pn,pdn⟩,us,ot,n⟩:zO)=⟨nm,zs,ex,fr,un,gr,va,0,t,⟨0,0,0,0⟩,0,0,0⟩)):=by
   refine(Ak ?_).symm;simp only[bn,ju,Vp,zO.mk.injEq,zy.mk.injEq];simp
  rw[hb,sm];cases okE 12 t<;>rfl
 ·by_cases k1:ki=1
  ·subst k1
   simp only[df k0,decide_true,ctQ,cf,yW,Ao,Y2,bsQ]
   have hb:pd (Vp ⟨nm,zs,ex,fr,un,gr,va,1,t,⟨ps,pb,pn,pdn⟩,us,ot,n⟩)=(pd (0<=ps/\ps<=3)&&(pd ((0<=pb/\pb<=4096)/\(0<=pn/\pn<=4096))&&(pd (1<=pdn/\pdn<=4096)&&pd ((⟨nm,zs,ex,fr,un,gr,va,1,t,⟨ps,pb,pn,pdn⟩,us,ot,n⟩:zO)=⟨nm,zs,ex,fr,un,gr,va,1,⟨0,0,[],[],[]⟩,⟨ps,pb,pn,pdn⟩,0,0,0⟩)))):=by
    refine(Ak ?_).symm;simp only[bn,ju,Vp,zO.mk.injEq,zy.mk.injEq,zEj];simp
    grind
   rw[hb];cases pd (0<=ps/\ps<=3)
   ·rfl
   cases pd ((0<=pb/\pb<=4096)/\(0<=pn/\pn<=4096))
   ·rfl
   cases pd (1<=pdn/\pdn<=4096)
   ·rfl
   simp only[ctQ,bsQ,sm,Bool.true_and]
  ·by_cases k2:ki=2
   ·subst k2
    simp only[df k0,df k1,decide_true,ctQ,cf,yW,Ao,Y2,bsQ]
    have hb:pd (Vp ⟨nm,zs,ex,fr,un,gr,va,2,t,⟨ps,pb,pn,pdn⟩,us,ot,n⟩)=(pd (1<=us/\us<=63)&&pd ((⟨nm,zs,ex,fr,un,gr,va,2,t,⟨ps,pb,pn,pdn⟩,us,ot,n⟩:zO)=⟨nm,zs,ex,fr,un,gr,va,2,⟨0,0,[],[],[]⟩,⟨0,0,0,0⟩,us,0,0⟩)):=by
     refine(Ak ?_).symm;simp only[bn,ju,Vp,zO.mk.injEq,zy.mk.injEq,zEj];simp
     grind
    rw[hb];cases pd (1<=us/\us<=63)
    ·rfl
    simp only[ctQ,bsQ,sm,Bool.true_and]
   ·by_cases k3:ki=3
    ·subst k3
     simp only[df k0,df k1,df k2,decide_true,ctQ,cf,yW,Ao,Y2,bsQ]
     have hb:pd (Vp ⟨nm,zs,ex,fr,un,gr,va,3,t,⟨ps,pb,pn,pdn⟩,us,ot,n⟩)=(pd ((0<=us/\us<=5)/\(0<=ot/\ot<=5))&&(pd (0<=n/\n<=1048576)&&pd ((⟨nm,zs,ex,fr,un,gr,va,3,t,⟨ps,pb,pn,pdn⟩,us,ot,n⟩:zO)=⟨nm,zs,ex,fr,un,gr,va,3,⟨0,0,[],[],[]⟩,⟨0,0,0,0⟩,us,ot,n⟩))):=by
      refine(Ak ?_).symm;simp only[bn,ju,Vp,zO.mk.injEq,zy.mk.injEq,zEj];simp
      grind
     rw[hb];cases pd ((0<=us/\us<=5)/\(0<=ot/\ot<=5))
     ·rfl
     cases pd (0<=n/\n<=1048576)
     ·rfl
     simp only[ctQ,bsQ,sm,Bool.true_and]
    ·simp only[df k0,df k1,df k2,df k3,cf,bsQ]
     have hb:pd (Vp ⟨nm,zs,ex,fr,un,gr,va,ki,t,⟨ps,pb,pn,pdn⟩,us,ot,n⟩)=false:=by
      refine(Ak (b:=false) ⟨λh=>(by cases h),λh=>?_⟩).symm;obtain⟨⟨h1,h2⟩,_⟩:=h;simp only at h1 h2;omega
     rw[hb]
def Vq{α:Type}(l:List α)(P:α->Prop)(L:Nat->Int->Option (Bool⊕Unit))(B:Int->Option Bool)(hs:l.length<4611686018427387904)
  (hL:∀K q,L (K+1) q=(bif (decide (q<((List.length l:Nat):Int)))then(B q).bind λr=>(bif r then some (Sum.inl false)else L K (w64 (q+1)))else some (Sum.inr ())))
  (hB:∀(i:Nat) x,l[i]?=some x->B (i:Int)=some (!(pd (P x)))):L KK 0=some (bif pd (∀x∈l,P x)then Sum.inr ()else Sum.inl false):=by
 rw[kV l (λx=>pd (P x)) L B ab hL hB];have:l.all (λx=>pd (P x))=pd (∀x∈l,P x):=Ak (by simp only[List.all_eq_true,ju]);rw[this]
def WG(p:zg):Prop:=(0<=p.X/\p.X<=1048576)/\(0<=p.Y/\p.Y<=1048576)/\(0<=p.Z_/\p.Z_<=4096)
def zzj(p:zg):Prop:=(-4096<=p.X/\p.X<=4096)/\(-4096<=p.Y/\p.Y<=4096)/\(1<=p.Z_/\p.Z_<=4096)
def AV(t:Table):Prop:=(t.Rows.length<=60/\An true [] (t.Rows.map Entry.Name)=true)/\(-1099511627776<=t.Else/\t.Else<=1099511627776)/\∀x∈t.Rows,-1099511627776<=x.N/\x.N<=1099511627776
def zKd(c:Cap):Prop:=(0<=c.Load/\c.Load<=2)/\(0<=c.Limit/\c.Limit<=1099511627776)/\Hg c.Corners
def Y3(v:View):Prop:=(0<=v.Least/\v.Least<=20)/\(1<=((v.Targets.length:Nat):Int)/\((v.Targets.length:Nat):Int)<=20)/\WG v.Eye/\∀x∈v.Targets,WG x
def j3{α:Type}(l:List α)(g:α->ak)(m:Nat):Prop:=l.length<=m/\An true [] (l.map g)=true
def zR4(p:yX):Prop:=(∀d∈p.Defs,okE 12 d.Body=true)/\(∀t∈p.Tables,AV t)/\(∀z∈p.Zones,Hg z.Corners)/\(∀r∈p.Rules,WD r)/\(∀c∈p.Caps,zKd c)/\(∀v∈p.Views,Y3 v)/\(∀d∈p.Sun,zzj d)
def KT(p:yX):Prop :=
 (j3 p.Defs Def.Name 60/\j3 p.Tables Table.Name 60/\j3 p.Zones yp.Name 60/\j3 p.Rules zO.Name 200/\j3 p.Caps Cap.Name 30/\j3 p.Views View.Name 60)/\zR4 p/\(0<=p.Hours/\p.Hours<=24)/\p.Sun.length<=24
def Vr{α:Type}{l:List α}{g:α->ak}{m:Nat}:(decide (l.length<=m)&&An true [] (l.map g))=pd (j3 l g m):=Ak (by simp[j3])
def zR5{l:List Def}(hs:l.length<=1000)(hn:∀x∈l,x.Name.length<4611686018427387904):za0 l 60=some (pd (j3 l Def.Name 60)):=by
 rw[<- Vr];unfold za0
 exact qB l Def.Name 60 (JC l 60 (List.length l:Nat)) (λx=>some x.Name) hs hn (λK q=>rfl) λx=>rfl
def zR6{l:List Table}(hs:l.length<=1000)(hn:∀x∈l,x.Name.length<4611686018427387904):Qn l 60=some (pd (j3 l Table.Name 60)):=by
 rw[<- Vr];unfold Qn
 exact qB l Table.Name 60 (uQ l 60 (List.length l:Nat)) (λx=>some x.Name) hs hn (λK q=>rfl) λx=>rfl
def zR7{l:List yp}(hs:l.length<=1000)(hn:∀x∈l,x.Name.length<4611686018427387904):Qo l 60=some (pd (j3 l yp.Name 60)):=by
 rw[<- Vr];unfold Qo
 exact qB l yp.Name 60 (uR l 60 (List.length l:Nat)) (λx=>some x.Name) hs hn (λK q=>rfl) λx=>rfl
def zR8{l:List zO}(hs:l.length<=1000)(hn:∀x∈l,x.Name.length<4611686018427387904):Qp l 200=some (pd (j3 l zO.Name 200)):=by
 rw[<- Vr];unfold Qp
 exact qB l zO.Name 200 (uS l 200 (List.length l:Nat)) (λx=>some x.Name) hs hn (λK q=>rfl) λx=>rfl
def zR9{l:List Cap}(hs:l.length<=1000)(hn:∀x∈l,x.Name.length<4611686018427387904):Qq l 30=some (pd (j3 l Cap.Name 30)):=by
 rw[<- Vr];unfold Qq
 exact qB l Cap.Name 30 (uT l 30 (List.length l:Nat)) (λx=>some x.Name) hs hn (λK q=>rfl) λx=>rfl
def zSa{l:List View}(hs:l.length<=1000)(hn:∀x∈l,x.Name.length<4611686018427387904):Qr l 60=some (pd (j3 l View.Name 60)):=by
 rw[<- Vr];unfold Qr
 exact qB l View.Name 60 (uU l 60 (List.length l:Nat)) (λx=>some x.Name) hs hn (λK q=>rfl) λx=>rfl
def zSb{l:List Entry}(hs:l.length<=1000)(hn:∀x∈l,x.Name.length<4611686018427387904):Qs l 60=some (pd (j3 l Entry.Name 60)):=by
 rw[<- Vr];unfold Qs
 exact qB l Entry.Name 60 (uV l 60 (List.length l:Nat)) (λx=>some x.Name) hs hn (λK q=>rfl) λx=>rfl
structure zZ8(p:yX):Prop where
 d:p.Defs.length<=8
 t:p.Tables.length<=8
 z:p.Zones.length<=8
 r:p.Rules.length<=8
 c:p.Caps.length<=8
 v:p.Views.length<=8
 s:p.Sun.length<=64
 ds:∀x∈p.Defs,x.Name.length<=30/\zzi x.Body=true
 ts:∀x∈p.Tables,x.Name.length<=30/\x.Rows.length<=64/\∀y∈x.Rows,y.Name.length<=30
 zs:∀x∈p.Zones,x.Name.length<=30/\x.Corners.length<=64
 rs:∀x∈p.Rules,zNq x=true
 cs:∀x∈p.Caps,x.Name.length<=30/\x.Corners.length<=64
 vs:∀x∈p.Views,x.Name.length<=30/\x.Targets.length<=64
structure zX6(p:yX):Prop where
 d:p.Defs.length<=300
 t:p.Tables.length<=300
 z:p.Zones.length<=300
 r:p.Rules.length<=300
 c:p.Caps.length<=300
 v:p.Views.length<=300
 s:p.Sun.length<=64
 ds:∀x∈p.Defs,x.Name.length<=30/\zEe x.Body=true
 ts:∀x∈p.Tables,x.Name.length<=30/\x.Rows.length<=64/\∀y∈x.Rows,y.Name.length<=30
 zs:∀x∈p.Zones,x.Name.length<=30/\x.Corners.length<=64
 rs:∀x∈p.Rules,zGp x=true
 cs:∀x∈p.Caps,x.Name.length<=30/\x.Corners.length<=64
 vs:∀x∈p.Views,x.Name.length<=30/\x.Targets.length<=64
def zZ8.big{p:yX}(h:zZ8 p):zX6 p:=⟨by have:=h.d;omega,by have:=h.t;omega,by have:=h.z;omega,by have:=h.r;omega,by have:=h.c;omega,by have:=h.v;omega,h.s,λx hx=>⟨(h.ds x hx).1,zvr (h.ds x hx).2⟩,h.ts,h.zs,λx hx=>zJ4 (h.rs x hx),h.cs,h.vs⟩
def zSc{p:yX}(h:zXp p=true):zZ8 p:=by
 unfold zXp at h;simp only[bn,decide_eq_true_eq,List.all_eq_true,Bool.and_true,zT3]at h;obtain⟨⟨a1,a2,a3,a4,a5,a6,a7⟩,b1,b2,b3,b4,b5,b6⟩:=h;exact⟨a1,a2,a3,a4,a5,a6,a7,b1,b2,b3,b4,b5,b6⟩
def zX7{p:yX}(h:zZ8 p):FitP p:=by
 refine⟨⟨by have:=h.d;omega,λx hx=>zhz (h.ds x hx).2⟩,⟨by have:=h.t;omega,λx hx=>by have:=(h.ts x hx).2.1;omega⟩,⟨by have:=h.z;omega,λx hx=>by have:=(h.zs x hx).2;omega⟩,⟨by have:=h.r;omega,λx hx=>?_⟩,⟨by have:=h.c;omega,λx hx=>by have:=(h.cs x hx).2;omega⟩,⟨by have:=h.v;omega,λx hx=>by have:=(h.vs x hx).2;omega⟩,by have:=h.s;omega⟩;obtain⟨_,h2,h3,h4⟩:=zKc (h.rs x hx);exact⟨by have:=h2.1;omega,by have:=h3.1;omega,zhz h4⟩
def KU{o:Option Bool}{f:Option Bool}{g r:Prop}(h:o=some (pd g))(hr:g->f=some (!(pd r))):(o.bind λx=>bif (!x)then some true else f)=some (!(pd (g/\r))):=by
 rw[Al]
 exact zku h λhg=>hr (ju.1 hg)
def qP{o:Option Bool}{g:Prop}(h:o=some (pd g)):(o.bind λx=>some (!x))=some (!(pd g)):=by rw[h];rfl
def pdb{b:Bool}:some b=some (pd (b=true)):=congrArg some (Ak Iff.rfl)
section code
variable{c0:List Def}{c1:Int}{c2:List Table}{c3:List yp}{c4:List zO}{c5:List Cap}{c6:List View}{c7:List zg}{c8:Int}
def Rt_L1(hl:c0.length<=300)(h:∀x∈c0,x.Name.length<=30/\zEe x.Body=true):oB c0 (List.length c0:Nat) c2 c3 c4 c5 c6 c7 c8 KK 0=some (bif pd (∀d∈c0,okE 12 d.Body=true)then .inr ()else .inl false):=by
 refine Vq c0 (λd=>okE 12 d.Body=true) (oB c0 (List.length c0:Nat) c2 c3 c4 c5 c6 c7 c8) (λq=>(idx c0 q).bind λx1=>(jR (Expr.mk x1.Body.Op x1.Body.N x1.Body.S x1.Body.Key x1.Body.Args)).bind λx2=>some (!x2)) ab (λK q=>?_) λi x hx=>?_
 ·rw[oB]
  simp only[Option.bind_assoc,bsQ]
 ·rw[ye hx,bsQ,yW]
  exact qP ((ZJ (h x (List.mem_of_getElem? hx)).2).trans pdb)
def Rt_L2{c0:List Table}{c2:List Def}(hl:c0.length<=300)(h:∀x∈c0,x.Name.length<=30/\x.Rows.length<=64/\∀y∈x.Rows,y.Name.length<=30):qu c0 (List.length c0:Nat) c2 c3 c4 c5 c6 c7 c8 KK 0=some (bif pd (∀d∈c0,AV d)then .inr ()else .inl false):=by
 have key:=zbh c0 (λx=>pd (AV x)) (some (Sum.inr ())) (some (Sum.inl false)) (qu c0 (List.length c0:Nat) c2 c3 c4 c5 c6 c7 c8) ab (λK i x hx=>?_) (λK=>by rw[qu,ko];rfl)
 ·have:c0.all (λx=>pd (AV x))=pd (∀x∈c0,AV x):=Ak (by simp only[List.all_eq_true,ju])
  rw[key,this];cases pd (∀x∈c0,AV x)<;>rfl
 ·have hi:=AA hx
  obtain⟨_,h2,h3⟩:=h x (List.mem_of_getElem? hx);rw[qu,HQ hx,ctQ,ye hx,bsQ,xB ab];rw[KU (zSb (l:=x.Rows) ab (λy hy=>by have:=h3 y hy;omega)) (λ_=>qP Ao),bsQ]
  have hp:pd (AV x)=(pd (j3 x.Rows Entry.Name 60/\-1099511627776<=x.Else/\x.Else<=1099511627776)&&pd (∀y∈x.Rows,-1099511627776<=y.N/\y.N<=1099511627776)):=by
   rw[<- Al];exact JN ⟨λ⟨a,b,c⟩=>⟨⟨a,b⟩,c⟩,λ⟨⟨a,b⟩,c⟩=>⟨a,b,c⟩⟩
  simp only[hp];cases pd (j3 x.Rows Entry.Name 60/\-1099511627776<=x.Else/\x.Else<=1099511627776)
  ·rfl
  rw[Bool.not_true,cf,Bool.true_and];rw[Vq x.Rows (λy=>-1099511627776<=y.N/\y.N<=1099511627776) (Hz c0 (List.length c0:Nat) (i:Int) x.Rows (List.length x.Rows:Nat) c2 c3 c4 c5 c6 c7 c8) (λq=>(idx x.Rows q).bind λx1=>(yd (-1099511627776) 1099511627776 ([x1.N]:List Int)).bind λx2=>some (!x2)) ab (λK q=>?_) λj y hy=>?_]
  ·cases pd (∀y∈x.Rows,-1099511627776<=y.N/\y.N<=1099511627776)<;>rfl
  ·rw[Hz]
   simp only[Option.bind_assoc,bsQ]
  ·rw[ye hy,bsQ]
   exact qP Ao
def Rt_L4{c0:List yp}{c2:List Def}{c3:List Table}(hl:c0.length<=300):oC c0 (List.length c0:Nat) c2 c3 c4 c5 c6 c7 c8 KK 0=some (bif pd (∀d∈c0,Hg d.Corners)then .inr ()else .inl false):=by
 refine Vq c0 (λd=>Hg d.Corners) (oC c0 (List.length c0:Nat) c2 c3 c4 c5 c6 c7 c8) (λq=>(idx c0 q).bind λx1=>(wV x1.Corners).bind λx2=>some (!x2)) ab (λK q=>?_) λi x hx=>?_
 ·rw[oC]
  simp only[Option.bind_assoc,bsQ]
 ·rw[ye hx,bsQ]
  exact qP zeg
def Rt_L5{c0:List zO}{c2:List Def}{c3:List Table}{c4:List yp}(hl:c0.length<=300)(h:∀x∈c0,zGp x=true):oD c0 (List.length c0:Nat) c2 c3 c4 c5 c6 c7 c8 KK 0=some (bif pd (∀d∈c0,WD d)then .inr ()else .inl false):=by
 refine Vq c0 WD (oD c0 (List.length c0:Nat) c2 c3 c4 c5 c6 c7 c8) (λq=>(idx c0 q).bind λx1=>(Ag (zO.mk x1.Name x1.Zones x1.Except x1.From x1.Until x1.Grace x1.Vary x1.Kind (Expr.mk x1.Test.Op x1.Test.N x1.Test.S x1.Test.Key x1.Test.Args) x1.zy x1.Uses x1.Other x1.N)).bind λx2=>some (!x2)) ab (λK q=>?_) λi x hx=>?_
 ·rw[oD]
  simp only[Option.bind_assoc,bsQ]
 ·rw[ye hx,bsQ,yW]
  exact qP (zEl (h x (List.mem_of_getElem? hx)))
def Rt_L6{c0:List Cap}{c2:List Def}{c3:List Table}{c4:List yp}{c5:List zO}(hl:c0.length<=300):oE c0 (List.length c0:Nat) c2 c3 c4 c5 c6 c7 c8 KK 0=some (bif pd (∀d∈c0,zKd d)then .inr ()else .inl false):=by
 refine Vq c0 zKd (oE c0 (List.length c0:Nat) c2 c3 c4 c5 c6 c7 c8) (λq=>(idx c0 q).bind λx1=>((yd 0 2 ([x1.Load]:List Int)).bind λx3=>(bif (!x3)then some true else(yd 0 1099511627776 ([x1.Limit]:List Int)).bind λx4=>(bif (!x4)then some true else(wV x1.Corners).bind λx5=>some (!x5))))) ab (λK q=>?_) λi x hx=>?_
 ·rw[oE]
  simp only[Option.bind_assoc]
 ·rw[ye hx,bsQ]
  exact KU Ao λ_=>KU Ao λ_=>qP zeg
def Rt_L7{c0:List View}{c2:List Def}{c3:List Table}{c4:List yp}{c5:List zO}{c6:List Cap}(hl:c0.length<=300)(h:∀x∈c0,x.Name.length<=30/\x.Targets.length<=64):qv c0 (List.length c0:Nat) c2 c3 c4 c5 c6 c7 c8 KK 0=some (bif pd (∀d∈c0,Y3 d)then .inr ()else .inl false):=by
 have key:=zbh c0 (λx=>pd (Y3 x)) (some (Sum.inr ())) (some (Sum.inl false)) (qv c0 (List.length c0:Nat) c2 c3 c4 c5 c6 c7 c8) ab (λK i x hx=>?_) (λK=>by rw[qv,ko];rfl)
 ·have:c0.all (λx=>pd (Y3 x))=pd (∀x∈c0,Y3 x):=Ak (by simp only[List.all_eq_true,ju])
  rw[key,this];cases pd (∀x∈c0,Y3 x)<;>rfl
 ·have hi:=AA hx
  obtain⟨_,h2⟩:=h x (List.mem_of_getElem? hx);rw[qv,HQ hx,ctQ,ye hx,bsQ,xB ab];rw[KU Ao (λ_=>qP Ao),bsQ]
  have hp:pd (Y3 x)=(pd ((0<=x.Least/\x.Least<=20)/\(1<=((x.Targets.length:Nat):Int)/\((x.Targets.length:Nat):Int)<=20))&&pd (∀y∈([x.Eye]++x.Targets),WG y)):=by
   rw[<- Al]
   exact JN ⟨λ⟨a,b,c,d⟩=>⟨⟨a,b⟩,λy hy=>by
    rcases List.mem_append.1 hy with h1|h1
    ·rw[msQ.1 h1];exact c
    ·exact d y h1⟩,λ⟨⟨a,b⟩,c⟩=>⟨a,b,c _ af,λy hy=>c y (by simp[hy])⟩⟩
  simp only[hp];cases pd ((0<=x.Least/\x.Least<=20)/\(1<=((x.Targets.length:Nat):Int)/\((x.Targets.length:Nat):Int)<=20))
  ·rfl
  have hlen:([x.Eye]++x.Targets).length<=65:=by simp;omega
  rw[Bool.not_true,cf,Bool.true_and,zD ab,bsQ];rw[Vq ([x.Eye]++x.Targets) WG (HA c0 (List.length c0:Nat) (i:Int) (List.length ([x.Eye]++x.Targets):Nat) c2 c3 c4 c5 c6 c7 c8 ([x.Eye]++x.Targets)) (λq=>(grd (0<=q/\q<(((List.length ([x.Eye]++x.Targets)):Nat):Int))).bind λ_=>((([x.Eye]++x.Targets))[(Int.toNat q)]?).bind λx2=>((yd 0 1048576 ([x2.X,x2.Y]:List Int)).bind λx4=>(bif (!x4)then some true else(yd 0 4096 ([x2.Z_]:List Int)).bind λx5=>some (!x5)))) ab (λK q=>?_) λj y hy=>?_]
  ·cases pd (∀y∈([x.Eye]++x.Targets),WG y)<;>rfl
  ·rw[HA]
   simp only[Option.bind_assoc]
  ·have hj:=AA hy
   rw[zD ab,bsQ,Int.toNat_natCast,hy,bsQ,KU Y2 (λ_=>qP Ao)];exact congrArg (λb=>some (!b)) (JN ⟨λ⟨⟨a,b⟩,c⟩=>⟨a,b,c⟩,λ⟨a,b,c⟩=>⟨⟨a,b⟩,c⟩⟩)
def Rt_L9{c0:List zg}{c2:List Def}{c3:List Table}{c4:List yp}{c5:List zO}{c6:List Cap}{c7:List View}(hl:c0.length<=64):oF c0 (List.length c0:Nat) c2 c3 c4 c5 c6 c7 c8 KK 0=some (bif pd (∀d∈c0,zzj d)then .inr ()else .inl false):=by
 refine Vq c0 zzj (oF c0 (List.length c0:Nat) c2 c3 c4 c5 c6 c7 c8) (λq=>(idx c0 q).bind λx1=>((yd (-4096) 4096 ([x1.X,x1.Y]:List Int)).bind λx3=>(bif (!x3)then some true else(yd 1 4096 ([x1.Z_]:List Int)).bind λx4=>some (!x4)))) ab (λK q=>?_) λi x hx=>?_
 ·rw[oF]
  simp only[Option.bind_assoc]
 ·rw[ye hx,bsQ,KU Y2 (λ_=>qP Ao)]
  exact congrArg (λb=>some (!b)) (JN ⟨λ⟨⟨a,b⟩,c⟩=>⟨a,b,c⟩,λ⟨a,b,c⟩=>⟨⟨a,b⟩,c⟩⟩)
end code
def zbi{p:yX}(h:zX6 p):Hd p=some (pd (KT p)):=by
 unfold Hd;have hd:=h.d;have ht:=h.t;have hz:=h.z;have hr:=h.r;have hc:=h.c;have hv:=h.v;have hs:=h.s;rw[KU (zR5 (l:=p.Defs) ab (λx hx=>by have:=(h.ds x hx).1;omega)) λ_=>KU (zR6 (l:=p.Tables) ab (λx hx=>by have:=(h.ts x hx).1;omega)) λ_=>KU (zR7 (l:=p.Zones) ab (λx hx=>by have:=(h.zs x hx).1;omega)) λ_=>KU (zR8 (l:=p.Rules) ab (λx hx=>by have:=(WE (h.rs x hx)).1;omega)) λ_=>KU (zR9 (l:=p.Caps) ab (λx hx=>by have:=(h.cs x hx).1;omega)) λ_=>qP (zSa (l:=p.Views) ab (λx hx=>by have:=(h.vs x hx).1;omega)),bsQ]
 have hp:pd (KT p)=(pd (j3 p.Defs Def.Name 60/\j3 p.Tables Table.Name 60/\j3 p.Zones yp.Name 60/\j3 p.Rules zO.Name 200/\j3 p.Caps Cap.Name 30/\j3 p.Views View.Name 60)&&pd ((∀d∈p.Defs,okE 12 d.Body=true)/\(∀t∈p.Tables,AV t)/\(∀z∈p.Zones,Hg z.Corners)/\(∀r∈p.Rules,WD r)/\(∀c∈p.Caps,zKd c)/\(∀v∈p.Views,Y3 v)/\(∀d∈p.Sun,zzj d)/\(0<=p.Hours/\p.Hours<=24)/\(0<=((p.Sun.length:Nat):Int)/\((p.Sun.length:Nat):Int)<=24))):=by
  rw[<- Al];exact JN ⟨λ⟨a,⟨b1,b2,b3,b4,b5,b6,b7⟩,c,d⟩=>⟨a,b1,b2,b3,b4,b5,b6,b7,c,ab⟩,λ⟨a,b1,b2,b3,b4,b5,b6,b7,c,d⟩=>⟨a,⟨b1,b2,b3,b4,b5,b6,b7⟩,c,ab⟩⟩
 rw[hp];cases pd (j3 p.Defs Def.Name 60/\j3 p.Tables Table.Name 60/\j3 p.Zones yp.Name 60/\j3 p.Rules zO.Name 200/\j3 p.Caps Cap.Name 30/\j3 p.Views View.Name 60)
 ·rfl
 rw[Bool.not_true,cf,Bool.true_and]
 exact WB (Rt_L1 hd h.ds) λ_=>WB (Rt_L2 ht h.ts) λ_=>WB (Rt_L4 hz) λ_=>WB (Rt_L5 hr h.rs) λ_=>WB (Rt_L6 hc) λ_=>WB (Rt_L7 hv h.vs) λ_=>WB (Rt_L9 hs) λ_=>by rw[Y2];rfl
section ref
variable{c0:List Def}{c1:List Table}{c2:List yp}{c3:List zO}{c4:List Cap}{c5:List View}{c6:List zg}{c7:Int}
end ref
def zvu:∀(k n:Nat),n<10 ^ (k+1)->(Lib.decDigits n).length<=k+1
 |k,n,h=>by
  rw[Lib.decDigits];by_cases h10:n<10
  ·rw[dif_pos h10,List.length_singleton];omega
  ·cases k with
   |zero=>omega
   |succ k =>
    have:=zvu k (n / 10) (by rw[Nat.pow_succ]at h;omega);rw[dif_neg h10,la,List.length_singleton];omega
def zei{n:Nat}(h:n<=9223372036854775807):(Lib.decDigits n).length<=21:=by
 have:=zvu 19 n ab;omega
def Ap(n:Int):Prop:=-9223372036854775807<=n/\n<=9223372036854775807
def Vs{n:Int}:QE (.inl n)=if n<0 then 45::32::Lib.decDigits n.natAbs else Lib.decDigits n.toNat:=rfl
def zSd{n:Int}(h:Ap n):(QE (.inl n)).length<=23:=by
 obtain⟨h0,h1⟩:=h;rw[Vs];split
 ·have:=zei (n:=n.natAbs) ab
  simp only[lc];omega
 ·have:=zei (n:=n.toNat) ab
  omega
def zkw{n:Int}(h0:0<=n)(h1:n<=9223372036854775807):Zp n=some (Lib.decDigits n.toNat):=by
 unfold Zp zuf;rw[zD ab,bsQ,Lib.itoa,if_neg ab]
def yq{a b:ak}(h:a.length+b.length<=140737488355328):yT a b=some (((b.length:Nat):Int),a++b):=by
 unfold yT;rw[zD h];rfl
def zbj{a b:ak}(h:a.length+b.length<=140737488355328):Ah a b=some (((b.length:Nat):Int),a++b):=by
 unfold Ah;rw[zD h];rfl
def KV{a:ak}(h:a.length+2<=140737488355328):zzg a=some (a++[32,41]):=by
 unfold zzg;rw[zD h];rfl
-- forms
def lvO(op:Int):Int:=if op=16 then 0 else if op=14 then 1 else if op=13 then 2 else if op=15 then 3 else if op=10∨op=11∨op=12 then 4 else if op=4∨op=5 then 5 else if op=6∨op=7∨op=8 then 6 else if op=9 then 7 else 8
def sgO(op:Int):ak:=if op=14 then zVx else if op=13 then zCr else if op=10 then qL else if op=11 then zfl else if op=12 then qK else if op=4 then zfj else if op=5 then yS else if op=6 then zfi else if op=7 then zfk else zfh
def op17{n:Int}(h0:0<=n)(h1:n<17):n=0∨n=1∨n=2∨n=3∨n=4∨n=5∨n=6∨n=7∨n=8∨n=9∨n=10∨n=11∨n=12∨n=13∨n=14∨n=15∨n=16:=ab
def zvv(op:Int):Bool:=decide (4<=op/\op<=14/\¬op=9)
def zKe(k:Nat){c2 n:Int}{s ky:ak}{az:List Expr}(h0:0<=c2)(h1:c2<17):((Jp ([(zd.mk zVx 14 1),(zd.mk zCr 13 2),(zd.mk qL 10 4),(zd.mk zfl 11 4),(zd.mk qK 12 4),(zd.mk zfj 4 5),(zd.mk yS 5 5),(zd.mk zfi 6 6),(zd.mk zfk 7 6),(zd.mk zfh 8 6)]:List zd) (10:Nat) c2 n s ky az (k+11) 0).bind (xM some λ_=>(bif (decide (c2=16))then some (0,([]:ak))else(bif (decide (c2=15))then some (3,([]:ak))else(bif (decide (c2=9))then some (7,([]:ak))else some (8,([]:ak)))))))=some (lvO c2,bif zvv c2 then sgO c2 else[]):=by
 obtain rfl|rfl|rfl|rfl|rfl|rfl|rfl|rfl|rfl|rfl|rfl|rfl|rfl|rfl|rfl|rfl|rfl:=op17 h0 h1<;>rfl
def zEm{e:Expr}(h0:0<=e.Op)(h1:e.Op<17):zay e=some (lvO e.Op,bif zvv e.Op then sgO e.Op else[]):=by
 unfold zay wT
 obtain⟨k,hk⟩:∃k,KK=k+11:=⟨KK-11,by have:=jz (n:=100) ab;omega⟩
 rw[bsQ,hk];exact zKe k h0 h1
def zyy(op:Int):0<=lvO op/\lvO op<=8:=by unfold lvO;(repeat' split)<;>omega
def zEn(op:Int):(sgO op).length<=3:=by unfold sgO;(repeat' split)<;>decide
def atS(t:ak)(lv form:Int):ak:=if lv<form then zgu++(t++zgt)else t
def xA(e:Expr)(i:Nat):Expr:=e.Args.getD i zEj
def zQ:Nat->Expr->ak
 |0,_=>[]
 |d+1,e =>
  if e.Op=0 then Lib.decDigits e.N.toNat else if e.Op=1 then e.S else if e.Op=2 then wS++(e.S++(t__++e.Key))else if e.Op=3 then oX++e.S
  else if e.Op=16 then oV++(atS (zQ d (xA e 0)) (lvO (xA e 0).Op) 0++(yM++(atS (zQ d (xA e 1)) (lvO (xA e 1).Op) 0++(yL++atS (zQ d (xA e 2)) (lvO (xA e 2).Op) 0))))
  else if e.Op=15 then Wa++atS (zQ d (xA e 0)) (lvO (xA e 0).Op) 3
  else if e.Op=9 then J2++atS (zQ d (xA e 0)) (lvO (xA e 0).Op) 7
  else atS (zQ d (xA e 0)) (lvO (xA e 0).Op) (if lvO e.Op=4 then 5 else lvO e.Op)++(t__++(sgO e.Op++(t__++atS (zQ d (xA e 1)) (lvO (xA e 1).Op) (lvO e.Op+1))))
def AW(t:ak)(a b:Int):(atS t a b).length<=t.length+4:=by
 unfold atS;split
 ·simp only[la,show zgu.length=2 from rfl,show zgt.length=2 from rfl];omega
 ·omega
def AX{s:ak}(h:zN s=true):s.length<=20/\s≠[]:=by
 unfold zN at h;simp only[bn]at h;exact zvf h.1
def Y4{e:Expr}(h:wk e=true):(0<=e.Op/\e.Op<17/\((e.Args.length:Nat):Int)=qC e.Op)/\(0<=e.N/\e.N<=1099511627776)/\e.S.length<=20/\e.Key.length<=20/\((e.Op=1∨e.Op=2∨e.Op=3)->zN e.S=true)/\(e.Op=2->zN e.Key=true):=by
 unfold wk at h;simp only[bn,decide_eq_true_eq]at h;obtain⟨h1,h2,h3,h4⟩:=h;refine⟨h1,?_,?_,?_,λho=>by rwa [if_pos ho]at h3,λho=>by rwa [if_pos ho]at h4⟩
 ·split at h2
  ·exact h2
  ·omega
 ·split at h3
  ·exact(AX h3).1
  ·rw[of_decide_eq_true h3];decide
 ·split at h4
  ·exact(AX h4).1
  ·rw[of_decide_eq_true h4];decide
def zvw:∀(d:Nat)(e:Expr),okE d e=true->(zQ d e).length<=100*4 ^ d
 |0,e,h=>by cases h
 |d+1,e,h=>by
  rw[okE,bn]at h;obtain⟨hh,ha⟩:=h;obtain⟨⟨h0,h1,hl⟩,⟨n0,n1⟩,hs,hk,_⟩:=Y4 hh;have hp:0<4 ^ d:=Nat.pow_pos ab
  have arg:∀i,i<e.Args.length->(zQ d (xA e i)).length<=100*4 ^ d:=λi hi=>by
   refine zvw d _ (List.all_eq_true.1 ha _ ?_);unfold xA;rw[List.getD_eq_getElem?_getD,List.getElem?_eq_getElem hi];exact List.getElem_mem hi
  rw[Nat.pow_succ,zQ];by_cases o0:e.Op=0
  ·rw[if_pos o0];have:=zei (n:=e.N.toNat) ab;omega
  rw[if_neg o0];by_cases o1:e.Op=1
  ·rw[if_pos o1];omega
  rw[if_neg o1];by_cases o2:e.Op=2
  ·rw[if_pos o2];simp only[la,show wS.length=6 from rfl,show t__.length=1 from rfl];omega
  rw[if_neg o2];by_cases o3:e.Op=3
  ·rw[if_pos o3];simp only[la,show oX.length=5 from rfl];omega
  rw[if_neg o3];by_cases o16:e.Op=16
  ·rw[if_pos o16]
   have:e.Args.length=3:=by rw[o16]at hl;have:qC 16=3:=rfl;omega
   have a0:=arg 0 ab;have a1:=arg 1 ab;have a2:=arg 2 ab;have b0:=AW (zQ d (xA e 0)) (lvO (xA e 0).Op) 0;have b1:=AW (zQ d (xA e 1)) (lvO (xA e 1).Op) 0;have b2:=AW (zQ d (xA e 2)) (lvO (xA e 2).Op) 0;simp only[la,show oV.length=3 from rfl,show yM.length=6 from rfl,show yL.length=6 from rfl];omega
  rw[if_neg o16];by_cases o15:e.Op=15
  ·rw[if_pos o15]
   have:e.Args.length=1:=by rw[o15]at hl;have:qC 15=1:=rfl;omega
   have a0:=arg 0 ab;have b0:=AW (zQ d (xA e 0)) (lvO (xA e 0).Op) 3;simp only[la,show Wa.length=4 from rfl];omega
  rw[if_neg o15];by_cases o9:e.Op=9
  ·rw[if_pos o9]
   have:e.Args.length=1:=by rw[o9]at hl;have:qC 9=1:=rfl;omega
   have a0:=arg 0 ab;have b0:=AW (zQ d (xA e 0)) (lvO (xA e 0).Op) 7;simp only[la,show J2.length=2 from rfl];omega
  rw[if_neg o9]
  have:e.Args.length=2:=by
   have:qC e.Op=2:=by unfold qC;rw[if_neg ab,if_neg ab,if_neg o16]
   omega
  have a0:=arg 0 ab;have a1:=arg 1 ab;have b0:=AW (zQ d (xA e 0)) (lvO (xA e 0).Op) (if lvO e.Op=4 then 5 else lvO e.Op);have b1:=AW (zQ d (xA e 1)) (lvO (xA e 1).Op) (lvO e.Op+1);have:=zEn e.Op;simp only[la,show t__.length=1 from rfl];omega
inductive OX:Nat->Expr->Prop
 |num {d:Nat} {n:Int}:0<=n->n<=1099511627776->OX (d+1) ⟨0,n,[],[],[]⟩
 |name {d:Nat} {s:ak}:zN s=true->OX (d+1) ⟨1,0,s,[],[]⟩
 |table {d:Nat} {s k:ak}:zN s=true->zN k=true->OX (d+1) ⟨2,0,s,k,[]⟩
 |zone {d:Nat} {s:ak}:zN s=true->OX (d+1) ⟨3,0,s,[],[]⟩
 |neg {d:Nat} {a:Expr}:OX d a->OX (d+1) ⟨9,0,[],[],[a]⟩
 |not {d:Nat} {a:Expr}:OX d a->OX (d+1) ⟨15,0,[],[],[a]⟩
 |cond {d:Nat} {a b c:Expr}:OX d a->OX d b->OX d c->OX (d+1) ⟨16,0,[],[],[a,b,c]⟩
 |bin {d:Nat} {op:Int} {a b:Expr}:zvv op=true->OX d a->OX d b->OX (d+1) (YY op a b)
def zZ9{α:Type}{l:List α}(h:((l.length:Nat):Int)=0):l=[]:=List.length_eq_zero_iff.1 ab
def len1{α:Type}{l:List α}(h:((l.length:Nat):Int)=1):∃a,l=[a]:=List.length_eq_one_iff.1 ab
def len2{α:Type}{l:List α}(h:((l.length:Nat):Int)=2):∃a b,l=[a,b]:=by
 match l,h with
 |[a,b],_=>exact⟨a,b,rfl⟩
 |[],h=>simp at h
 |[a],h=>simp at h
 |a::b::c::r,h=>simp only[lc]at h;omega
def len3{α:Type}{l:List α}(h:((l.length:Nat):Int)=3):∃a b c,l=[a,b,c]:=by
 match l,h with
 |[a,b,c],_=>exact⟨a,b,c,rfl⟩
 |[],h=>simp at h
 |[a],h=>simp at h
 |[a,b],h=>simp at h
 |a::b::c::d::r,h=>simp only[lc]at h;omega
def zX8{op:Int}(h0:0<=op)(h1:op<17)(a0:¬op=0)(a1:¬op=1)(a2:¬op=2)(a3:¬op=3)(a9:¬op=9)(a15:¬op=15)(a16:¬op=16):zvv op=true:=dt ab
def zvx{op:Int}(h:zvv op=true):4<=op/\op<=14/\¬op=9:=of_decide_eq_true h
def zEo{op:Int}(h:zvv op=true):qC op=2:=by
 have:=zvx h;unfold qC;rw[if_neg ab,if_neg ab,if_neg ab]
def zEp:∀(d:Nat)(e:Expr),okE d e=true->OX d e
 |0,e,h=>by cases h
 |d+1,e,h=>by
  rw[okE,bn]at h;obtain⟨hh,ha⟩:=h
  have ih:∀x∈e.Args,OX d x:=λx hx=>zEp d x (List.all_eq_true.1 ha x hx)
  obtain⟨op,n,s,k,az⟩:=e;simp only[wk,bn,decide_eq_true_eq]at hh;obtain⟨⟨h0,h1,hl⟩,hn,hs,hk⟩:=hh;dsimp only at ih;by_cases a0:op=0
  ·subst a0
   obtain rfl:=zZ9 hl;simp at hn hs hk
   obtain⟨rfl,rfl⟩:s=[]/\k=[]:=⟨hs,hk⟩
   exact .num hn.1 hn.2
  by_cases a1:op=1
  ·subst a1
   obtain rfl:=zZ9 hl;simp at hn hs hk;subst hn hk;exact .name hs
  by_cases a2:op=2
  ·subst a2
   obtain rfl:=zZ9 hl;simp at hn hs hk;subst hn;exact .table hs hk
  by_cases a3:op=3
  ·subst a3
   obtain rfl:=zZ9 hl;simp at hn hs hk;subst hn hk;exact .zone hs
  rw[if_neg a0]at hn;rw[if_neg ab,decide_eq_true_eq]at hs;rw[if_neg a2,decide_eq_true_eq]at hk;subst hn hs hk;by_cases a9:op=9
  ·subst a9
   obtain⟨a,rfl⟩:=len1 hl;exact .neg (ih a af)
  by_cases a15:op=15
  ·subst a15
   obtain⟨a,rfl⟩:=len1 hl;exact .not (ih a af)
  by_cases a16:op=16
  ·subst a16
   obtain⟨a,b,c,rfl⟩:=len3 hl;exact .cond (ih a af) (ih b af) (ih c af)
  have hb:=zX8 h0 h1 a0 a1 a2 a3 a9 a15 a16;rw[zEo hb]at hl;obtain⟨a,b,rfl⟩:=len2 hl;exact .bin hb (ih a af) (ih b af)
def kwQ(w:ak):T3:=(0,w,0)
def sgQ(w:ak):T3:=(2,w,0)
def xR(n:Int):T3:=(1,Lib.decDigits n.toNat,n)
def opQ(op:Int):T3:=if op=13∨op=14 then kwQ (sgO op)else sgQ (sgO op)
def WH(t:List T3)(lv form:Int):List T3:=if lv<form then sgQ Ay::(t++[sgQ qj])else t
def zkx(op:Int):Int:=if lvO op=4 then 5 else lvO op
def xz:Nat->Expr->List T3
 |0,_=>[]
 |d+1,e =>
  if e.Op=0 then[xR e.N]else if e.Op=1 then[kwQ e.S]else if e.Op=2 then[kwQ yz,kwQ e.S,kwQ e.Key]else if e.Op=3 then[kwQ xh,kwQ e.S]
  else if e.Op=16 then kwQ V9::(xz d (xA e 0)++(kwQ uE::(xz d (xA e 1)++(kwQ yY::xz d (xA e 2)))))
  else if e.Op=15 then kwQ qZ::WH (xz d (xA e 0)) (lvO (xA e 0).Op) 3
  else if e.Op=9 then sgQ yS::WH (xz d (xA e 0)) (lvO (xA e 0).Op) 7
  else WH (xz d (xA e 0)) (lvO (xA e 0).Op) (zkx e.Op)++(opQ e.Op::WH (xz d (xA e 1)) (lvO (xA e 1).Op) (lvO e.Op+1))
def WI{op:Int}(h:zvv op=true)(d:Nat)(a b:Expr):xz (d+1) (YY op a b)=WH (xz d a) (lvO a.Op) (zkx op)++(opQ op::WH (xz d b) (lvO b.Op) (lvO op+1)):=by
 have h3:=zvx h;rw[xz];unfold YY;dsimp only;rw[if_neg ab,if_neg ab,if_neg ab,if_neg ab,if_neg ab,if_neg ab,if_neg ab];rfl
def zph{op:Int}(h:zvv op=true)(d:Nat)(a b:Expr):zQ (d+1) (YY op a b)=atS (zQ d a) (lvO a.Op) (zkx op)++(t__++(sgO op++(t__++atS (zQ d b) (lvO b.Op) (lvO op+1)))):=by
 have h3:=zvx h;rw[zQ];unfold YY;dsimp only;rw[if_neg ab,if_neg ab,if_neg ab,if_neg ab,if_neg ab,if_neg ab,if_neg ab];rfl
def zX9{t:List T3}{op:Int}:WH t (lvO op) 0=t:=if_neg (by have:=zyy op;omega)
def at0{t:ak}{op:Int}:atS t (lvO op) 0=t:=if_neg (by have:=zyy op;omega)
def sq(ts:List T3):ak:=ts.flatMap λt=>32::t.2.1
def jq:List T3->ak
 |[]=>[]
 |t::ts=>t.2.1++sq ts
def zNt(a b:List T3):sq (a++b)=sq a++sq b:=List.flatMap_append
def zSe{a:List T3}(h:a≠[]):sq a=32::jq a:=by
 cases a with
 |nil=>exact absurd rfl h
 |cons t ts=>rfl
def zYa{a b:List T3}(h:a≠[]):jq (a++b)=jq a++sq b:=by
 cases a with
 |nil=>exact absurd rfl h
 |cons t ts=>rw[List.cons_append,jq,jq,zNt,asc]
def Vt{t:T3}{b:List T3}(h:b≠[]):jq (t::b)=t.2.1++32::jq b:=by rw[jq,zSe h]
def zvy{a b:List T3}(ha:a≠[])(hb:b≠[]):jq (a++b)=jq a++32::jq b:=by rw[zYa ha,zSe hb]
def zYb(a:List T3):BL (sq a):=by
 cases a with
 |nil=>exact zNl
 |cons t ts=>exact zko rfl
def zYc:∀{ts:List T3},(∀t∈ts,okT t)->LX (sq ts) ts
 |[],_=>zNm
 |t::ts,h=>by
  have:=zDy (zvl (c:=32) rfl (zDx (h t al))) (zYc λx hx=>h x (mcQ _ hx)) (zYb ts);exact this
def lx_jq{ts:List T3}(h:∀t∈ts,okT t):LX (jq ts) ts:=by
 cases ts with
 |nil=>exact zNm
 |cons t ts=>exact zDy (zDx (h t al)) (zYc λx hx=>h x (mcQ _ hx)) (zYb ts)
def OKs(ts:List T3):Prop:=∀t∈ts,okT t
def Aq:OKs []:=λ_ h=>by cases h
def xg{t:T3}{ts:List T3}(h:okT t)(hs:OKs ts):OKs (t::ts):=λx hx=>by
 rcases List.mem_cons.1 hx with rfl|hx
 ·exact h
 ·exact hs x hx
def Vu{a b:List T3}(ha:OKs a)(hb:OKs b):OKs (a++b):=λx hx=>by
 rcases List.mem_append.1 hx with hx|hx
 ·exact ha x hx
 ·exact hb x hx
def zbk{n:Int}(h0:0<=n)(h1:n<=1099511627776):okT (xR n):=by
 have:=zRw (n:=n.toNat) ab;rw[Int.toNat_of_nonneg h0]at this;exact this
def zNu{w:ak}(h:KO w=true):okT (kwQ w):=zvm h
def WJ{w:ak}(h:zN w=true):okT (kwQ w):=zJ0 h
def zej{op:Int}(h:zvv op=true):op=4∨op=5∨op=6∨op=7∨op=8∨op=10∨op=11∨op=12∨op=13∨op=14:=by
 have:=zvx h;omega
def zNv{op:Int}(h:zvv op=true):okT (opQ op):=by
 rcases zej h with rfl|rfl|rfl|rfl|rfl|rfl|rfl|rfl|rfl|rfl<;>rfl
def zKf(op:Int):(opQ op).2.1=sgO op:=by
 unfold opQ;split<;>rfl
def zvz{t:List T3}{a b:Int}(h:t≠[]):WH t a b≠[]:=by
 unfold WH;split
 ·simp
 ·exact h
def WK{t:List T3}{a b:Int}(h:OKs t):OKs (WH t a b):=by
 unfold WH;split
 ·exact xg rfl (Vu h (xg rfl Aq))
 ·exact h
def zv0{t:List T3}{s:ak}{a b:Int}(hn:t≠[])(h:s=jq t):atS s a b=jq (WH t a b):=by
 unfold atS WH;split
 ·rw[Vt af,zvy hn af,<- h];rfl
 ·exact h
def uy{d:Nat}{e:Expr}(h:OX d e):xz d e≠[]/\OKs (xz d e)/\zQ d e=jq (xz d e):=by
 induction h with
 |@num d n h1 h2 =>
  refine⟨by simp[xz],?_,?_⟩
  ·exact xg (zbk h1 h2) Aq
  ·show Lib.decDigits n.toNat=Lib.decDigits n.toNat++[]
   rw[List.append_nil]
 |@name d s h =>
  refine⟨by simp[xz],xg (WJ h) Aq,?_⟩
  show s=s++[]
  rw[List.append_nil]
 |@table d s k h1 h2 =>
  refine⟨by simp[xz],xg rfl (xg (WJ h1) (xg (WJ h2) Aq)),?_⟩
  show wS++(s++(t__++k))=yz++((32::s)++((32::k)++[]))
  rw[List.append_nil];rfl
 |@zone d s h =>
  refine⟨by simp[xz],xg rfl (xg (WJ h) Aq),?_⟩
  show oX++s=xh++((32::s)++[])
  rw[List.append_nil];rfl
 |@neg d a _ ih =>
  obtain⟨i1,i2,i3⟩:=ih;refine⟨by simp[xz],xg rfl (WK i2),?_⟩
  show J2++atS (zQ d a) (lvO a.Op) 7=jq (sgQ yS::WH (xz d a) (lvO a.Op) 7)
  rw[Vt (zvz i1),zv0 i1 i3];rfl
 |@not d a _ ih =>
  obtain⟨i1,i2,i3⟩:=ih;refine⟨by simp[xz],xg rfl (WK i2),?_⟩
  show Wa++atS (zQ d a) (lvO a.Op) 3=jq (kwQ qZ::WH (xz d a) (lvO a.Op) 3)
  rw[Vt (zvz i1),zv0 i1 i3];rfl
 |@cond d a b c _ _ _ ia ib ic =>
  obtain⟨a1,a2,a3⟩:=ia;obtain⟨b1,b2,b3⟩:=ib;obtain⟨c1,c2,c3⟩:=ic;refine⟨by simp[xz],xg rfl (Vu a2 (xg rfl (Vu b2 (xg rfl c2)))),?_⟩
  show oV++(atS (zQ d a) (lvO a.Op) 0++(yM++(atS (zQ d b) (lvO b.Op) 0++(yL++atS (zQ d c) (lvO c.Op) 0))))=jq (kwQ V9::(xz d a++(kwQ uE::(xz d b++(kwQ yY::xz d c)))))
  rw[Vt af,zvy a1 af,Vt af,zvy b1 af,Vt c1,at0,at0,at0,a3,b3,c3];rfl
 |@bin d op a b hb _ _ ia ib =>
  obtain⟨a1,a2,a3⟩:=ia;obtain⟨b1,b2,b3⟩:=ib;rw[WI hb,zph hb];refine⟨af,Vu (WK a2) (xg (zNv hb) (WK b2)),?_⟩;rw[zvy (zvz a1) af,Vt (zvz b1),zv0 a1 a3,zv0 b1 b3,zKf];rfl
def PX(lv:Nat)(r:List Token):Except EE ((Nat×Expr)×List Token) :=
 if lv<=0/\isB V9 r=true then thn (ifS r) λe r=>.ok ((0,e),r)
 else if lv<=3/\isB qZ r=true then thn (DE 3 r.tail) λa r1=>.ok ((3,Expr.mk 15 0 [] [] [a]),r1)
 else if lv<=7/\isB yS r=true then thn (DE 7 r.tail) λa r1=>.ok ((7,Expr.mk 9 0 [] [] [a]),r1)
 else thn (WA r) λe r=>.ok ((8,e),r)
def KL(lv:Nat):Nat->Expr->List Token->Except EE (Expr×List Token)
 |0,e,r=>.ok (e,r)
 |k+1,e,r=>thn (LP (lv+k) e r) λe r=>KL lv k e r
def zEq(lv:Nat):∀(k:Nat)(e:Expr)(r:List Token),KL lv (k+1) e r=thn (KL (lv+1) k e r) λe r=>LP lv e r
 |0,e,r=>by simp only[KL,Nat.add_zero,Wz];rfl
 |k+1,e,r=>by
  rw[KL,KL,zP,show lv+(k+1)=lv+1+k by omega]
  exact xQ λa r1 _=>zEq lv k a r1
def WL{o:zd}(h:o∈OPS):∃f:Nat,o.form=(f:Int)/\(f=1∨f=2∨f=4∨f=5∨f=6)/\o.text≠[]:=by
 simp only[OPS,List.mem_cons,List.mem_nil_iff,or_false]at h
 rcases h with rfl|rfl|rfl|rfl|rfl|rfl|rfl|rfl|rfl|rfl
 ·exact⟨1,rfl,ab,ae⟩
 ·exact⟨2,rfl,ab,ae⟩
 ·exact⟨4,rfl,ab,ae⟩
 ·exact⟨4,rfl,ab,ae⟩
 ·exact⟨4,rfl,ab,ae⟩
 ·exact⟨5,rfl,ab,ae⟩
 ·exact⟨5,rfl,ab,ae⟩
 ·exact⟨6,rfl,ab,ae⟩
 ·exact⟨6,rfl,ab,ae⟩
 ·exact⟨6,rfl,ab,ae⟩
def zpi{lv:Nat}{r:List Token}(h:lv=0∨lv=3∨lv>=7):zlv lv r=none:=by
 cases ho:zlv lv r with
 |none=>rfl
 |some op =>
  obtain⟨o,h1,h2,_⟩:=KQ ho;obtain⟨f,h3,h4,_⟩:=WL (kU h1).2.1;omega
def Y5{lv:Nat}{e:Expr}{r:List Token}(hr:TWF r)(h:zlv lv r=none):LP lv e r=.ok (e,r):=by
 rw[zD3 hr,h]
def zSf{lv:Nat}{r:List Token}(hl:lv<8)(h0:¬(lv=0/\isB V9 r=true))(h3:¬(lv=3/\isB qZ r=true))(h7:¬(lv=7/\isB yS r=true)):PX lv r=PX (lv+1) r:=by
 unfold PX
 have e0:(lv<=0/\isB V9 r=true)=False:=by simp only[eq_iff_iff,iff_false];intro hh;exact h0 ⟨ab,hh.2⟩
 have e0':(lv+1<=0/\isB V9 r=true)=False:=by simp only[eq_iff_iff,iff_false];intro hh;omega
 have e3:(lv<=3/\isB qZ r=true)=(lv+1<=3/\isB qZ r=true):=by
  rw[eq_iff_iff];constructor
  ·intro hh
   refine⟨?_,hh.2⟩
   have:lv≠3:=λe=>h3 ⟨e,hh.2⟩
   omega
  ·intro hh;exact⟨ab,hh.2⟩
 have e7:(lv<=7/\isB yS r=true)=(lv+1<=7/\isB yS r=true):=by
  rw[eq_iff_iff];constructor
  ·intro hh
   refine⟨?_,hh.2⟩
   have:lv≠7:=λe=>h7 ⟨e,hh.2⟩
   omega
  ·intro hh;exact⟨ab,hh.2⟩
 simp only[e0,e0',e3,e7]
def zNw{lv:Nat}{r:List Token}{o:Nat}{e:Expr}{r1:List Token}(hl:lv<=8)(h:PX lv r=.ok ((o,e),r1)):lv<=o/\(o=0∨o=3∨o=7∨o=8):=by
 unfold PX at h;split at h
 ·obtain⟨a,r2,h1,h2⟩:=yv h;cases h2;rename_i hh;omega
 ·split at h
  ·obtain⟨a,r2,h1,h2⟩:=yv h;cases h2;rename_i hh;omega
  ·split at h
   ·obtain⟨a,r2,h1,h2⟩:=yv h;cases h2;rename_i hh;omega
   ·obtain⟨a,r2,h1,h2⟩:=yv h;cases h2;omega
def zEr{r r2:List Token}{e:Expr}(hr:TWF r)(hk:isB V9 r=true)(h:ifS r=.ok (e,r2)):Aft r r2:=by
 have:=zfq (lv:=0) ab hr;rw[if_pos ⟨rfl,hk⟩,h]at this;exact wc hr this
def zEs{lv:Nat}{r r2:List Token}{x:Nat×Expr}(hr:TWF r)(h:PX lv r=.ok (x,r2)):Aft r r2:=by
 unfold PX at h;split at h
 ·rename_i hb
  obtain⟨a,r1,h1,h2⟩:=yv h;cases h2;exact zEr hr hb.2 h1
 ·split at h
  ·rename_i hb
   obtain⟨a,r1,h1,h2⟩:=yv h;cases h2;have ht:=zF hr (zw hb.2);exact ht.trans (wc ht.wf h1).e
  ·split at h
   ·rename_i hb
    obtain⟨a,r1,h1,h2⟩:=yv h;cases h2;have ht:=zF hr (zw hb.2);exact ht.trans (wc ht.wf h1).e
   ·obtain⟨a,r1,h1,h2⟩:=yv h;cases h2
    rw[<- zGo hr]at h1;exact wc hr h1
def DE_PX:∀(k lv:Nat),8-lv=k->lv<=8->∀(r:List Token),TWF r->DE lv r=thn (PX lv r) λx r1=>KL lv (x.1+1-lv) x.2 r1:=by
 intro k
 induction k with
 |zero =>
  intro lv hk hl r hr
  obtain rfl:lv=8:=ab
  rw[zGo hr,PX,if_neg ab,if_neg ab,if_neg ab,zP]
  conv=>lhs;rw[<- Wz (x:=WA r)]
  refine xQ λe r1 h1=>?_
  show _=KL 8 1 e r1
  rw[<- zGo hr]at h1;rw[KL,Y5 (wc hr h1).wf (zpi ab)];rfl
 |succ k ih =>
  intro lv hk hl r hr;rw[zfq ab hr]
  have one:∀(e:Expr)(r1:List Token),(lv=0∨lv=3∨lv=7)->TWF r1->KL lv (lv+1-lv) e r1=.ok (e,r1):=λe r1 h h1=>by
   rw[show lv+1-lv=1 by omega,KL,Nat.add_zero,Y5 h1 (zpi ab)];rfl
  by_cases h0:lv=0/\isB V9 r=true
  ·rw[if_pos h0,PX,if_pos ⟨ab,h0.2⟩,zP]
   conv=>lhs;rw[<- Wz (x:=ifS r)]
   refine xQ λe r1 h1=>?_
   have:=one e r1 ab (zEr hr h0.2 h1).wf;rw[h0.1]at this ⊢;exact this.symm
  ·rw[if_neg h0]
   by_cases h3:lv=3/\isB qZ r=true
   ·rw[if_pos h3,PX,if_neg ab,if_pos ⟨ab,h3.2⟩,zP]
    refine xQ λa r1 h1=>?_
    have ht:=zF hr (zw h3.2);have:=one (Expr.mk 15 0 [] [] [a]) r1 ab (wc ht.wf h1).wf;rw[h3.1]at this ⊢;exact this.symm
   ·rw[if_neg h3]
    by_cases h7:lv=7/\isB yS r=true
    ·rw[if_pos h7,PX,if_neg ab,if_neg ab,if_pos ⟨ab,h7.2⟩,zP]
     refine xQ λa r1 h1=>?_
     have ht:=zF hr (zw h7.2);have:=one (Expr.mk 9 0 [] [] [a]) r1 ab (wc ht.wf h1).wf;rw[h7.1]at this ⊢;exact this.symm
    ·rw[if_neg h7,ih (lv+1) ab ab r hr,zSf ab h0 h3 h7,zP]
     refine xQ λx r1 h1=>?_
     have:=(zNw ab h1).1;rw[show x.1+1-lv=(x.1+1-(lv+1))+1 by omega,zEq]
def CL(lv own:Nat)(e:Expr)(r:List Token):Except EE (Expr×List Token):=match opR r with
 |none=>.ok (e,r)
 |some o=>if o.form<(lv:Int)∨(own:Int)<o.form∨(own=4/\o.form=4)then .ok (e,r)else
  if h:r.tail.length<r.length then thn (DE (o.form.toNat+1) r.tail) λe2 r2=>if h2:r2.length<r.length then CL lv o.form.toNat (YY o.op e e2) r2 else oof else oof
termination_by r.length
def zsp{lv:Nat}{e:Expr}{r:List Token}(hr:TWF r):∀(k:Nat),(∀j,lv<=j->j<lv+k->zlv j r=none)->KL lv k e r=.ok (e,r)
 |0,_=>rfl
 |k+1,h=>by
  rw[KL,Y5 hr (h (lv+k) ab ab)]
  exact zsp hr k λj h1 h2=>h j h1 ab
def zv1{lv:Nat}{e:Expr}{r:List Token}(hr:TWF r):∀(k j:Nat),(∀i,lv+j<=i->i<lv+j+k->zlv i r=none)->KL lv (j+k) e r=KL lv j e r
 |0,j,_=>rfl
 |k+1,j,h=>by
  rw[show j+(k+1)=(j+k)+1 by omega,KL,Y5 hr (h (lv+(j+k)) ab ab)]
  exact zv1 hr k j λi h1 h2=>h i h1 ab
def CL_KL(lv:Nat):∀(n:Nat)(r:List Token)(own:Nat)(e:Expr),r.length<n->TWF r->KL lv ((if own=4 then 3 else own)+1-lv) e r=CL lv own e r:=by
 intro n
 induction n with
 |zero=>intro r own e h;omega
 |succ n ih =>
  intro r own e hn hr;rw[CL]
  cases ho:opR r with
  |none=>exact zsp hr _ λj _ _=>by rw[zlv,ho]
  |some o =>
   dsimp only;obtain⟨hk,hmem,_⟩:=kU ho;obtain⟨f,hf,hf2,_⟩:=WL hmem
   have hat:∀j,j≠f->zlv j r=none:=λj hj=>by
    rw[zlv,ho];dsimp only;rw[if_neg (by rw[hf];omega)]
   have hatf:zlv f r=some o.op:=by
    rw[zlv,ho];dsimp only;rw[if_pos hf]
   rw[hf];by_cases hc:(f:Int)<(lv:Int)∨(own:Int)<(f:Int)∨(own=4/\(f:Int)=4)
   ·rw[if_pos hc]
    refine zsp hr _ λj h1 h2=>hat j ?_
    rcases hc with hc|hc|hc
    ·omega
    ·split at h2<;>omega
    ·rw[if_pos hc.1]at h2;omega
   ·rw[if_neg hc]
    have ht:=zF hr hk;rw[dif_pos ht.lt,Int.toNat_natCast]
    have hle:lv<=f/\f<=(if own=4 then 3 else own):=by
     refine⟨ab,?_⟩;split
     ·rename_i h4;subst h4;omega
     ·omega
    rw[show(if own=4 then 3 else own)+1-lv=(f-lv+1)+((if own=4 then 3 else own)-f) by omega,zv1 hr _ _ (λi h1 h2=>hat i ab),KL,show lv+(f-lv)=f by omega,zD3 hr,hatf,zP]
    refine xQ λe2 r2 h2=>?_
    have hq:=ht.trans (wc ht.wf h2).e;rw[dif_pos hq.lt,<- ih r2 f (YY o.op e e2) (by have:=hq.lt;omega) hq.wf];by_cases h4:f=4
    ·subst h4
     rw[if_pos rfl,if_pos rfl]
     show KL lv (4-lv) _ r2=_
     rw[show 4-lv=3+1-lv by omega]
    ·rw[if_neg h4,if_neg h4,show f+1-lv=(f-lv)+1 by omega,KL,show lv+(f-lv)=f by omega]
def zYd{lv own:Nat}{e:Expr}{r:List Token}(hr:TWF r):CL lv own e r=match opR r with
 |none=>.ok (e,r)
 |some o=>if o.form<(lv:Int)∨(own:Int)<o.form∨(own=4/\o.form=4)then .ok (e,r)else thn (DE (o.form.toNat+1) r.tail) λe2 r2=>CL lv o.form.toNat (YY o.op e e2) r2:=by
 rw[CL];split
 ·rfl
 ·rename_i o ho
  have ht:=zF hr (kU ho).1;rw[dif_pos ht.lt];split
  ·rfl
  ·refine xQ λe2 r2 h2=>?_
   rw[dif_pos (ht.trans (wc ht.wf h2).e).lt]
def zYe{lv:Nat}{r:List Token}(hl:lv<=8)(hr:TWF r):DE lv r=thn (PX lv r) λx r1=>CL lv x.1 x.2 r1:=by
 rw[DE_PX _ lv rfl hl r hr]
 refine xQ λx r1 h1=>?_
 have ho:=(zNw (o:=x.1) (e:=x.2) hl h1).2;have:=CL_KL lv (r1.length+1) r1 x.1 x.2 (Nat.lt_succ_self _) (zEs hr h1).wf;rw[if_neg ab]at this;exact this
def tk(a:T3)(p:Int):Token:=Token.mk a.1 a.2.1 a.2.2 p
def map_nil{l:List Token}(h:l.map t3=[]):l=[]:=List.map_eq_nil_iff.1 h
def map_cons{l:List Token}{a:T3}{ts:List T3}(h:l.map t3=a::ts):∃p l',l=tk a p::l'/\l'.map t3=ts:=by
 obtain⟨t,l',rfl,rfl,h2⟩:=List.map_eq_cons_iff.1 h;exact⟨t.Pos,l',rfl,h2⟩
def wF{l:List Token}{a b:List T3}(h:l.map t3=a++b):∃l1 l2,l=l1++l2/\l1.map t3=a/\l2.map t3=b:=List.map_eq_append_iff.1 h
def zKg{t:T3}(h:okT t):t.1=0∨t.1=1∨t.1=2:=by
 obtain⟨k,x,n⟩:=t;unfold okT at h;dsimp only at h ⊢
 cases x with
 |nil=>cases h
 |cons c x =>
  rw[jF]at h;split at h
  ·split at h
   ·exact .inl (congrArg (λy:T3=>y.1) (Except.ok.inj h)).symm
   ·cases h
  ·split at h
   ·split at h
    ·exact .inr (.inl (congrArg (λy:T3=>y.1) (Except.ok.inj h)).symm)
    ·cases h
   ·split at h
    ·exact .inr (.inr (congrArg (λy:T3=>y.1) (Except.ok.inj h)).symm)
    ·cases h
def TWF.cons{t:Token}{r:List Token}(h:t.Kind≠3)(hr:TWF r):TWF (t::r):=by
 cases r with
 |nil=>exact hr.elim
 |cons u r=>exact⟨h,hr⟩
def zYf{t:T3}(h:okT t):t.1≠3:=by have:=zKg h;omega
def kp{a:T3}{p:Int}{r:List Token}(h:okT a)(hr:TWF r):TWF (tk a p::r):=TWF.cons (zYf h) hr
def qD:∀{ts:List T3}{l r:List Token},OKs ts->l.map t3=ts->TWF r->TWF (l++r)
 |[],l,r,_,h,hr=>by rw[map_nil h];exact hr
 |t::ts,l,r,ho,h,hr=>by
  obtain⟨p,l',rfl,h2⟩:=map_cons h;exact kp (ho t al) (qD (λx hx=>ho x (mcQ _ hx)) h2 hr)
def NO(lv:Nat)(r:List Token):Prop:=∀j,lv<=j->zlv j r=none
def NO.le{lv k:Nat}{r:List Token}(h:NO lv r)(hk:lv<=k):NO k r:=λj hj=>h j ab
def zEt{r:List Token}{lv:Nat}(h:opR r=none):NO lv r:=λj _=>by rw[zlv,h]
def zE(s:ak)(a:T3)(p:Int)(r:List Token):isB s (tk a p::r)=((!(decide (a.1=3)))&&decide (a.2.1=s)):=rfl
def Ar{n:Nat}{s:ak}(h:s.all xi=false):Lib.decDigits n≠s:=λe=>by
 have:=zkp n;rw[e,h]at this;cases this
def zsq{s w:ak}(h:zN s=true)(hw:zN w=false):s≠w:=λe=>by
 rw[e,hw]at h;cases h
def zEu{d:Nat}{e:Expr}(h:OX d e):∀t ts,xz d e=t::ts->(t.2.1=V9->lvO e.Op=0)/\(t.2.1=qZ->lvO e.Op<=3)/\(t.2.1=yS->lvO e.Op<=7):=by
 induction h with
 |@num d n h1 h2 =>
  intro t ts e;obtain⟨rfl,rfl⟩:=List.cons.inj (show[xR n]=t::ts from e);exact⟨λe=>absurd e (Ar rfl),λe=>absurd e (Ar rfl),λe=>absurd e (Ar rfl)⟩
 |@name d s h =>
  intro t ts e;obtain⟨rfl,rfl⟩:=List.cons.inj (show[kwQ s]=t::ts from e);exact⟨λe=>absurd e (zsq h ah),λe=>absurd e (zsq h ah),λe=>absurd e (zsq h ah)⟩
 |@table d s k h1 h2 =>
  intro t ts e;obtain⟨rfl,_⟩:=List.cons.inj (show[kwQ yz,kwQ s,kwQ k]=t::ts from e);exact⟨λe=>absurd e ae,λe=>absurd e ae,λe=>absurd e ae⟩
 |@zone d s h =>
  intro t ts e;obtain⟨rfl,_⟩:=List.cons.inj (show[kwQ xh,kwQ s]=t::ts from e);exact⟨λe=>absurd e ae,λe=>absurd e ae,λe=>absurd e ae⟩
 |@neg d a _ _ =>
  intro t ts e;obtain⟨rfl,_⟩:=List.cons.inj (show sgQ yS::_=t::ts from e);exact⟨λe=>absurd e ae,λe=>absurd e ae,λ_=>show lvO 9<=7 by decide⟩
 |@not d a _ _ =>
  intro t ts e;obtain⟨rfl,_⟩:=List.cons.inj (show kwQ qZ::_=t::ts from e);exact⟨λe=>absurd e ae,λ_=>show lvO 15<=3 by decide,λe=>absurd e ae⟩
 |@cond d a b c _ _ _ _ _ _ =>
  intro t ts e;obtain⟨rfl,_⟩:=List.cons.inj (show kwQ V9::_=t::ts from e);exact⟨λ_=>show lvO 16=0 by decide,λe=>absurd e ae,λe=>absurd e ae⟩
 |@bin d op a b hb ha _ ia _ =>
  intro t ts e;rw[WI hb]at e
  have hl:1<=lvO op/\lvO op<=zkx op/\lvO op<=6:=by rcases zej hb with rfl|rfl|rfl|rfl|rfl|rfl|rfl|rfl|rfl|rfl<;>decide
  show(_->lvO op=0)/\(_->lvO op<=3)/\(_->lvO op<=7)
  by_cases hp:lvO a.Op<zkx op
  ·rw[WH,if_pos hp]at e
   obtain⟨rfl,_⟩:=List.cons.inj e;exact⟨λe=>absurd e ae,λe=>absurd e ae,λe=>absurd e ae⟩
  ·rw[WH,if_neg hp]at e
   cases hq:xz d a with
   |nil=>exact absurd hq (uy ha).1
   |cons u us =>
    rw[hq]at e;obtain⟨rfl,_⟩:=List.cons.inj e;obtain⟨h1,h2,h3⟩:=ia _ _ hq;exact⟨λe=>by have:=h1 e;omega,λe=>by have:=h2 e;omega,λe=>by have:=h3 e;omega⟩
def zsr{x r:List Token}{e:Expr}(hx:TWF x)(hr:TWF r):∀(n lv k:Nat),lv+n=k->k<=8->(∀j,lv<=j->j<k->¬(j=0/\isB V9 x=true)/\¬(j=3/\isB qZ x=true)/\¬(j=7/\isB yS x=true))->NO lv r->DE k x=.ok (e,r)->DE lv x=.ok (e,r)
 |0,lv,k,hk,_,_,_,h=>by
  obtain rfl:lv=k:=ab
  exact h
 |n+1,lv,k,hk,h8,hh,hn,h=>by
  have ih:=zsr hx hr n (lv+1) k ab h8 (λj hj=>hh j ab) (hn.le ab) h;obtain⟨h1,h2,h3⟩:=hh lv aq ab;rw[zfq ab hx,if_neg h1,if_neg h2,if_neg h3,ih];exact Y5 hr (hn lv aq)
def zYg{l r:List Token}{e:Expr}{p q:Int}{ts:List T3}(ho:OKs ts)(hl:l.map t3=ts)(hr:TWF r)(h:DE 0 (l++(tk (sgQ qj) q::r))=.ok (e,tk (sgQ qj) q::r)):DE 8 (tk (sgQ Ay) p::(l++(tk (sgQ qj) q::r)))=.ok (e,r):=by
 have hw:TWF (tk (sgQ Ay) p::(l++(tk (sgQ qj) q::r))):=kp rfl (qD ho hl (kp rfl hr));rw[zGo hw,WA]
 show thn (DE 0 (l++(tk (sgQ qj) q::r))) _=_
 rw[h];rfl
def qc{lo hi n p:Int}{r:List Token}(h1:lo<=n)(h2:n<=hi):qb lo hi (tk (xR n) p::r)=.ok (n,r):=by
 unfold qb;rw[if_pos (show Kc (tk (xR n) p::r)=true from rfl),if_pos (show lo<=(hdT (tk (xR n) p::r)).N/\(hdT (tk (xR n) p::r)).N<=hi from⟨h1,h2⟩)];rfl
def zv2{s:ak}{p:Int}{r:List Token}(h:zN s=true):ze3 (tk (kwQ s) p::r)=true:=by rw[<- h];exact Bool.true_and _
def Y6{s:ak}{p:Int}{r:List Token}(h:zN s=true):u0 (tk (kwQ s) p::r)=.ok (s,r):=by
 unfold u0;rw[if_pos (zv2 h)];rfl
def KW{a:T3}{w:ak}{p:Int}{r:List Token}(h:isB w (tk a p::r)=true):xV w (tk a p::r)=.ok ((),r):=by
 unfold xV;rw[if_pos h];rfl
def OwnP(e:Expr)(ts:List T3)(own:Nat):Prop:=(∀l r,l.map t3=ts->TWF r->NO own r->DE own (l++r)=.ok (e,r)) /\
 (own=1∨own=2∨own=5∨own=6->∀l r,l.map t3=ts->TWF r->NO (own+1) r->DE own (l++r)=LP own e r)
def AtP(e:Expr)(ts:List T3):Prop:=(∀(lv:Nat)(l r:List Token),lv<=8->l.map t3=WH ts (lvO e.Op) lv->TWF r->NO lv r->DE lv (l++r)=.ok (e,r)) /\
 (∀(L:Nat)(l r:List Token),L=1∨L=2∨L=5∨L=6->l.map t3=WH ts (lvO e.Op) L->TWF r->NO (L+1) r->DE L (l++r)=LP L e r)
def uo{d:Nat}{e:Expr}(h:OX d e){own:Nat}(he:lvO e.Op=own)(hp:OwnP e (xz d e) own):AtP e (xz d e):=by
 obtain⟨hne,hok,_⟩:=uy h;have hh:=zEu h
 have h8:own<=8:=by have:=zyy e.Op;omega
 have hd:∀{x:List Token}{l r:List Token},l.map t3=xz d e->∀j,j<own->¬(j=0/\isB V9 (l++r)=true)/\¬(j=3/\isB qZ (l++r)=true)/\¬(j=7/\isB yS (l++r)=true):=λ{x l r} hl j hj=>by
  cases hq:xz d e with
  |nil=>exact absurd hq hne
  |cons t ts =>
   rw[hq]at hl;obtain⟨p,l',rfl,_⟩:=map_cons hl;obtain⟨h1,h2,h3⟩:=hh t ts hq
   have tx:∀s,isB s (tk t p::l'++r)=true->t.2.1=s:=λs e=>by
    rw[List.cons_append,zE,bn]at e;exact of_decide_eq_true e.2
   exact⟨λ⟨e1,e2⟩=>by have:=h1 (tx _ e2);omega,λ⟨e1,e2⟩=>by have:=h2 (tx _ e2);omega,λ⟨e1,e2⟩=>by have:=h3 (tx _ e2);omega⟩
 have plain:∀(lv:Nat)(l r:List Token),lv<=own->l.map t3=xz d e->TWF r->NO lv r->DE lv (l++r)=.ok (e,r):=λlv l r hl hm hr hn =>
  zsr (qD hok hm hr) hr (own-lv) lv own ab h8 (λj _ hj=>hd (x:=l) hm j hj) hn (hp.1 l r hm hr (hn.le hl))
 have all:∀(lv:Nat)(l r:List Token),lv<=8->l.map t3=WH (xz d e) (lvO e.Op) lv->TWF r->NO lv r->DE lv (l++r)=.ok (e,r):=λlv l r hl hm hr hn=>by
  by_cases hlt:lvO e.Op<lv
  ·rw[WH,if_pos hlt]at hm
   obtain⟨p,l1,rfl,hm2⟩:=map_cons hm;obtain⟨l2,l3,rfl,h2,h3⟩:=wF hm2;obtain⟨q,l4,rfl,h4⟩:=map_cons h3;obtain rfl:=map_nil h4
   have e1:tk (sgQ Ay) p::(l2++[tk (sgQ qj) q])++r=tk (sgQ Ay) p::(l2++(tk (sgQ qj) q::r)):=af
   rw[e1];have hin:=plain 0 l2 (tk (sgQ qj) q::r) (Nat.zero_le _) h2 (kp rfl hr) (zEt rfl)
   exact zsr (kp (a:=sgQ Ay) rfl (qD hok h2 (kp (a:=sgQ qj) rfl hr))) hr (8-lv) lv 8 ab aq
    (λj _ _=>⟨λhh=>absurd hh.2 (by rw[zE];decide),λhh=>absurd hh.2 (by rw[zE];decide),λhh=>absurd hh.2 (by rw[zE];decide)⟩) hn (zYg hok h2 hr hin)
  ·rw[WH,if_neg hlt]at hm
   exact plain lv l r ab hm hr hn
 refine⟨all,λL l r hL hm hr hn=>?_⟩;by_cases hlo:lvO e.Op=L
 ·have e1:own=L:=ab
  subst e1;rw[WH,if_neg ab]at hm;exact hp.2 hL l r hm hr hn
 ·have e1:WH (xz d e) (lvO e.Op) L=WH (xz d e) (lvO e.Op) ((L+1:Nat):Int):=by
   unfold WH;by_cases hlt:lvO e.Op<L
   ·rw[if_pos hlt,if_pos ab]
   ·rw[if_neg hlt,if_neg ab]
  have hx:TWF (l++r):=qD (WK hok) hm hr;rw[zfq ab hx,if_neg ab,if_neg ab,if_neg ab,all (L+1) l r ab (by rw[hm,e1]) hr hn];rfl
def zNx{op:Int}(h:zvv op=true){p:Int}{r:List Token}(j:Nat):zlv j (tk (opQ op) p::r)=if lvO op=(j:Int)then some op else none:=by
 have:∃o,opR (tk (opQ op) p::r)=some o/\o.form=lvO op/\o.op=op:=by
  rcases zej h with rfl|rfl|rfl|rfl|rfl|rfl|rfl|rfl|rfl|rfl<;>exact⟨_,rfl,rfl,rfl⟩
 obtain⟨o,h1,h2,h3⟩:=this;rw[zlv,h1];dsimp only;rw[h2,h3]
def zNy{op:Int}(h:zvv op=true){p:Int}{r:List Token}{lv:Nat}(hl:lvO op<lv):NO lv (tk (opQ op) p::r):=λj hj=>by
 rw[zNx h,if_neg ab]
def zEv{d:Nat}{e:Expr}(h:OX d e):AtP e (xz d e):=by
 induction h with
 |@num d n h1 h2 =>
  refine uo (own:=8) (.num h1 h2) rfl ⟨λl r hm hr hn=>?_,λh=>ab⟩;obtain⟨p,l,rfl,h⟩:=map_cons (show l.map t3=[xR n] from hm);obtain rfl:=map_nil h
  show DE 8 (tk (xR n) p::r)=_
  rw[zGo (kp (zbk h1 h2) hr),WA,if_pos (show Kc (tk (xR n) p::r)=true from rfl)];rw[qc h1 h2];rfl
 |@name d s hs =>
  refine uo (own:=8) (.name hs) rfl ⟨λl r hm hr hn=>?_,λh=>ab⟩;obtain⟨p,l,rfl,h⟩:=map_cons (show l.map t3=[kwQ s] from hm);obtain rfl:=map_nil h
  have no:∀w,zN w=false->¬isB w (tk (kwQ s) p::r)=true:=λw hw e=>by
   rw[zE,bn]at e;exact zsq hs hw (of_decide_eq_true e.2)
  show DE 8 (tk (kwQ s) p::r)=_
  rw[zGo (kp (WJ hs) hr),WA,if_neg (show ¬Kc (tk (kwQ s) p::r)=true from λe=>by cases e),if_neg (no _ ah),if_neg (no _ ah),if_neg (no _ ah)];rw[Y6 hs];rfl
 |@table d s k h1 h2 =>
  refine uo (own:=8) (.table h1 h2) rfl ⟨λl r hm hr hn=>?_,λh=>ab⟩;obtain⟨p,l,rfl,h⟩:=map_cons (show l.map t3=[kwQ yz,kwQ s,kwQ k] from hm);obtain⟨p2,l2,rfl,ha⟩:=map_cons h;obtain⟨p3,l3,rfl,hb⟩:=map_cons ha;obtain rfl:=map_nil hb
  show DE 8 (tk (kwQ yz) p::tk (kwQ s) p2::tk (kwQ k) p3::r)=_
  rw[zGo (kp (a:=kwQ yz) rfl (kp (WJ h1) (kp (WJ h2) hr))),WA,if_neg (show ¬Kc (tk (kwQ yz) p::tk (kwQ s) p2::tk (kwQ k) p3::r)=true from λe=>by cases e),if_pos (by rw[zE];decide)]
  show thn (u0 (tk (kwQ s) p2::tk (kwQ k) p3::r)) _=_
  rw[Y6 h1]
  show thn (u0 (tk (kwQ k) p3::r)) _=_
  rw[Y6 h2];rfl
 |@zone d s hs =>
  refine uo (own:=8) (.zone hs) rfl ⟨λl r hm hr hn=>?_,λh=>ab⟩;obtain⟨p,l,rfl,h⟩:=map_cons (show l.map t3=[kwQ xh,kwQ s] from hm);obtain⟨p2,l2,rfl,ha⟩:=map_cons h;obtain rfl:=map_nil ha
  show DE 8 (tk (kwQ xh) p::tk (kwQ s) p2::r)=_
  rw[zGo (kp (a:=kwQ xh) rfl (kp (WJ hs) hr)),WA,if_neg (show ¬Kc (tk (kwQ xh) p::tk (kwQ s) p2::r)=true from λe=>by cases e),if_neg (by rw[zE];decide),if_pos (by rw[zE];decide)]
  show thn (u0 (tk (kwQ s) p2::r)) _=_
  rw[Y6 hs];rfl
 |@neg d a ha ia =>
  refine uo (own:=7) (.neg ha) rfl ⟨λl r hm hr hn=>?_,λh=>ab⟩;obtain⟨p,l,rfl,h⟩:=map_cons (show l.map t3=sgQ yS::WH (xz d a) (lvO a.Op) 7 from hm)
  show DE 7 (tk (sgQ yS) p::(l++r))=_
  have hw:=kp (a:=sgQ yS) (p:=p) rfl (qD (WK (uy ha).2.1) h hr);rw[zfq ab hw,if_neg ab,if_neg ab,if_pos ⟨rfl,by rw[zE];decide⟩]
  show thn (DE 7 (l++r)) _=_
  rw[ia.1 7 l r ab h hr hn];rfl
 |@not d a ha ia =>
  refine uo (own:=3) (.not ha) rfl ⟨λl r hm hr hn=>?_,λh=>ab⟩;obtain⟨p,l,rfl,h⟩:=map_cons (show l.map t3=kwQ qZ::WH (xz d a) (lvO a.Op) 3 from hm)
  show DE 3 (tk (kwQ qZ) p::(l++r))=_
  have hw:=kp (a:=kwQ qZ) (p:=p) rfl (qD (WK (uy ha).2.1) h hr);rw[zfq ab hw,if_neg ab,if_pos ⟨rfl,by rw[zE];decide⟩]
  show thn (DE 3 (l++r)) _=_
  rw[ia.1 3 l r ab h hr hn];rfl
 |@cond d a b c ha hb hc ia ib ic =>
  refine uo (own:=0) (.cond ha hb hc) rfl ⟨λl r hm hr hn=>?_,λh=>ab⟩;obtain⟨p,l,rfl,h⟩:=map_cons (show l.map t3=kwQ V9::(xz d a++(kwQ uE::(xz d b++(kwQ yY::xz d c)))) from hm);obtain⟨l1,m1,rfl,h1,q1⟩:=wF h;obtain⟨p2,m2,rfl,q2⟩:=map_cons q1;obtain⟨l2,m3,rfl,h2,q3⟩:=wF q2;obtain⟨p3,l,rfl,h3⟩:=map_cons q3
  have e1:tk (kwQ V9) p::(l1++tk (kwQ uE) p2::(l2++tk (kwQ yY) p3::l))++r=tk (kwQ V9) p::(l1++(tk (kwQ uE) p2::(l2++(tk (kwQ yY) p3::(l++r))))):=af
  rw[e1];have w3:=kp (a:=kwQ yY) (p:=p3) rfl (qD (uy hc).2.1 h3 hr);have w2:=kp (a:=kwQ uE) (p:=p2) rfl (qD (uy hb).2.1 h2 w3);have w1:=kp (a:=kwQ V9) (p:=p) rfl (qD (uy ha).2.1 h1 w2);rw[zfq ab w1,if_pos ⟨rfl,by rw[zE];decide⟩,ifS]
  show thn (DE 0 (l1++(tk (kwQ uE) p2::(l2++(tk (kwQ yY) p3::(l++r)))))) _=_
  rw[ia.1 0 l1 _ ab (by rw[h1];exact zX9.symm) w2 (zEt rfl)]
  show thn (DE 0 (l2++(tk (kwQ yY) p3::(l++r)))) _=_
  rw[ib.1 0 l2 _ ab (by rw[h2];exact zX9.symm) w3 (zEt rfl)]
  show thn (DE 0 (l++r)) _=_
  rw[ic.1 0 l r ab (by rw[h3];exact zX9.symm) hr hn];rfl
 |@bin d op a b ho ha hb ia ib =>
  have key:∀{own:Nat},lvO op=own->∀l r,l.map t3=xz (d+1) (YY op a b)->TWF r->NO (own+1) r->(own=4->DE own (l++r)=.ok (YY op a b,r))/\(own=1∨own=2∨own=5∨own=6->DE own (l++r)=LP own (YY op a b) r):=λ{own} hw l r hm hr hn=>by
   rw[WI ho]at hm;obtain⟨l1,l,rfl,h1,h⟩:=wF hm;obtain⟨p,l,rfl,h2⟩:=map_cons h
   have e1:l1++tk (opQ op) p::l++r=l1++(tk (opQ op) p::(l++r)):=af
   rw[e1];have w2:TWF (l++r):=qD (WK (uy hb).2.1) h2 hr;have w1:TWF (tk (opQ op) p::(l++r)):=kp (zNv ho) w2;have w0:TWF (l1++(tk (opQ op) p::(l++r))):=qD (WK (uy ha).2.1) h1 w1
   have h8:own<=6:=by
    have:lvO op<=6:=by rcases zej ho with rfl|rfl|rfl|rfl|rfl|rfl|rfl|rfl|rfl|rfl<;>decide
    omega
   have hB:DE (own+1) (l++r)=.ok (b,r):=ib.1 (own+1) l r ab (by rw[h2,hw];rfl) hr hn
   have hLP:LP own a (tk (opQ op) p::(l++r))=if own=4 then .ok (YY op a b,r)else LP own (YY op a b) r:=by
    rw[zD3 w1,zNx ho,if_pos hw]
    show thn (DE (own+1) (l++r)) _=_
    rw[hB];rfl
   constructor
   ·rintro rfl
    rw[zfq ab w0,if_neg ab,if_neg ab,if_neg ab,ia.1 5 l1 _ ab (by rw[h1,zkx,if_pos (show lvO op=4 from hw)];rfl) w1 (zNy ho ab)]
    show LP 4 a _=_
    rw[hLP,if_pos rfl]
   ·intro hc
    rw[ia.2 own l1 _ hc (by rw[h1,zkx,if_neg ab,hw]) w1 (zNy ho ab),hLP,if_neg ab]
  obtain⟨own,hw⟩:∃own:Nat,lvO op=own:=⟨(lvO op).toNat,by have:=zyy op;omega⟩
  have hc:own=4∨own=1∨own=2∨own=5∨own=6:=by
   have:lvO op=4∨lvO op=1∨lvO op=2∨lvO op=5∨lvO op=6:=by rcases zej ho with rfl|rfl|rfl|rfl|rfl|rfl|rfl|rfl|rfl|rfl<;>decide
   omega
  refine uo (own:=own) (.bin ho ha hb) hw ⟨λl r hm hr hn=>?_,λh l r hm hr hn=>(key hw l r hm hr hn).2 h⟩;obtain⟨k1,k2⟩:=key hw l r hm hr (hn.le (Nat.le_succ _))
  rcases hc with h|h
  ·exact k1 h
  ·rw[k2 h]
   exact Y5 hr (hn own aq)
def zNz{d:Nat}{e:Expr}(h:OX d e):W2 e<=d:=by
 induction h with
 |num _ _=>simp[W2,zsk]
 |name _=>simp[W2,zsk]
 |table _ _=>simp[W2,zsk]
 |zone _=>simp[W2,zsk]
 |neg _ ih=>simp only[W2,zsk];omega
 |not _ ih=>simp only[W2,zsk];omega
 |cond _ _ _ i1 i2 i3=>simp only[W2,zsk];omega
 |bin _ _ _ i1 i2=>unfold YY;simp only[W2,zsk];omega
def lzQ:(∀a b:ak,(a++b).length=a.length+b.length)/\zgu.length=2/\zgt.length=2/\t__.length=1/\wS.length=6/\oX.length=5/\oV.length=3/\yM.length=6/\yL.length=6/\Wa.length=4/\J2.length=2:=⟨λ_ _=>List.length_append,rfl,rfl,rfl,rfl,rfl,rfl,rfl,rfl,rfl,rfl⟩
def AY{t:ak}{a b:Int}(h:a<b):atS t a b=zgu++(t++zgt):=if_pos h
def u5{t:ak}{a b:Int}(h:¬a<b):atS t a b=t:=if_neg h
def l28:zgu.length=2:=rfl
def l29:zgt.length=2:=rfl
def lsp:t__.length=1:=rfl
def ltb:wS.length=6:=rfl
def lzn:oX.length=5:=rfl
def lif:oV.length=3:=rfl
def lth:yM.length=6:=rfl
def lel:yL.length=6:=rfl
def lnt:Wa.length=4:=rfl
def lmi:J2.length=2:=rfl
def i29:zgt=[32,41]:=rfl
def qE{e:Expr}{i:Nat}(h:i<e.Args.length):idx e.Args (i:Int)=some (xA e i):=by
 refine ye ?_;unfold xA;rw[List.getD_eq_getElem?_getD,List.getElem?_eq_getElem h];rfl
def zEw{e:Expr}{i:Nat}(h:i<e.Args.length):xA e i∈e.Args:=by
 unfold xA;rw[List.getD_eq_getElem?_getD,List.getElem?_eq_getElem h];exact List.getElem_mem h
def WrOK(RK:Nat)(d:Nat)(e:Expr):Prop:=∀i,i<e.Args.length->∀(b:ak)(f:Int),b.length+(atS (zQ d (xA e i)) (lvO (xA e i).Op) f).length<=140737488355328->xU RK b (xA e i) f=some (b++atS (zQ d (xA e i)) (lvO (xA e i).Op) f)
def zKh{RK d:Nat}{e:Expr}(ih:WrOK RK d e)(hl:e.Args.length=3){b:ak}(hb:b.length+(oV++(atS (zQ d (xA e 0)) (lvO (xA e 0).Op) 0++(yM++(atS (zQ d (xA e 1)) (lvO (xA e 1).Op) 0++(yL++atS (zQ d (xA e 2)) (lvO (xA e 2).Op) 0))))).length<=140737488355328)(c1 c2:Int)(c3 c4:ak):
  ke (xU RK) ((3:Nat):Int) c1 c2 c3 c4 e.Args ([oV,yM,yL]:List ak) KK (b,0)=some (b++(oV++(atS (zQ d (xA e 0)) (lvO (xA e 0).Op) 0++(yM++(atS (zQ d (xA e 1)) (lvO (xA e 1).Op) 0++(yL++atS (zQ d (xA e 2)) (lvO (xA e 2).Op) 0)))))):=by
 obtain⟨k,hk⟩:∃k,KK=k+4:=⟨KK-4,by have:=jz (n:=100) ab;omega⟩
 simp only[la,lif,lth,lel]at hb;have i0:idx e.Args 0=some (xA e 0):=qE (i:=0) ab;have i1:idx e.Args 1=some (xA e 1):=qE (i:=1) ab;have i2:idx e.Args 2=some (xA e 2):=qE (i:=2) ab;rw[hk,ke];simp only[show decide ((0:Int)<((3:Nat):Int))=true from rfl,ctQ];rw[zD ae,bsQ,show(([oV,yM,yL]:List ak))[(Int.toNat 0)]?=some oV from rfl,bsQ,yq (by rw[lif];omega),bsQ,i0,bsQ];simp only[];rw[ih 0 ab _ _ (by simp only[la,lif];omega),bsQ,show w64 (0+1)=1 from rfl,ke];simp only[show decide ((1:Int)<((3:Nat):Int))=true from rfl,ctQ];rw[zD ae,bsQ,show(([oV,yM,yL]:List ak))[(Int.toNat 1)]?=some yM from rfl,bsQ,yq (by simp only[la,lif,lth];omega),bsQ,i1,bsQ];simp only[];rw[ih 1 ab _ _ (by simp only[la,lif,lth];omega),bsQ,show w64 (1+1)=2 from rfl,ke];simp only[show decide ((2:Int)<((3:Nat):Int))=true from rfl,ctQ];rw[zD ae,bsQ,show(([oV,yM,yL]:List ak))[(Int.toNat 2)]?=some yL from rfl,bsQ,yq (by simp only[la,lif,lth,lel];omega),bsQ,i2,bsQ];simp only[];rw[ih 2 ab _ _ (by simp only[la,lif,lth,lel];omega),bsQ,show w64 (2+1)=3 from rfl,ke];simp only[show decide ((3:Int)<((3:Nat):Int))=false from rfl,cf,asc]
def zKi{RK d:Nat}{e:Expr}(ih:WrOK RK d e)(hl:e.Args.length=3){b:ak}(hb:b.length+(oV++(atS (zQ d (xA e 0)) (lvO (xA e 0).Op) 0++(yM++(atS (zQ d (xA e 1)) (lvO (xA e 1).Op) 0++(yL++atS (zQ d (xA e 2)) (lvO (xA e 2).Op) 0))))).length<=140737488355328)(c1 c2:Int)(c3 c4:ak):
  kf (xU RK) ((3:Nat):Int) c1 c2 c3 c4 e.Args ([oV,yM,yL]:List ak) KK (b,0)=some (b++(oV++(atS (zQ d (xA e 0)) (lvO (xA e 0).Op) 0++(yM++(atS (zQ d (xA e 1)) (lvO (xA e 1).Op) 0++(yL++atS (zQ d (xA e 2)) (lvO (xA e 2).Op) 0)))))):=by
 obtain⟨k,hk⟩:∃k,KK=k+4:=⟨KK-4,by have:=jz (n:=100) ab;omega⟩
 simp only[la,lif,lth,lel]at hb;have i0:idx e.Args 0=some (xA e 0):=qE (i:=0) ab;have i1:idx e.Args 1=some (xA e 1):=qE (i:=1) ab;have i2:idx e.Args 2=some (xA e 2):=qE (i:=2) ab;rw[hk,kf];simp only[show decide ((0:Int)<((3:Nat):Int))=true from rfl,ctQ];rw[zD ae,bsQ,show(([oV,yM,yL]:List ak))[(Int.toNat 0)]?=some oV from rfl,bsQ,yq (by rw[lif];omega),bsQ,i0,bsQ];simp only[];rw[ih 0 ab _ _ (by simp only[la,lif];omega),bsQ,show w64 (0+1)=1 from rfl,kf];simp only[show decide ((1:Int)<((3:Nat):Int))=true from rfl,ctQ];rw[zD ae,bsQ,show(([oV,yM,yL]:List ak))[(Int.toNat 1)]?=some yM from rfl,bsQ,yq (by simp only[la,lif,lth];omega),bsQ,i1,bsQ];simp only[];rw[ih 1 ab _ _ (by simp only[la,lif,lth];omega),bsQ,show w64 (1+1)=2 from rfl,kf];simp only[show decide ((2:Int)<((3:Nat):Int))=true from rfl,ctQ];rw[zD ae,bsQ,show(([oV,yM,yL]:List ak))[(Int.toNat 2)]?=some yL from rfl,bsQ,yq (by simp only[la,lif,lth,lel];omega),bsQ,i2,bsQ];simp only[];rw[ih 2 ab _ _ (by simp only[la,lif,lth,lel];omega),bsQ,show w64 (2+1)=3 from rfl,kf];simp only[show decide ((3:Int)<((3:Nat):Int))=false from rfl,cf,asc]
def zyz{RK d:Nat}{e:Expr}{b:ak}{f:Int}(hh:wk e=true)(ih:WrOK RK d e)(hb:b.length+(atS (zQ (d+1) e) (lvO e.Op) f).length<=140737488355328):xU (RK+1) b e f=some (b++atS (zQ (d+1) e) (lvO e.Op) f):=by
 obtain⟨⟨h0,h1,hl⟩,⟨n0,n1⟩,hs,hk,_⟩:=Y4 hh;have hsg:=zEn e.Op;have hlv:=zyy e.Op;rw[xU,yW,zEm h0 h1];simp only[bsQ];by_cases o0:e.Op=0
 ·have hT:zQ (d+1) e=Lib.decDigits e.N.toNat:=by rw[zQ,if_pos o0]
  rw[hT]at hb ⊢;have hd:=zei (n:=e.N.toNat) ab;by_cases hf:lvO e.Op<f
  ·rw[AY hf]at hb ⊢
   try simp only[lzQ]at hb
   simp only[dt hf,ctQ,cf,dt o0,];rw[yq (by (try simp only[lzQ]);omega),bsQ]
   try simp only[]
   rw[zkw n0 ab,bsQ]
   try simp only[]
   rw[yq (by (try simp only[lzQ]);omega),bsQ]
   try simp only[]
   rw[KV (by (try simp only[lzQ]);omega),bsQ]
   try simp only[]
   try simp only[asc,i29]
  ·rw[u5 hf]at hb ⊢
   try simp only[lzQ]at hb
   simp only[df hf,ctQ,cf,dt o0,];rw[zkw n0 ab,bsQ]
   try simp only[]
   rw[yq (by (try simp only[lzQ]);omega),bsQ]
   try simp only[]
   try simp only[asc,i29]
 by_cases o1:e.Op=1
 ·have hT:zQ (d+1) e=e.S:=by rw[zQ,if_neg o0,if_pos o1]
  rw[hT]at hb ⊢;by_cases hf:lvO e.Op<f
  ·rw[AY hf]at hb ⊢
   try simp only[lzQ]at hb
   simp only[dt hf,ctQ,cf,df o0,dt o1,];rw[yq (by (try simp only[lzQ]);omega),bsQ]
   try simp only[]
   rw[yq (by (try simp only[lzQ]);omega),bsQ]
   try simp only[]
   rw[KV (by (try simp only[lzQ]);omega),bsQ]
   try simp only[]
   try simp only[asc,i29]
  ·rw[u5 hf]at hb ⊢
   try simp only[lzQ]at hb
   simp only[df hf,ctQ,cf,df o0,dt o1,];rw[yq (by (try simp only[lzQ]);omega),bsQ]
   try simp only[]
   try simp only[asc,i29]
 by_cases o2:e.Op=2
 ·have hT:zQ (d+1) e=wS++(e.S++(t__++e.Key)):=by rw[zQ,if_neg o0,if_neg o1,if_pos o2]
  rw[hT]at hb ⊢;by_cases hf:lvO e.Op<f
  ·rw[AY hf]at hb ⊢
   try simp only[lzQ]at hb
   simp only[dt hf,ctQ,cf,df o0,df o1,dt o2,];rw[yq (by (try simp only[lzQ]);omega),bsQ]
   try simp only[]
   rw[zD (by (try simp only[lzQ]);omega),bsQ]
   try simp only[]
   rw[zD (by (try simp only[lzQ]);omega),bsQ]
   try simp only[]
   rw[zD (by (try simp only[lzQ]);omega),bsQ]
   try simp only[]
   rw[yq (by (try simp only[lzQ]);omega),bsQ]
   try simp only[]
   rw[KV (by (try simp only[lzQ]);omega),bsQ]
   try simp only[]
   try simp only[asc,i29]
  ·rw[u5 hf]at hb ⊢
   try simp only[lzQ]at hb
   simp only[df hf,ctQ,cf,df o0,df o1,dt o2,];rw[zD (by (try simp only[lzQ]);omega),bsQ]
   try simp only[]
   rw[zD (by (try simp only[lzQ]);omega),bsQ]
   try simp only[]
   rw[zD (by (try simp only[lzQ]);omega),bsQ]
   try simp only[]
   rw[yq (by (try simp only[lzQ]);omega),bsQ]
   try simp only[]
   try simp only[asc,i29]
 by_cases o3:e.Op=3
 ·have hT:zQ (d+1) e=oX++e.S:=by rw[zQ,if_neg o0,if_neg o1,if_neg o2,if_pos o3]
  rw[hT]at hb ⊢;by_cases hf:lvO e.Op<f
  ·rw[AY hf]at hb ⊢
   try simp only[lzQ]at hb
   simp only[dt hf,ctQ,cf,df o0,df o1,df o2,dt o3,];rw[yq (by (try simp only[lzQ]);omega),bsQ]
   try simp only[]
   rw[zD (by (try simp only[lzQ]);omega),bsQ]
   try simp only[]
   rw[yq (by (try simp only[lzQ]);omega),bsQ]
   try simp only[]
   rw[KV (by (try simp only[lzQ]);omega),bsQ]
   try simp only[]
   try simp only[asc,i29]
  ·rw[u5 hf]at hb ⊢
   try simp only[lzQ]at hb
   simp only[df hf,ctQ,cf,df o0,df o1,df o2,dt o3,];rw[zD (by (try simp only[lzQ]);omega),bsQ]
   try simp only[]
   rw[yq (by (try simp only[lzQ]);omega),bsQ]
   try simp only[]
   try simp only[asc,i29]
 by_cases o16:e.Op=16
 ·have hT:zQ (d+1) e=oV++(atS (zQ d (xA e 0)) (lvO (xA e 0).Op) 0++(yM++(atS (zQ d (xA e 1)) (lvO (xA e 1).Op) 0++(yL++atS (zQ d (xA e 2)) (lvO (xA e 2).Op) 0)))):=by rw[zQ,if_neg o0,if_neg o1,if_neg o2,if_neg o3,if_pos o16]
  rw[hT]at hb ⊢
  have hn:e.Args.length=3:=by rw[o16]at hl;have:qC 16=3:=rfl;omega
  have i0:idx e.Args 0=some (xA e 0):=qE (i:=0) ab;have i1:idx e.Args 1=some (xA e 1):=qE (i:=1) ab;have i2:idx e.Args 2=some (xA e 2):=qE (i:=2) ab;by_cases hf:lvO e.Op<f
  ·rw[AY hf]at hb ⊢
   try simp only[lzQ]at hb
   simp only[dt hf,ctQ,cf,df o0,df o1,df o2,df o3,dt o16,];rw[yq (by (try simp only[lzQ]);omega),bsQ]
   try simp only[]
   rw[zKh ih hn (by (try simp only[lzQ]);omega),bsQ]
   try simp only[]
   rw[KV (by (try simp only[lzQ]);omega),bsQ]
   try simp only[]
   try simp only[asc,i29]
  ·rw[u5 hf]at hb ⊢
   try simp only[lzQ]at hb
   simp only[df hf,ctQ,cf,df o0,df o1,df o2,df o3,dt o16,];rw[zKi ih hn (by (try simp only[lzQ]);omega),bsQ]
   try simp only[]
   try simp only[asc,i29]
 by_cases o15:e.Op=15
 ·have hT:zQ (d+1) e=Wa++atS (zQ d (xA e 0)) (lvO (xA e 0).Op) 3:=by rw[zQ,if_neg o0,if_neg o1,if_neg o2,if_neg o3,if_neg o16,if_pos o15]
  rw[hT]at hb ⊢
  have hn:e.Args.length=1:=by rw[o15]at hl;have:qC 15=1:=rfl;omega
  have i0:idx e.Args 0=some (xA e 0):=qE (i:=0) ab
  have hv:lvO e.Op=3:=by rw[o15];rfl
  by_cases hf:lvO e.Op<f
  ·rw[AY hf]at hb ⊢
   try simp only[lzQ]at hb
   simp only[dt hf,ctQ,cf,df o0,df o1,df o2,df o3,df o16,dt o15,];rw[yq (by (try simp only[lzQ]);omega),bsQ]
   try simp only[]
   rw[yq (by (try simp only[lzQ]);omega),bsQ]
   try simp only[]
   rw[i0,bsQ]
   try simp only[]
   simp only[hv];rw[ih 0 ab _ _ (by (try simp only[lzQ]);omega),bsQ]
   try simp only[]
   rw[KV (by (try simp only[lzQ]);omega),bsQ]
   try simp only[]
   try simp only[asc,i29]
  ·rw[u5 hf]at hb ⊢
   try simp only[lzQ]at hb
   simp only[df hf,ctQ,cf,df o0,df o1,df o2,df o3,df o16,dt o15,];rw[yq (by (try simp only[lzQ]);omega),bsQ]
   try simp only[]
   rw[i0,bsQ]
   try simp only[]
   simp only[hv];rw[ih 0 ab _ _ (by (try simp only[lzQ]);omega),bsQ]
   try simp only[]
   try simp only[asc,i29]
 by_cases o9:e.Op=9
 ·have hT:zQ (d+1) e=J2++atS (zQ d (xA e 0)) (lvO (xA e 0).Op) 7:=by rw[zQ,if_neg o0,if_neg o1,if_neg o2,if_neg o3,if_neg o16,if_neg o15,if_pos o9]
  rw[hT]at hb ⊢
  have hn:e.Args.length=1:=by rw[o9]at hl;have:qC 9=1:=rfl;omega
  have i0:idx e.Args 0=some (xA e 0):=qE (i:=0) ab
  have hv:lvO e.Op=7:=by rw[o9];rfl
  by_cases hf:lvO e.Op<f
  ·rw[AY hf]at hb ⊢
   try simp only[lzQ]at hb
   simp only[dt hf,ctQ,cf,df o0,df o1,df o2,df o3,df o16,df o15,dt o9,];rw[yq (by (try simp only[lzQ]);omega),bsQ]
   try simp only[]
   rw[yq (by (try simp only[lzQ]);omega),bsQ]
   try simp only[]
   rw[i0,bsQ]
   try simp only[]
   simp only[hv];rw[ih 0 ab _ _ (by (try simp only[lzQ]);omega),bsQ]
   try simp only[]
   rw[KV (by (try simp only[lzQ]);omega),bsQ]
   try simp only[]
   try simp only[asc,i29]
  ·rw[u5 hf]at hb ⊢
   try simp only[lzQ]at hb
   simp only[df hf,ctQ,cf,df o0,df o1,df o2,df o3,df o16,df o15,dt o9,];rw[yq (by (try simp only[lzQ]);omega),bsQ]
   try simp only[]
   rw[i0,bsQ]
   try simp only[]
   simp only[hv];rw[ih 0 ab _ _ (by (try simp only[lzQ]);omega),bsQ]
   try simp only[]
   try simp only[asc,i29]
 ·have hT:zQ (d+1) e=atS (zQ d (xA e 0)) (lvO (xA e 0).Op) (if lvO e.Op=4 then 5 else lvO e.Op)++(t__++(sgO e.Op++(t__++atS (zQ d (xA e 1)) (lvO (xA e 1).Op) (lvO e.Op+1)))):=by rw[zQ,if_neg o0,if_neg o1,if_neg o2,if_neg o3,if_neg o16,if_neg o15,if_neg o9]
  rw[hT]at hb ⊢
  have hn:e.Args.length=2:=by
   have:qC e.Op=2:=by unfold qC;rw[if_neg ab,if_neg ab,if_neg o16]
   omega
  have hbin:zvv e.Op=true:=by unfold zvv;exact dt ab
  have i0:idx e.Args 0=some (xA e 0):=qE (i:=0) ab;have i1:idx e.Args 1=some (xA e 1):=qE (i:=1) ab
  have hx:(bif (decide (lvO e.Op=4))then some (lvO e.Op+1)else some (lvO e.Op))=some (if lvO e.Op=4 then 5 else lvO e.Op):=by
   by_cases h4:lvO e.Op=4
   ·rw[dt h4,if_pos h4,h4];rfl
   ·rw[df h4,if_neg h4];rfl
  have hw:w64 (lvO e.Op+1)=lvO e.Op+1:=wa ab ab;by_cases hf:lvO e.Op<f
  ·rw[AY hf]at hb ⊢
   try simp only[lzQ]at hb
   simp only[dt hf,ctQ,cf,df o0,df o1,df o2,df o3,df o16,df o15,df o9,hbin,hx,hw,bsQ];rw[yq (by (try simp only[lzQ]);omega),bsQ]
   try simp only[]
   rw[i0,bsQ]
   try simp only[]
   rw[ih 0 ab _ _ (by (try simp only[lzQ]);omega),bsQ]
   try simp only[]
   rw[zD (by (try simp only[lzQ]);omega),bsQ]
   try simp only[]
   rw[zD (by (try simp only[lzQ]);omega),bsQ]
   try simp only[]
   rw[yq (by (try simp only[lzQ]);omega),bsQ]
   try simp only[]
   rw[i1,bsQ]
   try simp only[]
   rw[ih 1 ab _ _ (by (try simp only[lzQ]);omega),bsQ]
   try simp only[]
   rw[KV (by (try simp only[lzQ]);omega),bsQ]
   try simp only[]
   try simp only[asc,i29]
  ·rw[u5 hf]at hb ⊢
   try simp only[lzQ]at hb
   simp only[df hf,ctQ,cf,df o0,df o1,df o2,df o3,df o16,df o15,df o9,hbin,hx,hw,bsQ];rw[i0,bsQ]
   try simp only[]
   rw[ih 0 ab _ _ (by (try simp only[lzQ]);omega),bsQ]
   try simp only[]
   rw[zD (by (try simp only[lzQ]);omega),bsQ]
   try simp only[]
   rw[zD (by (try simp only[lzQ]);omega),bsQ]
   try simp only[]
   rw[yq (by (try simp only[lzQ]);omega),bsQ]
   try simp only[]
   rw[i1,bsQ]
   try simp only[]
   rw[ih 1 ab _ _ (by (try simp only[lzQ]);omega),bsQ]
   try simp only[]
   try simp only[asc,i29]
def zv3:∀(d:Nat)(e:Expr)(K:Nat)(b:ak)(f:Int),okE d e=true->d<K->b.length+(atS (zQ d e) (lvO e.Op) f).length<=140737488355328->xU K b e f=some (b++atS (zQ d e) (lvO e.Op) f)
 |0,e,K,b,f,h,_,_=>by cases h
 |d+1,e,K,b,f,h,hK,hb=>by
  obtain⟨K,rfl⟩:∃k,K=k+1:=⟨K-1,ab⟩
  rw[okE,bn]at h;exact zyz h.1 (λi hi b f hb=>zv3 d _ K b f (List.all_eq_true.1 h.2 _ (zEw hi)) ab hb) hb
def zKj{d:Nat}(h:d<=12):100*4 ^ d<=1677721600:=by
 have:4 ^ d<=4 ^ 12:=Nat.pow_le_pow_right ab h;have:(4:Nat) ^ 12=16777216:=rfl;omega
def at_root{d:Nat}{e:Expr}:atS (zQ d e) (lvO e.Op) 0=zQ d e:=u5 (by have:=zyy e.Op;omega)
def zy0{e:Expr}(h:okE 12 e=true):xU KK [] e 0=some (zQ 12 e):=by
 have hl:=zvw 12 e h;have hp:=zKj (d:=12) ab;have:=zv3 12 e KK [] 0 h (jz ab) (by rw[at_root];simp only[List.length_nil];omega);rw[at_root,List.nil_append]at this;exact this
def TokN:Int⊕ak->Prop
 |.inl n=>Ap n
 |.inr _=>True
def zKk{s:ak}(h:s.length<=140737488355328):(((bif (!(decide (s=([]:ak))))then(idx s (w64 (((List.length s:Nat):Int)-1))).bind λx6=>some (!(decide (((x6.toNat:Nat):Int)=10)))else some false)).bind λx5=>(bif x5 then(JD s 32).bind λx7=>some x7 else some s))=(grd ((zsm s).length<=140737488355328)).bind λ_=>some (zsm s):=by
 cases s with
 |nil=>rfl
 |cons c r =>
  have hn:¬(c::r)=[]:=af
  rw[df hn,Bool.not_false,ctQ,wa (by simp only[lc];omega) ab,show((((c::r).length:Nat):Int)-1)=(((c::r).length-1:Nat):Int) by simp only[lc];omega];have hg:(c::r)[(c::r).length-1]?=(c::r).getLast?:=(List.getLast?_eq_getElem? ..).symm
  obtain⟨a,ha⟩:∃a,(c::r).getLast?=some a:=by
   cases h:(c::r).getLast? with
   |none=>exact absurd (List.getLast?_eq_none_iff.1 h) hn
   |some a=>exact⟨a,rfl⟩
  rw[ye (hg.trans ha),bsQ,bsQ];unfold zsm;rw[show(c::r).isEmpty=false from rfl,Bool.false_or,ha]
  have e:decide (((a.toNat:Nat):Int)=10)=decide (some a=some (10:UInt8)):=yE (by
   constructor
   ·intro h;rw[UInt8.toNat_inj.1 (show a.toNat=(10:UInt8).toNat by show a.toNat=10;omega)]
   ·intro h;cases h;rfl)
  rw[e]
  cases hd:decide (some a=some (10:UInt8))with
  |true =>
   simp only[Bool.not_true,cf,ctQ];rw[zD h];rfl
  |false =>
   simp only[Bool.not_false,cf,ctQ];unfold JD zuj
   have:((0:Int)<=32/\(32:Int)<256/\(c::r).length+1<=140737488355328)↔((c::r)++[32]).length<=140737488355328:=by simp only[la,List.length_singleton];omega
   by_cases hl:((c::r)++[32]).length<=140737488355328
   ·rw[zD (this.2 hl),zD hl];rfl
   ·unfold grd
    rw[if_neg hl,if_neg (λh=>hl (this.1 h))];rfl
def zSg(s:ak):s.length<=(zsm s).length:=by
 unfold zsm
 cases s.isEmpty||decide (s.getLast?=some 10)
 ·simp only[cf,la];omega
 ·exact Nat.le_refl _
def zEx(s:ak)(x:Int⊕ak):s.length<=(zkt s x).length:=by
 unfold zkt;have:=zSg s;rw[la];omega
def zv4:∀(l:List (Int⊕ak))(s:ak),s.length<=(l.foldl zkt s).length
 |[],s=>Nat.le_refl _
 |x::l,s=>by
  rw[List.foldl_cons];have:=zEx s x;have:=zv4 l (zkt s x);omega
def zYh(l:List (Int⊕ak))(hs:l.length<4611686018427387904)(hN:∀x∈l,TokN x):∀(r:List (Int⊕ak))(i K:Nat)(s:ak),l.drop i=r->i<=l.length->r.length<K->(r.foldl zkt s).length<=140737488355328 ->
  oG l (List.length l:Nat) K (s,(i:Int))=some (r.foldl zkt s)
 |[],i,K,s,hr,hi,hK,hb=>by
  obtain⟨K,rfl⟩:∃k,K=k+1:=⟨K-1,by simp at hK;omega⟩
  have:=drop_nil hr hi;subst this;rw[oG];simp only[ko,cf,List.foldl_nil]
 |x::r,i,K,s,hr,hi,hK,hb=>by
  obtain⟨K,rfl⟩:∃k,K=k+1:=⟨K-1,by simp at hK;omega⟩
  obtain⟨h1,h2,h3⟩:=wb hr;simp only[lc]at hK;rw[List.foldl_cons]at hb ⊢;have l1:=zv4 r (zkt s x);have l2:=zEx s x
  have l3:(zsm s).length+(QE x).length<=140737488355328:=by
   have:(zkt s x).length=(zsm s).length+(QE x).length:=by unfold zkt;rw[la]
   omega
  have hx:=hN x (List.mem_of_getElem? h1)
  have key:((((bif (!(decide (s=([]:ak))))then(idx s (w64 (((List.length s:Nat):Int)-1))).bind λx6=>some (!(decide (((x6.toNat:Nat):Int)=10)))else some false)).bind λx5=>(bif x5 then(JD s 32).bind λx7=>some x7 else some s))).bind (λx3=>(bif (zPy x)then(Ah x3 (anyS x)).bind λx8=>some x8.2 else(bif (!(zPy x))then((bif (decide ((anyI x)<0))then(Ah x3 J2).bind λx10=>some (x10.2,(w64 (0-(anyI x))))else some (x3,(anyI x)))).bind λx9=>(Zp x9.2).bind λx11=>(Ah x9.1 x11).bind λx12=>some x12.2 else some x3)))=some (zkt s x):=by
   rw[zKk ab,zD ab,bsQ,bsQ]
   cases x with
   |inr t =>
    simp only[zPy,anyS,ctQ];rw[zbj (show(zsm s).length+t.length<=_ from l3)];rfl
   |inl n =>
    obtain⟨g0,g1⟩:-9223372036854775807<=n/\n<=9223372036854775807:=hx
    show((bif (decide (n<0))then(Ah (zsm s) J2).bind λx10=>some (x10.2,(w64 (0-n)))else some ((zsm s),n)).bind λx9=>(Zp x9.2).bind λx11=>(Ah x9.1 x11).bind λx12=>some x12.2)=_
    rw[Vs]at l3;by_cases hn:n<0
    ·rw[if_pos hn]at l3
     simp only[lc]at l3;rw[dt hn,ctQ,zbj (by rw[lmi];omega),bsQ,bsQ,wa ab ab];simp only[];rw[zkw ab ab,bsQ,show(0-n).toNat=n.natAbs by omega,zbj (by rw[la,lmi];omega),bsQ];unfold zkt;rw[Vs,if_pos hn,asc];rfl
    ·rw[if_neg hn]at l3
     rw[df hn,cf,bsQ];simp only[];rw[zkw ab ab,bsQ,zbj ab,bsQ];unfold zkt;rw[Vs,if_neg hn]
  rw[oG];simp only[HQ h1,ctQ,ye h1,HB,bsQ];rw[key,bsQ,xB ab];exact zYh l hs hN r (i+1) K _ h2 ab ab hb
def put_eq{l:List (Int⊕ak)}{s:ak}(hs:l.length<4611686018427387904)(hN:∀x∈l,TokN x)(hb:(l.foldl zkt s).length<=140737488355328):yw s l=some (l.foldl zkt s):=by
 unfold yw;rw[show(0:Int)=((0:Nat):Int) from rfl,zYh l hs hN l 0 KK s rfl (Nat.zero_le _) (jz ab) hb];rfl
def VC(s:ak):Prop:=s=[]∨s.getLast?=some 10
def zEy{s:ak}(h:VC s):zsm s=s:=by
 unfold zsm
 rcases h with rfl|h
 ·rfl
 ·rw[dt h,Bool.or_true];rfl
def zKl{s:ak}:VC (s++[10]):=.inr (by rw[List.getLast?_append];rfl)
def zT6(x:Int⊕ak):Prop:=TokN x/\Good (QE x)
def JQ(a b:List (Int⊕ak)):spT (a++b)=spT a++spT b:=List.flatMap_append
def zbl(x:Int⊕ak)(b:List (Int⊕ak)):spT (x::b)=32::QE x++spT b:=rfl
def vd{l:List (Int⊕ak)}{s:ak}(hg:Good s)(hl:∀x∈l,zT6 x)(hs:l.length<4611686018427387904)(hb:(s++spT l).length<=140737488355328):yw s l=some (s++spT l)/\Good (s++spT l):=by
 obtain⟨h1,h2⟩:=zee hg (λx hx=>(hl x hx).2);rw[<- h1]at hb ⊢;exact⟨put_eq hs (λx hx=>(hl x hx).1) hb,h1▸h2⟩
def AZ{x:Int⊕ak}{l:List (Int⊕ak)}{s:ak}(hg:VC s)(hl:∀y∈x::l,zT6 y)(hs:l.length<1000)(hb:(s++(QE x++spT l)).length<=140737488355328):yw s (x::l)=some (s++(QE x++spT l))/\Good (s++(QE x++spT l)):=by
 have e:zkt s x=s++QE x:=by unfold zkt;rw[zEy hg]
 have hg2:Good (s++QE x):=xf (hl x al).2;obtain⟨h1,h2⟩:=zee hg2 (λy hy=>(hl y (mcQ _ hy)).2);rw[asc]at h1 h2;refine⟨?_,h2⟩;have:=put_eq (l:=x::l) (s:=s) (by simp only[lc];omega) (λy hy=>(hl y hy).1) (by rw[List.foldl_cons,e,h1];exact hb);rw[this,List.foldl_cons,e,h1]
def zEz:Good yg:=⟨ae,ae⟩
def WM{s:ak}(hg:Good s)(hb:(s++[32,59,10]).length<=140737488355328):qw s=some (s++[32,59,10])/\VC (s++[32,59,10]):=by
 simp only[la,lc,List.length_nil]at hb;unfold qw;rw[(vd (l:=[Sum.inr yg]) hg (λx hx=>by rw[msQ.1 hx];exact⟨trivial,zEz⟩) ae (by simp only[la,show(spT [Sum.inr yg]).length=2 from rfl];omega)).1,bsQ];unfold JD zuj;rw[zD ⟨ae,ae,by simp only[la,show(spT [Sum.inr yg]).length=2 from rfl];omega⟩,bsQ,bsQ]
 have e:s++spT [Sum.inr yg]++[UInt8.ofNat (Int.toNat 10)]=s++[32,59,10]:=by rw[asc];rfl
 rw[e];refine⟨rfl,?_⟩;have:=zKl (s:=s++[32,59]);simpa using this
def zpj{α:Type}(l:List α)(g:α->ak)(L:Nat->Int->ak->Option ak)(M:Nat)(Inv:ak->Prop)
  (hL:∀K (i:Nat) x s,l[i]?=some x->Inv s->(s++g x).length<=M->L (K+1) (i:Int) s=L K ((i+1:Nat):Int) (s++g x)/\Inv (s++g x)) (hE:∀K s,L (K+1) (l.length:Int) s=some s):
  ∀(r:List α)(i K:Nat)(s:ak),l.drop i=r->i<=l.length->r.length<K->Inv s->(s++r.flatMap g).length<=M->L K (i:Int) s=some (s++r.flatMap g)/\Inv (s++r.flatMap g)
 |[],i,K,s,hr,hi,hK,hI,hM=>by
  obtain⟨K,rfl⟩:∃k,K=k+1:=⟨K-1,by simp at hK;omega⟩
  have:=drop_nil hr hi;subst this;rw[hE];simp only[List.flatMap_nil,List.append_nil,true_and];exact hI
 |x::r,i,K,s,hr,hi,hK,hI,hM=>by
  obtain⟨K,rfl⟩:∃k,K=k+1:=⟨K-1,by simp at hK;omega⟩
  obtain⟨h1,h2,h3⟩:=wb hr;simp only[lc]at hK;rw[List.flatMap_cons,<- asc]at hM ⊢;obtain⟨e1,e2⟩:=hL K i x s h1 hI (by rw[la]at hM;omega);rw[e1];exact zpj l g L M Inv hL hE r (i+1) K _ h2 ab ab e2 hM
def vQ{α:Type}(l:List α)(g:α->ak)(L:Nat->Int->ak->Option ak)(M:Nat)(Inv:ak->Prop){s:ak}(hs:l.length<4611686018427387904)(h0:Inv s)(hM:(s++l.flatMap g).length<=M)
  (hL:∀K (i:Nat) x s,l[i]?=some x->Inv s->(s++g x).length<=M->L (K+1) (i:Int) s=L K ((i+1:Nat):Int) (s++g x)/\Inv (s++g x)) (hE:∀K s,L (K+1) (l.length:Int) s=some s):
  L KK 0 s=some (s++l.flatMap g)/\Inv (s++l.flatMap g):=zpj l g L M Inv hL hE l 0 KK s rfl (Nat.zero_le _) (jz ab) h0 hM
def WN{α:Type}(l:List α)(f:α->List (Int⊕ak)):spT (l.flatMap f)=l.flatMap λx=>spT (f x):=by
 unfold spT;rw[List.flatMap_assoc]
-- what tokens look like
def zky:∀n:Nat,Good (Lib.decDigits n)
 |n=>by
  have hb:∀m<10,UInt8.ofNat (48+m)≠10:=ae
  rw[Lib.decDigits];by_cases h:n<10
  ·rw[dif_pos h];exact⟨af,by simpa using hb n h⟩
  ·rw[dif_neg h]
   exact xf ⟨af,by simpa using hb (n % 10) ab⟩
def zKm(n:Int):Good (QE (.inl n)):=by
 rw[Vs];split
 ·exact xf (s:=[45,32]) (zky _)
 ·exact zky _
def As{s:ak}(h:zN s=true):Good s:=by
 have hn:=AX h;unfold zN at h;simp only[bn]at h;have ha:=List.all_eq_true.1 (YV h.1);refine⟨hn.2,λhl=>?_⟩;have:=ha 10 (List.mem_of_getLast? hl);revert this;decide
def zkz{t:ak}{a b:Int}(h:Good t):Good (atS t a b):=by
 unfold atS;split
 ·rw[<- asc]
  exact xf ⟨ae,ae⟩
 ·exact h
def zek:∀(d:Nat)(e:Expr),okE d e=true->Good (zQ d e)
 |0,e,h=>by cases h
 |d+1,e,h=>by
  rw[okE,bn]at h;obtain⟨hh,ha⟩:=h;obtain⟨⟨h0,h1,hl⟩,_,_,_,hs,hk⟩:=Y4 hh
  have arg:∀i,i<e.Args.length->Good (zQ d (xA e i)):=λi hi=>zek d _ (List.all_eq_true.1 ha _ (zEw hi))
  rw[zQ];by_cases o0:e.Op=0
  ·rw[if_pos o0];exact zky _
  rw[if_neg o0];by_cases o1:e.Op=1
  ·rw[if_pos o1];exact As (hs (.inl o1))
  rw[if_neg o1];by_cases o2:e.Op=2
  ·rw[if_pos o2];exact xf (xf (xf (As (hk o2))))
  rw[if_neg o2];by_cases o3:e.Op=3
  ·rw[if_pos o3];exact xf (As (hs (.inr (.inr o3))))
  rw[if_neg o3];by_cases o16:e.Op=16
  ·rw[if_pos o16]
   have:e.Args.length=3:=by rw[o16]at hl;have:qC 16=3:=rfl;omega
   exact xf (xf (xf (xf (xf (zkz (arg 2 ab))))))
  rw[if_neg o16];by_cases o15:e.Op=15
  ·rw[if_pos o15]
   have:e.Args.length=1:=by rw[o15]at hl;have:qC 15=1:=rfl;omega
   exact xf (zkz (arg 0 ab))
  rw[if_neg o15];by_cases o9:e.Op=9
  ·rw[if_pos o9]
   have:e.Args.length=1:=by rw[o9]at hl;have:qC 9=1:=rfl;omega
   exact xf (zkz (arg 0 ab))
  rw[if_neg o9]
  have:e.Args.length=2:=by
   have:qC e.Op=2:=by unfold qC;rw[if_neg ab,if_neg ab,if_neg o16]
   omega
  exact xf (xf (xf (xf (zkz (arg 1 ab)))))
abbrev Tok:=Int⊕ak
def u6:List ak:=[zVw,zVz,zV0,zVy,zQz,zVv]
def JR:List ak:=[zQy,zCs,zJb]
def zss:vz zj=some u6:=by
 unfold vz Jf;rw[zD ah,bsQ];exact congrArg some ah
def zpk:vz zX=some JR:=by
 unfold vz Jf;rw[zD ah,bsQ];exact congrArg some ah
def zzk(d:Def):List Tok:=[.inr wR,.inr d.Name,.inr Az,.inr (zQ 12 d.Body)]
def zst(x:Entry):List Tok:=[.inr x.Name,.inl x.N]
def J9(t:Table):List Tok:=[.inr yz,.inr t.Name]++(t.Rows.flatMap zst++[.inr yY,.inl t.Else])
def ptT(p:zV):List Tok:=[.inl p.X,.inl p.Y]
def zel(z:yp):List Tok:=[.inr (bif z.Overlay then yI else xh),.inr z.Name]++z.Corners.flatMap ptT
def W3(p:zg):List Tok:=[.inl p.X,.inl p.Y,.inl p.Z_]
def zE0(c:Cap):List Tok:=[.inr V7,.inr c.Name,.inr (JR.getD c.Load.toNat []),.inl c.Limit]++c.Corners.flatMap ptT
def zem(v:View):List Tok:=[.inr AJ,.inr v.Name,.inl v.Eye.X,.inl v.Eye.Y,.inl v.Eye.Z_,.inr vG,.inl v.Least,.inr xI]++v.Targets.flatMap W3
def xS(w:ak)(l:List ak):List Tok:=bif l.isEmpty then[]else .inr w::l.map .inr
def ve(w:ak)(n:Int):List Tok:=if n=0 then[]else[.inr w,.inl n]
def zsu(u:Int)(i:Nat):List Tok:=bif Nat.testBit u.toNat i then[.inr (u6.getD i [])]else[]
def KX(r:zO):List Tok :=
 if r.Kind=0 then[.inr (zQ 12 r.Test)]
 else if r.Kind=1 then[.inr qi,.inl r.zy.Side,.inr AI,.inl r.zy.Base,.inr jx,.inl r.zy.Num,.inl r.zy.Den]
 else if r.Kind=3 then[.inr qh,.inr (u6.getD r.Uses.toNat []),.inr (u6.getD r.Other.toNat []),.inl r.N]
 else .inr oW::(List.range 6).flatMap (zsu r.Uses)
def Vv(r:zO):List Tok:=[.inr ua,.inr r.Name]++(xS ze1 r.Zones++(xS yU r.Except++(ve vw r.From++(ve xC r.Until++(ve xO r.Grace++((bif r.Vary then[.inr wm]else[])++(.inr xI::KX r)))))))
def zE1:List zg->List Tok
 |[]=>[]
 |p::r=>(.inr Jm::W3 p)++r.flatMap λp=>.inr qa::W3 p
def QV(n:Int):List Tok:=[.inr kE,.inl n]
def HR(p:yX):ak :=
 p.Defs.flatMap (λx=>yf (zzk x))++(p.Tables.flatMap (λx=>yf (J9 x))++(p.Zones.flatMap (λx=>yf (zel x))++(p.Rules.flatMap (λx=>yf (Vv x))++(p.Caps.flatMap (λx=>yf (zE0 x))++(p.Views.flatMap (λx=>yf (zem x)) ++
 ((bif p.Sun.isEmpty then[]else yf (zE1 p.Sun))++(if p.Hours=0 then[]else yf (QV p.Hours))))))))
def jH(x:Tok)(l:List Tok):yf (x::l)=QE x++(spT l++[32,59,10]):=by rw[yf,asc]
-- names joined
def zsv:List ak->ak
 |[]=>[]
 |n::r=>n++r.flatMap λx=>32::x
def zSh:∀{l:List ak},l≠[]->32::zsv l=spT (l.map Sum.inr)
 |n::r,_=>by
  rw[zsv,mk9,zbl]
  have:∀r:List ak,r.flatMap (λx=>32::x)=spT (r.map Sum.inr):=λr=>by
   unfold spT;rw[List.flatMap_map];rfl
  rw[this];rfl
def zKn{m:Nat}(h1:2<=m)(h2:m<=10000):((grd ((w64 (((m:Nat):Int)-1))≠0)).bind λ_=>(bif (decide (((1:Nat):Int)>=(w64 (Int.tdiv 9223372036854775807 (w64 (((m:Nat):Int)-1))))))then none else some (w64 (0+(w64 (((1:Nat):Int)*(w64 (((m:Nat):Int)-1))))))))=some ((m:Int)-1):=by
 have e:w64 (((m:Nat):Int)-1)=((m-1:Nat):Int):=by rw[wa ab ab];omega
 have hq:2<=9223372036854775807 / (m-1):=(Nat.le_div_iff_mul_le ab).2 ab;have hq2:9223372036854775807 / (m-1)<=9223372036854775807:=Nat.div_le_self _ _;have et:Int.tdiv 9223372036854775807 ((m-1:Nat):Int)=((9223372036854775807 / (m-1):Nat):Int):=rfl;rw[e,zD ab,bsQ,et,wa ab ab,df ab,cf,wa (n:=((1:Nat):Int)*((m-1:Nat):Int)) ab ab,wa ab ab];exact congrArg some ab
def join_eq{l:List ak}(h0:l≠[])(h1:l.length<=10000)(h2:∀s∈l,s.length<=8000):znu l t__=some (zsv l):=by
 unfold znu J.qJ
 obtain⟨n,r,rfl⟩:∃n r,l=n::r:=by
  cases l with
  |nil=>exact absurd rfl h0
  |cons n r=>exact⟨n,r,rfl⟩
 rw[df (show ¬(((n::r).length:Nat):Int)=0 by simp only[lc];omega),cf];by_cases hr:r=[]
 ·subst hr
  rw[dt (show((([n]:List ak).length:Nat):Int)=1 from rfl),ctQ,show idx [n] 0=some n from rfl];simp[zsv]
 ·have hr1:1<=r.length:=by
   cases r with
   |nil=>exact absurd rfl hr
   |cons=>simp
  have hlen:(n::r).length=r.length+1:=rfl;rw[df (show ¬(((n::r).length:Nat):Int)=1 by omega),cf,dt (show((List.length t__:Nat):Int)>0 by decide),ctQ];have:=zKn (m:=(n::r).length) ab ab;rw[show(List.length t__:Nat)=1 from rfl,this,bsQ]
  have hsum:=zed (n::r) (λ(s:Int) x=>s+((x.length:Nat):Int)) (λs=>some s) (λi s=>0<=s/\s<=10000+8000*(i:Int)) (λK q s=>J.yG (n::r) t__ (List.length (n::r):Nat) K (s,q)) ((((n::r).length:Nat):Int)-1) ab ⟨ab,ab⟩ (λK i x s hx hs=>by
   have hi:=AA hx;have h30:=h2 x (List.mem_of_getElem? hx);refine⟨?_,ab,ab⟩
   show J.yG _ _ _ (K+1) (s,(i:Int))=_
   rw[J.yG];simp only[HQ hx,ctQ,ye hx,bsQ]
   rw[wa (n:=9223372036854775807-s) ab ab,df ab,cf,wa ab ab,xB ab]) (λK s hs=>by
   show J.yG _ _ _ (K+1) (s,_)=_
   rw[J.yG]
   simp only[ko,cf])
  obtain⟨e1,e2,e3⟩:=hsum;rw[e1,bsQ]
  have hg:J.zui (List.foldl (λ(s:Int) x=>s+((x.length:Nat):Int)) ((((n::r).length:Nat):Int)-1) (n::r))=some []:=by
   unfold J.zui J.zCn;rw[zD ab];rfl
  have hn:=h2 n al
  have hb:J.yT [] n=some (((n.length:Nat):Int),n):=by
   unfold J.yT;rw[zD (by simp only[List.length_nil];omega)];rfl
  have hc:cut (n::r) 1 (((n::r).length:Nat):Int)=some r:=by
   have:=zkj (l:=n::r) (a:=1) ab;simpa using this
  have hi0:idx (n::r) 0=some n:=ye (i:=0) rfl;rw[hg,bsQ,hi0,bsQ,hb,bsQ,hc,bsQ]
  have ht:=vQ r (λx=>32::x) (λK q s=>J.yH t__ r (List.length r:Nat) K (q,s)) 1000000000 (λ_=>True) (s:=n) ab trivial (by
    have:∀r:List ak,(∀s∈r,s.length<=8000)->(r.flatMap λx=>32::x).length<=8001*r.length:=λr=>by
     induction r with
     |nil=>intro _;simp
     |cons a r ih=>intro h;have:=ih (λs hs=>h s (mcQ _ hs));have:=h a al;simp only[List.flatMap_cons,la,lc];omega
    have:=this r (λs hs=>h2 s (mcQ _ hs))
    rw[la];refine Nat.le_trans (Nat.add_le_add_left this _) ?_;omega) (λK i x s hx _ hM=>by
   have hi:=AA hx;refine⟨?_,trivial⟩
   show J.yH _ _ _ (K+1) ((i:Int),s)=_
   simp only[la,lc]at hM;rw[J.yH];simp only[HQ hx,ctQ,ye hx,bsQ,J.yT]
   rw[zD (by rw[lsp];omega),bsQ,bsQ,zD (by rw[la,lsp];omega),bsQ,bsQ,xB ab,asc];rfl) (λK s=>by
   show J.yH _ _ _ (K+1) (_,s)=_
   rw[J.yH]
   simp only[ko,cf])
  rw[ht.1];rfl
def u7{n:Int}(h:Ap n):zT6 (.inl n):=⟨h,zKm n⟩
def xE{s:ak}(h:Good s):zT6 (.inr s):=⟨trivial,h⟩
def Au{c:UInt8}{r:ak}(h:∀x∈c::r,x≠10):Good (c::r):=⟨af,λhl=>h 10 (List.mem_of_getLast? hl) rfl⟩
def JS{α:Type}{a x:α}(h:x∈[a]):x=a:=msQ.1 h
def zpl{s:ak}{e:Expr}(hg:Good s)(hk:okE 12 e=true)(hb:(s++(spT [.inr (zQ 12 e)]++[32,59,10])).length<=140737488355328):Qt s e=some (s++(spT [.inr (zQ 12 e)]++[32,59,10]))/\VC (s++(spT [.inr (zQ 12 e)]++[32,59,10])):=by
 have hb2:(s++spT [.inr (zQ 12 e)]++[32,59,10]).length<=140737488355328:=by rw[asc];exact hb
 obtain⟨h1,h2⟩:=vd (l:=[.inr (zQ 12 e)]) hg (λx hx=>by rw[JS hx];exact xE (zek 12 e hk)) af (by rw[la]at hb2;omega);obtain⟨h3,h4⟩:=WM h2 hb2;rw[asc]at h3 h4;unfold Qt;rw[yW,zy0 hk,bsQ];unfold qg;rw[bsQ,h1,bsQ,h3];exact⟨rfl,h4⟩
def zen{s:ak}{l:List zV}(hg:Good s)(hn:∀p∈l,Ap p.X/\Ap p.Y)(hl:l.length<=64)(hb:(s++(spT (l.flatMap ptT)++[32,59,10])).length<=140737488355328):HC s l=some (s++(spT (l.flatMap ptT)++[32,59,10]))/\VC (s++(spT (l.flatMap ptT)++[32,59,10])):=by
 have hb2:(s++spT (l.flatMap ptT)++[32,59,10]).length<=140737488355328:=by rw[asc];exact hb
 rw[WN]at hb2 ⊢
 have ht:=vQ l (λp=>spT (ptT p)) (λK q s=>xY l (List.length l:Nat) K (s,q)) 140737488355328 Good (s:=s) ab hg (by rw[la]at hb2;omega) (λK i x s hx hI hM=>by
  have hi:=AA hx;obtain⟨n1,n2⟩:=hn x (List.mem_of_getElem? hx)
  obtain⟨p1,p2⟩:=vd (l:=ptT x) hI (λy hy=>by
   rcases List.mem_cons.1 hy with rfl|hy
   ·exact u7 n1
   ·rw[JS hy];exact u7 n2) (by simp[ptT]) hM
  refine⟨?_,p2⟩
  show xY _ _ (K+1) (s,(i:Int))=_
  rw[xY];simp only[HQ hx,ctQ,ye hx,bsQ]
  rw[show([(Sum.inl x.X),(Sum.inl x.Y)]:List (Int⊕ak))=ptT x from rfl,p1,bsQ,xB ab]) (λK s=>by
  show xY _ _ (K+1) (s,_)=_
  rw[xY]
  simp only[ko,cf])
 obtain⟨h3,h4⟩:=WM ht.2 hb2;rw[asc]at h3 h4;unfold HC;rw[ht.1,bsQ,h3];exact⟨rfl,h4⟩
def zE2{l:List ak}(h0:l≠[])(hn:∀s∈l,zN s=true):Good (zsv l):=by
 have key:∀(r:List ak)(n:ak),Good n->(∀s∈r,zN s=true)->Good (n++r.flatMap λx=>32::x):=λr=>by
  induction r with
  |nil=>intro n hg _;simpa using hg
  |cons a r ih =>
   intro n hg h
   have:=ih (n++32::a) (by
    have:=xf (s:=n++[32]) (As (h a al))
    simpa using this) (λs hs=>h s (mcQ _ hs))
   simpa using this
 cases l with
 |nil=>exact absurd rfl h0
 |cons n r=>exact key r n (As (hn n al)) (λs hs=>hn s (mcQ _ hs))
def zpm{s w:ak}{l:List ak}(hg:Good s)(hw:Good w)(hn:∀s∈l,zN s=true)(h1:l.length<=3000)(h2:∀s∈l,s.length<=30)(hb:(s++spT (xS w l)).length<=140737488355328):
  (bif (decide (((List.length l:Nat):Int)>0))then(znu l t__).bind λx6=>(yw s ([(Sum.inr w),(Sum.inr x6)]:List (Int⊕ak))).bind λx7=>some x7 else some s)=some (s++spT (xS w l))/\Good (s++spT (xS w l)):=by
 by_cases h0:l=[]
 ·subst h0
  simp only[xS,List.isEmpty_nil,ctQ,spT,List.flatMap_nil,List.append_nil];exact⟨rfl,hg⟩
 ·have hlen:0<l.length:=List.length_pos_iff.2 h0
  have he:l.isEmpty=false:=by
   cases l with
   |nil=>exact absurd rfl h0
   |cons=>rfl
  have e:spT (xS w l)=spT [.inr w,.inr (zsv l)]:=by
   unfold xS;rw[he,cf,zbl,zbl,<- zSh h0];simp[QE,spT]
  rw[e]at hb ⊢;rw[dt (show((List.length l:Nat):Int)>0 by omega),ctQ,join_eq h0 ab (λs hs=>Nat.le_trans (h2 s hs) ab),bsQ]
  obtain⟨p1,p2⟩:=vd (l:=[.inr w,.inr (zsv l)]) hg (λy hy=>by
   rcases List.mem_cons.1 hy with rfl|hy
   ·exact xE hw
   ·rw[JS hy];exact xE (zE2 h0 hn)) af hb
  rw[p1];exact⟨rfl,p2⟩
def zk0{s w:ak}{n:Int}(hg:Good s)(hw:Good w)(hn:Ap n)(hb:(s++spT (ve w n)).length<=140737488355328):
  (bif (!(decide (n=0)))then(yw s ([(Sum.inr w),(Sum.inl n)]:List (Int⊕ak))).bind λx6=>some x6 else some s)=some (s++spT (ve w n))/\Good (s++spT (ve w n)):=by
 unfold ve at hb ⊢;by_cases h0:n=0
 ·rw[if_pos h0,dt h0]
  simp only[spT,List.flatMap_nil,List.append_nil];exact⟨rfl,hg⟩
 ·rw[if_neg h0]at hb ⊢
  rw[df h0,Bool.not_false,ctQ]
  obtain⟨p1,p2⟩:=vd (l:=[.inr w,.inl n]) hg (λy hy=>by
   rcases List.mem_cons.1 hy with rfl|hy
   ·exact xE hw
   ·rw[JS hy];exact u7 hn) af hb
  rw[p1];exact⟨rfl,p2⟩
def zSi:Good ze1:=Au ae
def zsw:Good yU:=Au ae
def zE3:Good vw:=Au ae
def zy1:Good xC:=Au ae
def zy2:Good xO:=Au ae
section rule
variable{c1:ak}{c2 c3:List ak}{c4 c5 c6:Int}{c7:Bool}{c8 c9 c10:Int}{c11 c12:ak}{c13:List Expr}{c14 c15 c16 c17 c18 c19 c20:Int}{s:ak}
def zSj{zs ex:List ak}(hg:Good s)(hn:∀s∈zs,zN s=true)(h1:zs.length<=3000)(h2:∀s∈zs,s.length<=30)(hn':∀s∈ex,zN s=true)(h1':ex.length<=3000)(h2':∀s∈ex,s.length<=30)(hb:(s++(spT (xS ze1 zs)++spT (xS yU ex))).length<=140737488355328):
  jT ((2:Nat):Int) c1 c2 c3 c4 c5 c6 c7 c8 c9 c10 c11 c12 c13 c14 c15 c16 c17 c18 c19 c20 [zs,ex] KK (s,0)=some (s++(spT (xS ze1 zs)++spT (xS yU ex)))/\Good (s++(spT (xS ze1 zs)++spT (xS yU ex))):=by
 obtain⟨k,hk⟩:∃k,KK=k+3:=⟨KK-3,by have:=jz (n:=100) ab;omega⟩
 rw[<- asc]at hb ⊢;obtain⟨a1,a2⟩:=zpm hg zSi hn h1 h2 (by rw[la]at hb;omega);obtain⟨b1,b2⟩:=zpm a2 zsw hn' h1' h2' hb;refine⟨?_,b2⟩;rw[hk,jT];simp only[show decide ((0:Int)<((2:Nat):Int))=true from rfl,ctQ];rw[zD (show(0:Int)<=0/\(0:Int)<((List.length [zs,ex]:Nat):Int) from by simp),bsQ,show([zs,ex])[(Int.toNat 0)]?=some zs from rfl,bsQ,zD (show(0:Int)<=0/\(0:Int)<((2:Nat):Int) by decide),bsQ,show(([ze1,yU]:List ak))[(Int.toNat 0)]?=some ze1 from rfl,bsQ,a1,bsQ,show w64 (0+1)=1 from rfl,jT];simp only[show decide ((1:Int)<((2:Nat):Int))=true from rfl,ctQ];rw[zD (show(0:Int)<=1/\(1:Int)<((List.length [zs,ex]:Nat):Int) from by simp),bsQ,show([zs,ex])[(Int.toNat 1)]?=some ex from rfl,bsQ,zD (show(0:Int)<=1/\(1:Int)<((2:Nat):Int) by decide),bsQ,show(([ze1,yU]:List ak))[(Int.toNat 1)]?=some yU from rfl,bsQ,b1,bsQ,show w64 (1+1)=2 from rfl,jT];rfl
def zSk{fr un gr:Int}(hg:Good s)(n1:Ap fr)(n2:Ap un)(n3:Ap gr)(hb:(s++(spT (ve vw fr)++(spT (ve xC un)++spT (ve xO gr)))).length<=140737488355328):
  vJ ((3:Nat):Int) c1 c2 c3 c4 c5 c6 c7 c8 c9 c10 c11 c12 c13 c14 c15 c16 c17 c18 c19 c20 [fr,un,gr] KK (s,0)=some (s++(spT (ve vw fr)++(spT (ve xC un)++spT (ve xO gr))))/\Good (s++(spT (ve vw fr)++(spT (ve xC un)++spT (ve xO gr)))):=by
 obtain⟨k,hk⟩:∃k,KK=k+4:=⟨KK-4,by have:=jz (n:=100) ab;omega⟩
 rw[<- asc,<- asc]at hb ⊢;have hb1:=hb;rw[la]at hb1
 have hb2:(s++spT (ve vw fr)++spT (ve xC un)).length<=140737488355328:=ab
 rw[la]at hb2;obtain⟨a1,a2⟩:=zk0 hg zE3 n1 ab;obtain⟨b1,b2⟩:=zk0 a2 zy1 n2 ab;obtain⟨d1,d2⟩:=zk0 b2 zy2 n3 hb;refine⟨?_,d2⟩;rw[hk,vJ];simp only[show decide ((0:Int)<((3:Nat):Int))=true from rfl,ctQ];rw[zD (show(0:Int)<=0/\(0:Int)<((List.length [fr,un,gr]:Nat):Int) from by simp),bsQ,show([fr,un,gr])[(Int.toNat 0)]?=some fr from rfl,bsQ,zD (show(0:Int)<=0/\(0:Int)<((3:Nat):Int) by decide),bsQ,show(([vw,xC,xO]:List ak))[(Int.toNat 0)]?=some vw from rfl,bsQ,a1,bsQ,show w64 (0+1)=1 from rfl,vJ];simp only[show decide ((1:Int)<((3:Nat):Int))=true from rfl,ctQ];rw[zD (show(0:Int)<=1/\(1:Int)<((List.length [fr,un,gr]:Nat):Int) from by simp),bsQ,show([fr,un,gr])[(Int.toNat 1)]?=some un from rfl,bsQ,zD (show(0:Int)<=1/\(1:Int)<((3:Nat):Int) by decide),bsQ,show(([vw,xC,xO]:List ak))[(Int.toNat 1)]?=some xC from rfl,bsQ,b1,bsQ,show w64 (1+1)=2 from rfl,vJ];simp only[show decide ((2:Int)<((3:Nat):Int))=true from rfl,ctQ];rw[zD (show(0:Int)<=2/\(2:Int)<((List.length [fr,un,gr]:Nat):Int) from by simp),bsQ,show([fr,un,gr])[(Int.toNat 2)]?=some gr from rfl,bsQ,zD (show(0:Int)<=2/\(2:Int)<((3:Nat):Int) by decide),bsQ,show(([vw,xC,xO]:List ak))[(Int.toNat 2)]?=some xO from rfl,bsQ,d1,bsQ,show w64 (2+1)=3 from rfl,vJ];rfl
def zSl:∀s<64,∀k<6,decide ((IntKind.i64.wrap ((BitVec.ofInt IntKind.i64.bits (Int.fdiv (s:Nat) (2 ^ (min (Int.toNat (k:Nat)) IntKind.i64.bits))) &&& BitVec.ofInt IntKind.i64.bits 1).toNat:Int))=1)=Nat.testBit s k:=ah
def zeo:∀i<6,Good (u6.getD i []):=by
 intro i hi
 obtain rfl|rfl|rfl|rfl|rfl|rfl:i=0∨i=1∨i=2∨i=3∨i=4∨i=5:=ab
 all_goals exact Au ae
def zk1{i:Nat}(h:i<6):u6[i]?=some (u6.getD i []):=by
 rw[List.getD_eq_getElem?_getD,List.getElem?_eq_getElem (show i<u6.length from h)];rfl
def zSm(hg:Good s)(hu:0<=c18/\c18<64)(hb:(s++spT ((List.range 6).flatMap (zsu c18))).length<=140737488355328):
  wg (((List.length u6):Nat):Int) c1 c2 c3 c4 c5 c6 c7 c8 c9 c10 c11 c12 c13 c14 c15 c16 c17 c18 c19 c20 u6 KK (s,0)=some (s++spT ((List.range 6).flatMap (zsu c18)))/\Good (s++spT ((List.range 6).flatMap (zsu c18))):=by
 rw[WN]at hb ⊢;refine vQ (List.range 6) (λi=>spT (zsu c18 i)) (λK q s=>wg (((List.length u6):Nat):Int) c1 c2 c3 c4 c5 c6 c7 c8 c9 c10 c11 c12 c13 c14 c15 c16 c17 c18 c19 c20 u6 K (s,q)) 140737488355328 Good ae hg hb (λK i x s hx hI hM=>?_) (λK s=>?_)
 ·have hi:=AA hx
  rw[List.length_range]at hi
  have hxi:x=i:=by simpa[List.getElem?_range,hi]using hx.symm
  subst hxi;obtain⟨u,rfl⟩:=Int.eq_ofNat_of_zero_le hu.1;have hbit:=zSl u ab x hi
  show wg _ _ _ _ _ _ _ _ _ _ _ _ _ _ _ _ _ _ _ _ _ _ (K+1) (s,(x:Int))=_/\_
  rw[wg];simp only[dt (show(x:Int)<((List.length u6:Nat):Int) by rw[show u6.length=6 from rfl];omega),ctQ];rw[zD (show(0:Int)<=(x:Int)/\(x:Int)<((List.length u6:Nat):Int) by rw[show u6.length=6 from rfl];omega),bsQ,Int.toNat_natCast,zk1 hi,bsQ,zD (show(0:Int)<=(x:Int) by omega),bsQ];rw[Int.toNat_natCast]at hbit;rw[hbit,xB ab];unfold zsu at hM ⊢;rw[show(((u:Nat):Int)).toNat=u from rfl]at *
  cases hbb:Nat.testBit u x with
  |false =>
   simp only[cf,spT,List.flatMap_nil,List.append_nil,bsQ,true_and];exact hI
  |true =>
   rw[hbb]at hM;simp only[ctQ]at hM ⊢;obtain⟨p1,p2⟩:=vd (l:=[.inr (u6.getD x [])]) hI (λy hy=>by rw[JS hy];exact xE (zeo x hi)) af hM;rw[p1];exact⟨rfl,p2⟩
 ·show wg _ _ _ _ _ _ _ _ _ _ _ _ _ _ _ _ _ _ _ _ _ _ (K+1) (s,_)=_
  rw[wg];rfl
end rule
def zk2(b:Bool):List Tok:=bif b then[.inr wm]else[]
def zE4(r:zO):yf (Vv r)=QE (.inr ua)++(spT [.inr r.Name]++((spT (xS ze1 r.Zones)++spT (xS yU r.Except))++((spT (ve vw r.From)++(spT (ve xC r.Until)++spT (ve xO r.Grace)))++(spT (zk2 r.Vary)++(spT [.inr xI]++(spT (KX r)++[32,59,10])))))):=by
 show yf (.inr ua::([.inr r.Name]++(xS ze1 r.Zones++(xS yU r.Except++(ve vw r.From++(ve xC r.Until++(ve xO r.Grace++(zk2 r.Vary++([.inr xI]++KX r)))))))))=_
 rw[jH];simp only[JQ,asc]
def xT{n a b:Int}(h:a<=n/\n<=b)(ha:-9223372036854775807<=a)(hb:b<=9223372036854775807):Ap n:=⟨ab,ab⟩
def zSn{s:ak}{r:zO}(hg:Good s)(hb:Vp r)(hf:zEe r.Test=true)(hl:(s++(spT (KX r)++[32,59,10])).length<=140737488355328){c1:ak}{c2 c3:List ak}{c4 c5 c6:Int}{c7:Bool}:
  (((bif (decide (r.Kind=0))then(Qt s (Expr.mk r.Test.Op r.Test.N r.Test.S r.Test.Key r.Test.Args)).bind λx9=>some (Sum.inl x9)else(bif (decide (r.Kind=1))then(yw s ([(Sum.inr qi),(Sum.inl r.zy.Side),(Sum.inr AI),(Sum.inl r.zy.Base),(Sum.inr jx),(Sum.inl r.zy.Num),(Sum.inl r.zy.Den)]:List (Int⊕ak))).bind λx10=>some (Sum.inr x10)else(bif (decide (r.Kind=3))then(grd (0<=r.Uses/\r.Uses<(((List.length u6):Nat):Int))).bind λ_=>((u6)[(Int.toNat r.Uses)]?).bind λx12=>(grd (0<=r.Other/\r.Other<(((List.length u6):Nat):Int))).bind λ_=>((u6)[(Int.toNat r.Other)]?).bind λx14=>(yw s ([(Sum.inr qh),(Sum.inr x12),(Sum.inr x14),(Sum.inl r.N)]:List (Int⊕ak))).bind λx15=>some (Sum.inr x15)else(bif (decide (r.Kind=2))then(yw s ([(Sum.inr oW)]:List (Int⊕ak))).bind λx16=>(wg (((List.length u6):Nat):Int) c1 c2 c3 c4 c5 c6 c7 r.Kind r.Test.Op r.Test.N r.Test.S r.Test.Key r.Test.Args r.zy.Side r.zy.Base r.zy.Num r.zy.Den r.Uses r.Other r.N u6 KK (x16,0)).bind λx17=>some (Sum.inr x17)else some (Sum.inr s)))))).bind (xM some λx8=>(qw x8).bind λx18=>some x18))=some (s++(spT (KX r)++[32,59,10]))/\VC (s++(spT (KX r)++[32,59,10])):=by
 obtain⟨⟨k0,k3⟩,b1,b2,b3,b4,b5,b6,b7,b8⟩:=hb
 have hl2:(s++spT (KX r)++[32,59,10]).length<=140737488355328:=by rw[asc];exact hl
 have hl3:=hl2;rw[la]at hl3;unfold KX at hl hl2 hl3 ⊢;by_cases h0:r.Kind=0
 ·rw[if_pos h0]at hl hl2 hl3 ⊢
  obtain⟨p1,p2⟩:=zpl hg (b1 h0) hl;rw[dt h0,ctQ,yW,p1];exact⟨rfl,p2⟩
 rw[if_neg h0]at hl hl2 hl3 ⊢;rw[df h0,cf];by_cases h1:r.Kind=1
 ·rw[if_pos h1]at hl hl2 hl3 ⊢
  obtain⟨n1,n2,n3,n4⟩:=b3 h1;rw[dt h1,ctQ]
  obtain⟨p1,p2⟩:=vd hg (λy hy=>by
   simp only[List.mem_cons,List.not_mem_nil,or_false]at hy
   rcases hy with rfl|rfl|rfl|rfl|rfl|rfl|rfl
   ·exact xE (Au ae)
   ·exact u7 (xT n1 ab ab)
   ·exact xE (Au ae)
   ·exact u7 (xT n2 ab ab)
   ·exact xE (Au ae)
   ·exact u7 (xT n3 ab ab)
   ·exact u7 (xT n4 ab ab)) af (show(s++spT [.inr qi,.inl r.zy.Side,.inr AI,.inl r.zy.Base,.inr jx,.inl r.zy.Num,.inl r.zy.Den]).length<=_ by omega)
  obtain⟨q1,q2⟩:=WM p2 hl2;rw[p1,bsQ,bsQ,xM,q1,<- asc];exact⟨rfl,q2⟩
 rw[if_neg h1]at hl hl2 hl3 ⊢;rw[df h1,cf];by_cases h3:r.Kind=3
 ·rw[if_pos h3]at hl hl2 hl3 ⊢
  obtain⟨n1,n2,n3⟩:=b6 h3;rw[dt h3,ctQ,zD (show 0<=r.Uses/\r.Uses<((List.length u6:Nat):Int) by rw[show u6.length=6 from rfl];omega),bsQ,zk1 (show r.Uses.toNat<6 by omega),bsQ,zD (show 0<=r.Other/\r.Other<((List.length u6:Nat):Int) by rw[show u6.length=6 from rfl];omega),bsQ,zk1 (show r.Other.toNat<6 by omega),bsQ]
  obtain⟨p1,p2⟩:=vd hg (λy hy=>by
   simp only[List.mem_cons,List.not_mem_nil,or_false]at hy
   rcases hy with rfl|rfl|rfl|rfl
   ·exact xE (Au ae)
   ·exact xE (zeo _ ab)
   ·exact xE (zeo _ ab)
   ·exact u7 (xT n3 ab ab)) af (show(s++spT [.inr qh,.inr (u6.getD r.Uses.toNat []),.inr (u6.getD r.Other.toNat []),.inl r.N]).length<=_ by omega)
  obtain⟨q1,q2⟩:=WM p2 hl2;rw[p1,bsQ,bsQ,xM,q1,<- asc];exact⟨rfl,q2⟩
 have h2:r.Kind=2:=ab
 rw[if_neg h3]at hl hl2 hl3 ⊢;obtain⟨n1,n2⟩:=b5 h2;rw[df h3,cf,dt h2,ctQ]
 have es:spT (.inr oW::(List.range 6).flatMap (zsu r.Uses))=spT [.inr oW]++spT ((List.range 6).flatMap (zsu r.Uses)):=by rw[<- JQ];rfl
 rw[es,<- asc]at hl2 hl3;rw[es];obtain⟨p1,p2⟩:=vd (l:=[.inr oW]) hg (λy hy=>by rw[JS hy];exact xE (Au ae)) af (by rw[la]at hl3;omega);obtain⟨u1,u2⟩:=zSm (c1:=c1) (c2:=c2) (c3:=c3) (c4:=c4) (c5:=c5) (c6:=c6) (c7:=c7) (c8:=r.Kind) (c9:=r.Test.Op) (c10:=r.Test.N) (c11:=r.Test.S) (c12:=r.Test.Key) (c13:=r.Test.Args) (c14:=r.zy.Side) (c15:=r.zy.Base) (c16:=r.zy.Num) (c17:=r.zy.Den) (c18:=r.Uses) (c19:=r.Other) (c20:=r.N) p2 ab ab;obtain⟨q1,q2⟩:=WM u2 hl2;rw[p1,bsQ,u1,bsQ,bsQ,xM,q1];simp only[asc]at q2 ⊢;exact⟨rfl,q2⟩
def zE5{s:ak}{r:zO}(hs:VC s)(hr:WD r)(hn:zN r.Name=true)(hf:zGp r=true)(hb:(s++yf (Vv r)).length<=140737488355328):za1 s r=some (s++yf (Vv r))/\VC (s++yf (Vv r)):=by
 obtain⟨⟨⟨z0,x0⟩,d1,d2,d3,_⟩,hbody⟩:=hr;obtain⟨_,⟨z1,z2⟩,⟨x1,x2⟩,te⟩:=WE hf;rw[zE4]at hb ⊢;have hb0:=hb;simp only[la]at hb0
 obtain⟨p1,g1⟩:=AZ (x:=.inr ua) (l:=[.inr r.Name]) hs (λy hy=>by
  rcases List.mem_cons.1 hy with rfl|hy
  ·exact xE (Au ae)
  ·rw[JS hy];exact xE (As hn)) af (by simp only[la];omega)
 generalize hs1:s++(QE (.inr ua)++spT [.inr r.Name])=s1 at p1 g1;have l1:=congrArg List.length hs1;simp only[la]at l1;obtain⟨p2,g2⟩:=zSj (c1:=r.Name) (c2:=r.Zones) (c3:=r.Except) (c4:=r.From) (c5:=r.Until) (c6:=r.Grace) (c7:=r.Vary) (c8:=r.Kind) (c9:=r.Test.Op) (c10:=r.Test.N) (c11:=r.Test.S) (c12:=r.Test.Key) (c13:=r.Test.Args) (c14:=r.zy.Side) (c15:=r.zy.Base) (c16:=r.zy.Num) (c17:=r.zy.Den) (c18:=r.Uses) (c19:=r.Other) (c20:=r.N) g1 (List.all_eq_true.1 z0) z1 z2 (List.all_eq_true.1 x0) x1 x2 (by simp only[la];omega);generalize hs2:s1++(spT (xS ze1 r.Zones)++spT (xS yU r.Except))=s2 at p2 g2;have l2:=congrArg List.length hs2;simp only[la]at l2;obtain⟨p3,g3⟩:=zSk (c1:=r.Name) (c2:=r.Zones) (c3:=r.Except) (c4:=r.From) (c5:=r.Until) (c6:=r.Grace) (c7:=r.Vary) (c8:=r.Kind) (c9:=r.Test.Op) (c10:=r.Test.N) (c11:=r.Test.S) (c12:=r.Test.Key) (c13:=r.Test.Args) (c14:=r.zy.Side) (c15:=r.zy.Base) (c16:=r.zy.Num) (c17:=r.zy.Den) (c18:=r.Uses) (c19:=r.Other) (c20:=r.N) g2 (xT d1 ab ab) (xT d3 ab ab) (xT d2 ab ab) (by simp only[la];omega);generalize hs3:s2++(spT (ve vw r.From)++(spT (ve xC r.Until)++spT (ve xO r.Grace)))=s3 at p3 g3;have l3:=congrArg List.length hs3;simp only[la]at l3
 have hv:(bif r.Vary then(yw s3 ([(Sum.inr wm)]:List (Int⊕ak))).bind λx5=>some x5 else some s3)=some (s3++spT (zk2 r.Vary))/\Good (s3++spT (zk2 r.Vary)):=by
  cases hv:r.Vary with
  |false =>
   simp only[zk2,cf,spT,List.flatMap_nil,List.append_nil,true_and];exact g3
  |true =>
   rw[hv]at hb0;obtain⟨a1,a2⟩:=vd (l:=zk2 true) g3 (λy hy=>by rw[JS hy];exact xE (Au ae)) ae (by simp only[la];omega);rw[ctQ,show([(Sum.inr wm)]:List (Int⊕ak))=zk2 true from rfl,a1];exact⟨rfl,a2⟩
 obtain⟨p4,g4⟩:=hv;generalize hs4:s3++spT (zk2 r.Vary)=s4 at p4 g4;have l4:=congrArg List.length hs4;simp only[la]at l4;obtain⟨p5,g5⟩:=vd (l:=[.inr xI]) g4 (λy hy=>by rw[JS hy];exact xE (Au ae)) af (by simp only[la];omega);generalize hs5:s4++spT [.inr xI]=s5 at p5 g5;have l5:=congrArg List.length hs5;simp only[la]at l5;have h6:=zSn (c1:=r.Name) (c2:=r.Zones) (c3:=r.Except) (c4:=r.From) (c5:=r.Until) (c6:=r.Grace) (c7:=r.Vary) g5 hbody te (by simp only[la];omega)
 have e:s++(QE (.inr ua)++(spT [.inr r.Name]++((spT (xS ze1 r.Zones)++spT (xS yU r.Except))++((spT (ve vw r.From)++(spT (ve xC r.Until)++spT (ve xO r.Grace)))++(spT (zk2 r.Vary)++(spT [.inr xI]++(spT (KX r)++[32,59,10])))))))=s5++(spT (KX r)++[32,59,10]):=by
  rw[<- hs5,<- hs4,<- hs3,<- hs2,<- hs1];simp only[asc]
 rw[e];refine⟨?_,h6.2⟩;unfold za1;rw[p1,bsQ,p2,bsQ,p3,bsQ,p4,bsQ,p5,bsQ,zss,bsQ];exact h6.1
def zE6(x:Tok):Prop:=zT6 x/\(QE x).length<=400000
def W4(l:List Tok):Prop:=∀x∈l,zE6 x
def W4.g{l:List Tok}(h:W4 l):∀x∈l,zT6 x:=λx hx=>(h x hx).1
def yy:W4 []:=λx hx=>by cases hx
def zl{x:Tok}{l:List Tok}(h:zE6 x)(hl:W4 l):W4 (x::l):=λy hy=>by
 rcases List.mem_cons.1 hy with rfl|hy
 ·exact h
 ·exact hl y hy
def jt{a b:List Tok}(ha:W4 a)(hb:W4 b):W4 (a++b):=λy hy=>by
 rcases List.mem_append.1 hy with h|h
 ·exact ha y h
 ·exact hb y h
def KY{α:Type}{l:List α}{f:α->List Tok}(h:∀x∈l,W4 (f x)):W4 (l.flatMap f):=λy hy=>by
 obtain⟨x,hx,hy⟩:=List.mem_flatMap.1 hy;exact h x hx y hy
def xd{c:UInt8}{r:ak}(h:(∀x∈c::r,x≠10)/\(c::r).length<=400000):zE6 (.inr (c::r)):=⟨xE (Au h.1),h.2⟩
def vj{s:ak}(h:zN s=true):zE6 (.inr s):=⟨xE (As h),by have:=(AX h).1;show s.length<=_;omega⟩
def yF{n:Int}(h:Ap n):zE6 (.inl n):=⟨u7 h,by have:=zSd h;omega⟩
def nod1{a:Expr}{o n:Int}{s k:ak}:jv ⟨o,n,s,k,[a]⟩=jv a+1:=by rw[jv,HP,HP]
def zKo{d:Nat}{e:Expr}(h:OX d e):(zQ d e).length<=60*jv e:=by
 induction h with
 |@num d n h1 h2 =>
  have:=zei (n:=n.toNat) ab;have:=JO ⟨0,n,[],[],[]⟩
  show(Lib.decDigits n.toNat).length<=_;omega
 |@name d s h =>
  have:=(AX h).1;have:=JO ⟨1,0,s,[],[]⟩
  show s.length<=_;omega
 |@table d s k h1 h2 =>
  have:=(AX h1).1;have:=(AX h2).1;have:=JO ⟨2,0,s,k,[]⟩
  show(wS++(s++(t__++k))).length<=_
  simp only[la,ltb,lsp];omega
 |@zone d s h =>
  have:=(AX h).1;have:=JO ⟨3,0,s,[],[]⟩
  show(oX++s).length<=_
  simp only[la,lzn];omega
 |@neg d a _ ih =>
  have:=AW (zQ d a) (lvO a.Op) 7;rw[nod1]
  show(J2++atS (zQ d a) (lvO a.Op) 7).length<=_
  simp only[la,lmi];omega
 |@not d a _ ih =>
  have:=AW (zQ d a) (lvO a.Op) 3;rw[nod1]
  show(Wa++atS (zQ d a) (lvO a.Op) 3).length<=_
  simp only[la,lnt];omega
 |@cond d a b c _ _ _ ia ib ic =>
  have:=AW (zQ d a) (lvO a.Op) 0;have:=AW (zQ d b) (lvO b.Op) 0;have:=AW (zQ d c) (lvO c.Op) 0
  have e:jv ⟨16,0,[],[],[a,b,c]⟩=jv a+jv b+jv c+1:=by rw[jv,HP,HP,HP,HP];omega
  rw[e]
  show(oV++(atS (zQ d a) (lvO a.Op) 0++(yM++(atS (zQ d b) (lvO b.Op) 0++(yL++atS (zQ d c) (lvO c.Op) 0))))).length<=_
  simp only[la,lif,lth,lel];omega
 |@bin d op a b hb _ _ ia ib =>
  have:=AW (zQ d a) (lvO a.Op) (zkx op);have:=AW (zQ d b) (lvO b.Op) (lvO op+1);have:=zEn op
  have e:jv (YY op a b)=jv a+jv b+1:=by unfold YY;rw[jv,HP,HP,HP];omega
  rw[zph hb,e];simp only[la,lsp];omega
def zpn{e:Expr}(h:okE 12 e=true)(hq:jv e<=5000):zE6 (.inr (zQ 12 e)):=⟨xE (zek 12 e h),by
 have:=zKo (zEp 12 e h)
 show(zQ 12 e).length<=_;omega⟩
def zk3{i:Nat}(h:i<6):zE6 (.inr (u6.getD i [])):=by
 obtain rfl|rfl|rfl|rfl|rfl|rfl:i=0∨i=1∨i=2∨i=3∨i=4∨i=5:=ab
 all_goals exact xd ae
def zpo{i:Nat}(h:i<3):zE6 (.inr (JR.getD i [])):=by
 obtain rfl|rfl|rfl:i=0∨i=1∨i=2:=ab
 all_goals exact xd ae
def zbm{l:List zV}(h:Hg l):∀p∈l,Ap p.X/\Ap p.Y:=λp hp=>by
 obtain⟨i,hi⟩:=List.mem_iff_getElem?.1 hp;have hlt:=AA hi;have hc:=h.2.1 i (Nat.zero_le _) hlt
 have e:ptA l i=p:=by
  unfold ptA;rw[Nat.mod_eq_of_lt hlt,List.getD_eq_getElem?_getD,hi];rfl
 simp only[bn,zyt,zys,decide_eq_true_eq,e]at hc;exact⟨⟨ab,ab⟩,⟨ab,ab⟩⟩
def zYi{l:List zV}(h:Hg l):W4 (l.flatMap ptT):=KY λp hp=>zl (yF (zbm h p hp).1) (zl (yF (zbm h p hp).2) yy)
def WO{p:zg}(h:WG p):Ap p.X/\Ap p.Y/\Ap p.Z_:=⟨xT h.1 ab ab,xT h.2.1 ab ab,xT h.2.2 ab ab⟩
def zk4{p:zg}(h:zzj p):Ap p.X/\Ap p.Y/\Ap p.Z_:=⟨xT h.1 ab ab,xT h.2.1 ab ab,xT h.2.2 ab ab⟩
def zy3{p:zg}(h:Ap p.X/\Ap p.Y/\Ap p.Z_):W4 (W3 p):=zl (yF h.1) (zl (yF h.2.1) (zl (yF h.2.2) yy))
def zYj{d:Def}(hn:zN d.Name=true)(hk:okE 12 d.Body=true)(hq:jv d.Body<=5000):W4 (zzk d):=zl (xd ae) (zl (vj hn) (zl (xd ae) (zl (zpn hk hq) yy)))
def zYk{x:Entry}(hn:zN x.Name=true)(h:-1099511627776<=x.N/\x.N<=1099511627776):W4 (zst x):=zl (vj hn) (zl (yF (xT h ab ab)) yy)
def WQ{t:Table}(h:AV t):∀x∈t.Rows,zN x.Name=true:=λx hx=>List.all_eq_true.1 (Y1 _ _ h.1.2) _ (List.mem_map_of_mem hx)
def zSo{t:Table}(hn:zN t.Name=true)(h:AV t):W4 (J9 t):=jt (zl (xd ae) (zl (vj hn) yy)) (jt (KY λx hx=>zYk (WQ h x hx) (h.2.2 x hx)) (zl (xd ae) (zl (yF (xT h.2.1 ab ab)) yy)))
def zpp(b:Bool):zE6 (.inr (bif b then yI else xh)):=by
 cases b
 ·exact xd ae
 ·exact xd ae
def zYl{z:yp}(hn:zN z.Name=true)(h:Hg z.Corners):W4 (zel z):=jt (zl (zpp _) (zl (vj hn) yy)) (zYi h)
def cap_A{c:Cap}(hn:zN c.Name=true)(h:zKd c):W4 (zE0 c):=jt (zl (xd ae) (zl (vj hn) (zl (zpo (by have:=h.1;omega)) (zl (yF (xT h.2.1 ab ab)) yy)))) (zYi h.2.2)
def zYm{v:View}(hn:zN v.Name=true)(h:Y3 v):W4 (zem v):=by
 obtain⟨l1,l2,l3,l4⟩:=h;obtain⟨e1,e2,e3⟩:=WO l3;exact jt (zl (xd ae) (zl (vj hn) (zl (yF e1) (zl (yF e2) (zl (yF e3) (zl (xd ae) (zl (yF (xT l1 ab ab)) (zl (xd ae) yy)))))))) (KY λx hx=>zy3 (WO (l4 x hx)))
def zE7{w:ak}{l:List ak}(hw:zE6 (.inr w))(h:l.all zN=true):W4 (xS w l):=by
 unfold xS;cases l.isEmpty
 ·exact zl hw λy hy=>by
   obtain⟨s,hs,rfl⟩:=List.mem_map.1 hy;exact vj (List.all_eq_true.1 h s hs)
 ·exact yy
def zE8{w:ak}{n:Int}(hw:zE6 (.inr w))(h:Ap n):W4 (ve w n):=by
 unfold ve;split
 ·exact yy
 ·exact zl hw (zl (yF h) yy)
def zYn{r:zO}(h:Vp r)(hq:jv r.Test<=5000):W4 (KX r):=by
 obtain⟨⟨k0,k3⟩,b1,b2,b3,b4,b5,b6,b7,b8⟩:=h;unfold KX;by_cases h0:r.Kind=0
 ·rw[if_pos h0];exact zl (zpn (b1 h0) hq) yy
 rw[if_neg h0];by_cases h1:r.Kind=1
 ·obtain⟨n1,n2,n3,n4⟩:=b3 h1
  rw[if_pos h1];exact zl (xd ae) (zl (yF (xT n1 ab ab)) (zl (xd ae) (zl (yF (xT n2 ab ab)) (zl (xd ae) (zl (yF (xT n3 ab ab)) (zl (yF (xT n4 ab ab)) yy))))))
 rw[if_neg h1];by_cases h3:r.Kind=3
 ·obtain⟨n1,n2,n3⟩:=b6 h3
  rw[if_pos h3];exact zl (xd ae) (zl (zk3 ab) (zl (zk3 ab) (zl (yF (xT n3 ab ab)) yy)))
 rw[if_neg h3];refine zl (xd ae) (KY λi hi=>?_);unfold zsu;cases Nat.testBit r.Uses.toNat i
 ·exact yy
 ·exact zl (zk3 (by simpa using hi)) yy
def zYo{r:zO}(hn:zN r.Name=true)(h:WD r)(hq:jv r.Test<=5000):W4 (Vv r):=by
 obtain⟨⟨⟨z0,x0⟩,d1,d2,d3,_⟩,hb⟩:=h;refine jt (zl (xd ae) (zl (vj hn) yy)) (jt (zE7 (xd ae) z0) (jt (zE7 (xd ae) x0) (jt (zE8 (xd ae) (xT d1 ab ab)) (jt (zE8 (xd ae) (xT d3 ab ab)) (jt (zE8 (xd ae) (xT d2 ab ab)) (jt ?_ (zl (xd ae) (zYn hb hq))))))));cases r.Vary
 ·exact yy
 ·exact zl (xd ae) yy
def sun_A{l:List zg}(h:∀p∈l,zzj p):W4 (zE1 l):=by
 cases l with
 |nil=>exact yy
 |cons p r=>exact jt (zl (xd ae) (zy3 (zk4 (h p al)))) (KY λq hq=>zl (xd ae) (zy3 (zk4 (h q (mcQ _ hq)))))
def zE9{n:Int}(h:0<=n/\n<=24):W4 (QV n):=zl (xd ae) (zl (yF (xT h ab ab)) yy)
-- lengths
def zN0:∀{l:List Tok},W4 l->(spT l).length<=l.length*400001
 |[],_=>by simp[spT]
 |x::l,h=>by
  have h1:=(h x al).2;have h2:=zN0 (l:=l) (λy hy=>h y (mcQ _ hy));rw[zbl];simp only[lc,la];omega
def A0{l:List Tok}(h:W4 l)(hl:l.length<=7000):(yf l).length<=2900000000:=by
 cases l with
 |nil=>decide
 |cons x r =>
  have h1:=(h x al).2;have h2:=zN0 (l:=r) (λy hy=>h y (mcQ _ hy));rw[jH];simp only[la,lc,List.length_nil]at hl ⊢;omega
def uz{α β:Type}{f:α->List β}{n:Nat}:∀{l:List α},(∀x∈l,(f x).length<=n)->(l.flatMap f).length<=l.length*n
 |[],_=>af
 |x::l,h=>by
  have h1:=h x al;have h2:=uz (l:=l) (λy hy=>h y (mcQ _ hy));rw[List.flatMap_cons,la,lc,Nat.add_mul];omega
structure zSp(p:yX):Prop where
 d:∀x∈p.Defs,zN x.Name=true
 t:∀x∈p.Tables,zN x.Name=true
 z:∀x∈p.Zones,zN x.Name=true
 r:∀x∈p.Rules,zN x.Name=true
 c:∀x∈p.Caps,zN x.Name=true
 v:∀x∈p.Views,zN x.Name=true
def HU{α:Type}{l:List α}{g:α->ak}{m:Nat}(h:j3 l g m):∀x∈l,zN (g x)=true:=λx hx=>List.all_eq_true.1 (Y1 _ _ h.2) _ (List.mem_map_of_mem hx)
def zk5{p:yX}(h:KT p):zSp p:=by
 obtain⟨⟨h1,h2,h3,h4,h5,h6⟩,_⟩:=h;exact⟨HU h1,HU h2,HU h3,HU h4,HU h5,HU h6⟩
def zKp{t:Table}(h:t.Rows.length<=64):(J9 t).length<=300:=by
 have:=uz (f:=zst) (n:=2) (l:=t.Rows) (λx _=>by simp[zst]);simp only[J9,la,lc,List.length_nil];omega
def zFa{l:List zV}(h:l.length<=64):(l.flatMap ptT).length<=128:=by
 have:=uz (f:=ptT) (n:=2) (l:=l) (λx _=>by simp[ptT]);omega
def zKq{r:zO}(h:zGp r=true):(Vv r).length<=7000:=by
 obtain⟨_,⟨z1,_⟩,⟨x1,_⟩,_⟩:=WE h
 have nl:∀(w:ak)(l:List ak),(xS w l).length<=l.length+1:=λw l=>by
  unfold xS;cases l.isEmpty<;>simp
 have sl:∀(w:ak)(n:Int),(ve w n).length<=2:=λw n=>by
  unfold ve;split<;>simp
 have ul:((List.range 6).flatMap (zsu r.Uses)).length<=6:=by
  have:=uz (f:=zsu r.Uses) (n:=1) (l:=List.range 6) (λi _=>by unfold zsu;cases Nat.testBit r.Uses.toNat i<;>simp);simpa using this
 have bl:(KX r).length<=7:=by
  unfold KX;split
  ·simp
  split
  ·simp
  split
  ·simp
  simp only[lc];omega
 have vl:((bif r.Vary then[Sum.inr wm]else[]):List Tok).length<=1:=by cases r.Vary<;>simp
 have a1:=nl ze1 r.Zones;have a2:=nl yU r.Except;have a3:=sl vw r.From;have a4:=sl xC r.Until;have a5:=sl xO r.Grace;simp only[Vv,la,lc,List.length_nil];omega
def zy4{p:yX}(hf:zX6 p)(h:KT p):(HR p).length<=40000000000000:=by
 have nm:=zk5 h;obtain⟨_,⟨b1,b2,b3,b4,b5,b6,b7⟩,hh,hs⟩:=h
 have d1:=uz (l:=p.Defs) (f:=λx=>yf (zzk x)) (n:=2900000000) λx hx=>A0 (zYj (nm.d x hx) (b1 x hx) (WC (hf.ds x hx).2).1) (by simp[zzk])
 have d2:=uz (l:=p.Tables) (f:=λx=>yf (J9 x)) (n:=2900000000) λx hx=>A0 (zSo (nm.t x hx) (b2 x hx)) (Nat.le_trans (zKp (hf.ts x hx).2.1) ab)
 have d3:=uz (l:=p.Zones) (f:=λx=>yf (zel x)) (n:=2900000000) λx hx=>A0 (zYl (nm.z x hx) (b3 x hx)) (by have:=zFa (hf.zs x hx).2;simp only[zel,la,lc,List.length_nil];omega)
 have d4:=uz (l:=p.Rules) (f:=λx=>yf (Vv x)) (n:=2900000000) λx hx=>A0 (zYo (nm.r x hx) (b4 x hx) (WC (WE (hf.rs x hx)).2.2.2).1) (zKq (hf.rs x hx))
 have d5:=uz (l:=p.Caps) (f:=λx=>yf (zE0 x)) (n:=2900000000) λx hx=>A0 (cap_A (nm.c x hx) (b5 x hx)) (by have:=zFa (hf.cs x hx).2;simp only[zE0,la,lc,List.length_nil];omega)
 have d6:=uz (l:=p.Views) (f:=λx=>yf (zem x)) (n:=2900000000) λx hx=>A0 (zYm (nm.v x hx) (b6 x hx)) (by
  have:=uz (f:=W3) (n:=3) (l:=x.Targets) (λy _=>by simp[W3]);have:=(hf.vs x hx).2
  simp only[zem,la,lc,List.length_nil];omega)
 have d7:((bif p.Sun.isEmpty then[]else yf (zE1 p.Sun)):ak).length<=2900000000:=by
  cases hsn:p.Sun with
  |nil=>simp
  |cons q r =>
   simp only[List.isEmpty_cons,cf];rw[hsn]at b7 hs;refine A0 (sun_A b7) ?_;have:=uz (f:=λp=>Sum.inr qa::W3 p) (n:=4) (l:=r) (λy _=>by simp[W3]);simp only[lc]at hs;simp only[zE1,la,lc,W3,List.length_nil]at this ⊢;omega
 have d8:((if p.Hours=0 then[]else yf (QV p.Hours)):ak).length<=2900000000:=by
  split
  ·simp
  ·exact A0 (zE9 hh) (by simp[QV])
 have:=hf.d;have:=hf.t;have:=hf.z;have:=hf.r;have:=hf.c;have:=hf.v;simp only[HR,la];omega
def zFb{p:yX}(hf:zX6 p)(h:KT p):(HR p).length<=140737488355328:=Nat.le_trans (zy4 hf h) ab
inductive Decl
 |d (x:Def)
 |t (x:Table)
 |z (x:yp)
 |r (x:zO)
 |c (x:Cap)
 |v (x:View)
 |s (x:List zg)
 |h (x:Int)
def zFc:Decl->List Tok
 |.d x=>zzk x
 |.t x=>J9 x
 |.z x=>zel x
 |.r x=>Vv x
 |.c x=>zE0 x
 |.v x=>zem x
 |.s x=>zE1 x
 |.h x=>QV x
def zy5(n:Int):List T3:=if n<0 then[sgQ yS,xR (0-n)]else[xR n]
def zYp(x:Entry):List T3:=kwQ x.Name::zy5 x.N
def ptQ(p:zV):List T3:=[xR p.X,xR p.Y]
def zSq(p:zg):List T3:=[xR p.X,xR p.Y,xR p.Z_]
def zGq(p:zg):List T3:=zy5 p.X++(zy5 p.Y++[xR p.Z_])
def ZK(w:ak)(l:List ak):List T3:=bif l.isEmpty then[]else kwQ w::l.map kwQ
def zk6(w:ak)(n:Int):List T3:=if n=0 then[]else[kwQ w,xR n]
def zKr(b:Bool):List T3:=bif b then[kwQ wm]else[]
def z0a(u:Int):List T3:=((List.range 6).filter (Nat.testBit u.toNat)).map λi=>kwQ (u6.getD i [])
def zFd(r:zO):List T3 :=
 if r.Kind=0 then xz 12 r.Test
 else if r.Kind=1 then[kwQ qi,xR r.zy.Side,kwQ AI,xR r.zy.Base,kwQ jx,xR r.zy.Num,xR r.zy.Den]
 else if r.Kind=3 then[kwQ qh,kwQ (u6.getD r.Uses.toNat []),kwQ (u6.getD r.Other.toNat []),xR r.N]
 else kwQ oW::z0a r.Uses
def zSr(r:zO):List T3:=ZK ze1 r.Zones++(ZK yU r.Except++(zk6 vw r.From++(zk6 xC r.Until++(zk6 xO r.Grace++(zKr r.Vary++(sgQ xI::zFd r))))))
def sunQ:List zg->List T3
 |[]=>[]
 |p::r=>zGq p++r.flatMap λp=>sgQ qa::zGq p
def HV:Decl->ak
 |.d _=>wR
 |.t _=>yz
 |.z x=>bif x.Overlay then yI else xh
 |.r _=>ua
 |.c _=>V7
 |.v _=>AJ
 |.s _=>Jm
 |.h _=>kE
def zad:Decl->List T3
 |.d x=>kwQ x.Name::sgQ Az::xz 12 x.Body
 |.t x=>kwQ x.Name::(x.Rows.flatMap zYp++(kwQ yY::zy5 x.Else))
 |.z x=>kwQ x.Name::x.Corners.flatMap ptQ
 |.r x=>kwQ x.Name::zSr x
 |.c x=>kwQ x.Name::kwQ (JR.getD x.Load.toNat [])::xR x.Limit::x.Corners.flatMap ptQ
 |.v x=>kwQ x.Name::xR x.Eye.X::xR x.Eye.Y::xR x.Eye.Z_::kwQ vG::xR x.Least::sgQ xI::x.Targets.flatMap zSq
 |.s x=>sunQ x
 |.h x=>[xR x]
def zfr:Decl->Prop
 |.d x=>zN x.Name=true/\OX 12 x.Body
 |.t x=>zN x.Name=true/\AV x
 |.z x=>zN x.Name=true/\Hg x.Corners
 |.r x=>zN x.Name=true/\WD x
 |.c x=>zN x.Name=true/\zKd x
 |.v x=>zN x.Name=true/\Y3 x
 |.s x=>x≠[]/\(∀p∈x,zzj p)/\x.length<=24
 |.h x=>0<=x/\x<=24/\x≠0
def TQ(l:List Tok)(ts:List T3):Prop:=spT l=sq ts/\OKs ts
def zh0:TQ [] []:=⟨rfl,Aq⟩
def Ka{a b:List Tok}{ts us:List T3}(ha:TQ a ts)(hb:TQ b us):TQ (a++b) (ts++us):=⟨by rw[JQ,zNt,ha.1,hb.1],Vu ha.2 hb.2⟩
def zk7{α:Type}{l:List α}{f:α->List Tok}{g:α->List T3}(h:∀x∈l,TQ (f x) (g x)):TQ (l.flatMap f) (l.flatMap g):=by
 induction l with
 |nil=>exact zh0
 |cons x l ih=>rw[List.flatMap_cons,List.flatMap_cons];exact Ka (h x al) (ih λy hy=>h y (mcQ _ hy))
def zh1{s:ak}{t:T3}(h:okT t)(e:t.2.1=s):TQ [.inr s] [t]:=⟨by subst e;rfl,xg h Aq⟩
def zfs{w:ak}(h:KO w=true):TQ [.inr w] [kwQ w]:=zh1 (zNu h) rfl
def zae{w:ak}(h:zN w=true):TQ [.inr w] [kwQ w]:=zh1 (WJ h) rfl
def zFe{e:Expr}(h:OX 12 e):TQ [.inr (zQ 12 e)] (xz 12 e):=by
 obtain⟨h1,h2,h3⟩:=uy h;refine⟨?_,h2⟩;rw[zSe h1,<- h3]
 show 32::zQ 12 e++[]=_
 rw[List.append_nil]
def yn{x:Tok}{l:List Tok}{t:T3}{ts:List T3}(ha:TQ [x] [t])(hb:TQ l ts):TQ (x::l) (t::ts):=Ka ha hb
def kX{n:Int}(h0:0<=n)(h1:n<=1099511627776):TQ [.inl n] [xR n]:=by
 refine⟨?_,xg (zbk h0 h1) Aq⟩
 show 32::QE (.inl n)++[]=32::Lib.decDigits n.toNat++[]
 rw[Vs,if_neg ab]
def zv5{n:Int}(h0:-1099511627776<=n)(h1:n<=1099511627776):TQ [.inl n] (zy5 n):=by
 unfold zy5;split
 ·rename_i h
  refine⟨?_,xg rfl (xg (zbk ab ab) Aq)⟩
  show 32::QE (.inl n)++[]=32::yS++(32::Lib.decDigits (0-n).toNat++[])
  rw[Vs,if_pos h,List.append_nil,List.append_nil,show(0-n).toNat=n.natAbs by omega];rfl
 ·exact kX ab h1
def Y7{l:List zV}(h:Hg l):∀p∈l,(0<=p.X/\p.X<=1048576)/\(0<=p.Y/\p.Y<=1048576):=λp hp=>by
 obtain⟨i,hi⟩:=List.mem_iff_getElem?.1 hp;have hlt:=AA hi;have hc:=h.2.1 i (Nat.zero_le _) hlt
 have e:ptA l i=p:=by
  unfold ptA;rw[Nat.mod_eq_of_lt hlt,List.getD_eq_getElem?_getD,hi];rfl
 simp only[bn,zyt,zys,decide_eq_true_eq,e]at hc;exact⟨⟨ab,ab⟩,⟨ab,ab⟩⟩
def zN1{l:List zV}(h:Hg l):TQ (l.flatMap ptT) (l.flatMap ptQ):=zk7 λp hp=>by
 obtain⟨⟨a,b⟩,c,d⟩:=Y7 h p hp;exact yn (kX a ab) (kX c ab)
def zYq{p:zg}(h:WG p):TQ (W3 p) (zSq p):=by
 obtain⟨⟨a,b⟩,⟨c,d⟩,e,f⟩:=h;exact yn (kX a ab) (yn (kX c ab) (kX e ab))
def zN2{p:zg}(h:zzj p):TQ (W3 p) (zGq p):=by
 obtain⟨⟨a,b⟩,⟨c,d⟩,e,f⟩:=h;exact Ka (a:=[.inl p.X]) (zv5 ab ab) (Ka (a:=[.inl p.Y]) (zv5 ab ab) (kX ab ab))
def zv6{w:ak}{l:List ak}(hw:KO w=true)(h:l.all zN=true):TQ (xS w l) (ZK w l):=by
 unfold xS ZK;cases l.isEmpty
 ·refine yn (zfs hw) ?_
  have:∀l:List ak,l.all zN=true->TQ (l.map .inr) (l.map kwQ):=λl=>by
   induction l with
   |nil=>exact λ_=>zh0
   |cons x l ih =>
    intro h;rw[List.all_cons,bn]at h;exact yn (zae h.1) (ih h.2)
  exact this l h
 ·exact zh0
def zsx{w:ak}{n:Int}(hw:KO w=true)(h0:0<=n)(h1:n<=1099511627776):TQ (ve w n) (zk6 w n):=by
 unfold ve zk6;split
 ·exact zh0
 ·exact yn (zfs hw) (kX h0 h1)
def zSs(b:Bool):TQ (bif b then[.inr wm]else[]) (zKr b):=by
 cases b
 ·exact zh0
 ·exact zfs rfl
def zk8:∀i<6,zN (u6.getD i [])=true:=ah
def zFf:∀i<3,zN (JR.getD i [])=true:=ah
def zYr(u:Int):TQ ((List.range 6).flatMap (zsu u)) (z0a u):=by
 unfold z0a
 have:∀l:List Nat,(∀i∈l,i<6)->TQ (l.flatMap (zsu u)) ((l.filter (Nat.testBit u.toNat)).map λi=>kwQ (u6.getD i [])):=λl=>by
  induction l with
  |nil=>exact λ_=>zh0
  |cons i l ih =>
   intro h
   have ih:=ih λj hj=>h j (mcQ _ hj)
   rw[List.flatMap_cons,List.filter_cons];unfold zsu;cases Nat.testBit u.toNat i
   ·exact ih
   ·exact yn (zae (zk8 i (h i al))) ih
 exact this _ λi hi=>by simpa using hi
def zSt{r:zO}(h:Vp r):TQ (KX r) (zFd r):=by
 obtain⟨⟨k0,k3⟩,b1,b2,b3,b4,b5,b6,b7,b8⟩:=h;unfold KX zFd;by_cases h0:r.Kind=0
 ·rw[if_pos h0,if_pos h0];exact zFe (zEp 12 _ (b1 h0))
 rw[if_neg h0,if_neg h0];by_cases h1:r.Kind=1
 ·obtain⟨n1,n2,n3,n4⟩:=b3 h1
  rw[if_pos h1,if_pos h1];exact yn (zfs rfl) (yn (kX ab ab) (yn (zfs rfl) (yn (kX ab ab) (yn (zfs rfl) (yn (kX ab ab) (kX ab ab))))))
 rw[if_neg h1,if_neg h1];by_cases h3:r.Kind=3
 ·obtain⟨n1,n2,n3⟩:=b6 h3
  rw[if_pos h3,if_pos h3];exact yn (zfs rfl) (yn (zae (zk8 _ ab)) (yn (zae (zk8 _ ab)) (kX ab ab)))
 rw[if_neg h3,if_neg h3];exact yn (zfs rfl) (zYr r.Uses)
def zSu{r:zO}(h:WD r):TQ (xS ze1 r.Zones++(xS yU r.Except++(ve vw r.From++(ve xC r.Until++(ve xO r.Grace++((bif r.Vary then[.inr wm]else[])++(.inr xI::KX r))))))) (zSr r):=by
 obtain⟨⟨⟨z0,x0⟩,d1,d2,d3,_⟩,hb⟩:=h;exact Ka (zv6 rfl z0) (Ka (zv6 rfl x0) (Ka (zsx rfl ab ab) (Ka (zsx rfl ab ab) (Ka (zsx rfl ab ab) (Ka (zSs _) (yn (zh1 (t:=sgQ xI) rfl rfl) (zSt hb)))))))
def zFg:∀{d:Decl},zfr d->∃l,zFc d=.inr (HV d)::l/\TQ l (zad d)
 |.d x,⟨hn,h⟩=>⟨_,rfl,yn (zae hn) (yn (zh1 (t:=sgQ Az) rfl rfl) (zFe h))⟩
 |.t x,⟨hn,h⟩=>⟨.inr x.Name::(x.Rows.flatMap zst++[.inr yY,.inl x.Else]),rfl,yn (zae hn) (Ka (zk7 λy hy=>yn (zae (WQ h y hy)) (zv5 (h.2.2 y hy).1 (h.2.2 y hy).2)) (yn (zfs (w:=yY) rfl) (zv5 h.2.1.1 h.2.1.2)))⟩
 |.z x,⟨hn,h⟩=>⟨_,rfl,yn (zae hn) (zN1 h)⟩
 |.r x,⟨hn,h⟩=>⟨_,rfl,yn (zae hn) (zSu h)⟩
 |.c x,⟨hn,h⟩=>⟨_,rfl,yn (zae hn) (yn (zae (zFf _ (by have:=h.1;omega))) (yn (kX h.2.1.1 (by have:=h.2.1.2;omega)) (zN1 h.2.2)))⟩
 |.v x,⟨hn,l1,l2,⟨e1,e2,e3⟩,l4⟩=>⟨_,rfl,yn (zae hn) (yn (kX e1.1 ab) (yn (kX e2.1 ab) (yn (kX e3.1 ab) (yn (zfs rfl) (yn (kX l1.1 ab) (yn (zh1 (t:=sgQ xI) rfl rfl) (zk7 λy hy=>zYq (l4 y hy))))))))⟩
 |.s [],⟨hn,_,_⟩=>absurd rfl hn
 |.s (p::r),⟨_,h,_⟩=>⟨_,rfl,Ka (zN2 (h p al)) (zk7 λq hq=>yn (zh1 (t:=sgQ qa) rfl rfl) (zN2 (h q (mcQ _ hq))))⟩
 |.h x,⟨h0,h1,_⟩=>⟨_,rfl,kX h0 ab⟩
def zy6(d:Decl):KO (HV d)=true:=by
 cases d with
 |z x=>cases h:x.Overlay<;>simp only[HV,h]<;>rfl
 |_=>rfl
def zsy(d:Decl):List T3:=kwQ (HV d)::zad d
def zv7{d:Decl}(h:zfr d):OKs (zsy d):=by
 obtain⟨l,_,h2⟩:=zFg h;exact xg (zNu (zy6 d)) h2.2
def zSv{d:Decl}(h:zfr d):yf (zFc d)=jq (zsy d)++[32,59,10]:=by
 obtain⟨l,h1,h2⟩:=zFg h;rw[h1,jH,h2.1,<- asc];rfl
end Go.Proofs.YtffencjoddkghaaGreatDoor
