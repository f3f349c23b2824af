/- texts that the proof reaches, part 11 -/
import Derived.Test.YtffencjoddkghaaGreatDoorKj
set_option linter.all false
open BitVec renaming ofInt->cM
open Bool renaming false->bd,true->bf,not_true->bW,true_and->cA,not_false->cC,and_false->eB,eq_iff_iff->eK,false_and->eP,false_or->fe
open Int renaming toNat->cg,toNat_natCast->dQ
open List renaming length->bg,all_eq_true->bj,mem_cons->bp,getElem?_eq_some_iff->bw,mem_append->bz,getElem?_eq_getElem->bA,length_nil->bF,append_nil->bI,map_append->bO,mem_of_getElem?->bP,cons_append->bU,getD_eq_getElem?_getD->ca,length_drop->cz,all_cons->cP,range->cQ,mem_nil_iff->cR,length_pos_iff->dp,foldl_cons->dx,isPrefixOf->dA,drop_drop->dD,takeWhile->dO,length_singleton->ez,find?_eq_none->eL,takeWhile_append_of_pos->fi,drop_succ_cons->fo,dropWhile->gz,foldl_nil->gJ,zip_cons_cons->gS
open Nat renaming zero_le->cj,lt_succ_self->ck,le_trans->cW,not_lt_zero->cY,le_refl->dk,testBit->dC,add_zero->dY,add_assoc->ee,lt_of_lt_of_le->ep,mod_eq_of_lt->eF,lt_of_le_of_lt->eM,pow_le_pow_right->fg,pow_succ->gh,mod_lt->gY,le_of_lt->im
open Option renaming bind->aN,some->bc,none->bh,bind_assoc->cL
open Sum renaming inl->bo,inr->br
open UInt8 renaming ofNat->ei,toNat_inj->gm
set_option maxRecDepth 100000
namespace Go.Proofs.YtffencjoddkghaaGreatDoor
open Go Go.RowKit Go.Eng Go.EV Go.EQ
variable[Fuel]
def zE{p:Prop}{i:Decidable p}(h:p):@grd p i=bc ():=aP h
def wL{n:Int}(h0:-9223372036854775808<=n)(h1:n<=9223372036854775807):EV.w64 n=n:=zzz h0 h1
def zNh{α:Type}[Inhabited α]{l:List α}{i:Nat}(h:i<l.length):idx l (i:Int)=bc (l.getD i default):=by
 unfold idx;rw[aP ⟨ab,ab⟩];rfl
def yx{α:Type}[Inhabited α]{l:List α}{i:Nat}{x:α}(h:l[i]?=bc x):idx l (i:Int)=bc x:=by
 obtain⟨h1,h2⟩:=bw.1 h;rw[zNh h1,ca,h];rfl
def zNi{α:Type}{l:List α}{a b:Nat}(h1:a<=b)(h2:b<=l.length):cut l (a:Int) (b:Int)=bc ((l.take b).drop a):=by
 unfold cut;rw[aP ⟨ab,ab,ab⟩];rfl
def zkm{α:Type}{l:List α}{a:Nat}(h1:a<=l.length):cut l (a:Int) (l.length:Int)=bc (l.drop a):=by
 rw[zNi h1 aq,List.take_length]
def xE{n:Nat}(h:n<9223372036854775807):w64 ((n:Int)+1)=((n+1:Nat):Int):=by rw[wL ab ab];rfl
def j5{n:Nat}(h:n<18446744073709551616):n<KK:=ep h Fuel.big
def xW{α:Type}{l:List α}{i:Nat}{x:α}{r:List α}(h:l.drop i=x::r):l[i]?=bc x/\l.drop (i+1)=r/\i<l.length:=by
 have h0:l[i]?=bc x:=by
  have:=List.getElem?_drop (xs:=l) (i:=i) (j:=0);rw[h]at this;simpa using this.symm
 refine⟨h0,?_,(bw.1 h0).1⟩;rw[<- dD,h];rfl
def drop_nil{α:Type}{l:List α}{i:Nat}(h:l.drop i=[])(hi:i<=l.length):i=l.length:=by
 have:=aQ bg h;simp at this;omega
-- bytes
def jC(c:UInt8):Bool:=decide (97<=c.toNat)&&decide (c.toNat<=122)
def yK(c:UInt8):Bool:=decide (48<=c.toNat)&&decide (c.toNat<=57)
def ym(c:UInt8):Bool:=decide (c.toNat=32)||(decide (c.toNat=9)||decide (c.toNat=10))
def yV(c:UInt8):Bool:=jC c||yK c
def zsd(a b:Bool):(bif a then bc b else bc bd)=bc (a&&b):=by cases a<;>rfl
def zvd(a b:Bool):(bif a then bc bf else bc b)=bc (a||b):=by cases a<;>rfl
def yI{p q:Prop}{i:Decidable p}{j:Decidable q}(h:p↔q):@decide p i=@decide q j:=by
 by_cases hq:q
 ·rw[dt hq,dt (h.2 hq)]
 ·rw[df hq,df (λhp=>hq (h.1 hp))]
def zNj(n m:Nat){a:Int}(h:a=(m:Int)):decide ((n:Int)>=a)=decide (m<=n):=yI ab
def zDm(n m:Nat){a:Int}(h:a=(m:Int)):decide ((n:Int)<=a)=decide (n<=m):=yI ab
def zDn(n m:Nat){a:Int}(h:a=(m:Int)):decide ((n:Int)=a)=decide (n=m):=yI ab
def zkn(c:UInt8):qh ((c.toNat:Nat):Int)=bc (jC c):=by
 unfold qh;rw[zsd,jC,zNj _ 97 (a:=97) rfl,zDm _ 122 (a:=122) rfl]
def zse(c:UInt8):qW ((c.toNat:Nat):Int)=bc (yK c):=by
 unfold qW;rw[zsd,yK,zNj _ 48 (a:=48) rfl,zDm _ 57 (a:=57) rfl]
def zRa(c:UInt8):KZ ((c.toNat:Nat):Int)=bc (ym c):=by
 unfold KZ;rw[zvd,zvd,ym,zDn _ 32 (a:=32) rfl,zDn _ 9 (a:=9) rfl,zDn _ 10 (a:=10) rfl]
def zDo(c:UInt8):og ((c.toNat:Nat):Int)=bc (yV c):=by
 unfold og;rw[zkn,bsQ,zse,bsQ,zvd,yV]
-- runs of bytes
def zbg(l:ak)(f:UInt8->Bool)(G:UInt8->Option Bool)(F:Nat->Int->Option Int)(hG:∀b,G b=bc (f b))
  (hF:∀K q,F (K+1) q=((bif (decide (q<((bg l:Nat):Int)))then(idx l q).bind G else bc bd)).bind λx1=>(bif x1 then F K (w64 (q+1))else bc q)) (hl:l.length<4611686018427387904):
  ∀(r:ak)(i K:Nat),l.drop i=r->i<=l.length->r.length<K->F K (i:Int)=bc ((i+(r.takeWhile f).length:Nat):Int):=by
 intro r
 induction r with
 |nil =>
  intro i K hr hi hK
  obtain⟨K,rfl⟩:∃k,K=k+1:=⟨K-1,ab⟩
  have:=drop_nil hr hi;rw[hF,df ab];simp
 |cons c r ih =>
  intro i K hr hi hK
  obtain⟨K,rfl⟩:∃k,K=k+1:=⟨K-1,ab⟩
  obtain⟨h1,h2,h3⟩:=xW hr;simp only[lc]at hK;rw[hF,dt ab,ctQ,yx h1,bsQ,hG,bsQ]
  cases hc:f c with
  |false=>simp[dO,hc]
  |true =>
   rw[ctQ,xE ab,ih (i+1) K h2 ab ab];simp only[dO,hc,lc]
   congr 2;omega
def vJ(f:UInt8->Bool)(l:ak):Nat:=(l.takeWhile f).length
def A3(f:UInt8->Bool)(l:ak):vJ f l<=l.length:=(List.takeWhile_sublist _).length_le
def zd6{α:Type}(o:Option α):(o.bind λx=>bc x)=o:=by cases o<;>rfl
def zXk{s:ak}(h:s.length<4611686018427387904):zay s=bc ((vJ ym s:Nat):Int):=by
 unfold zay;rw[zd6,show((0:Int))=((0:Nat):Int) from rfl,zbg s ym (λx2=>aN (KZ ((x2.toNat:Nat):Int)) λx3=>bc x3) (Jh s) (λb=>by rw[zRa];rfl) (λK q=>rfl) h s 0 KK rfl ab (j5 ab)];simp[vJ]
def zRb{s:ak}(h:s.length<4611686018427387904):QO s=bc ((vJ yV s:Nat):Int):=by
 unfold QO;rw[zd6,show((0:Int))=((0:Nat):Int) from rfl,zbg s yV (λx2=>aN (QN ((x2.toNat:Nat):Int)) λx3=>bc x3) (uK s) (λb=>by rw[show QN=og from rfl,zDo];rfl) (λK q=>rfl) h s 0 KK rfl ab (j5 ab)];simp[vJ]
def zRc{s:ak}(h:s.length<4611686018427387904):QP s=bc ((vJ yV s:Nat):Int):=by
 unfold QP;rw[zd6,show((0:Int))=((0:Nat):Int) from rfl,zbg s yV (λx2=>aN (og ((x2.toNat:Nat):Int)) λx3=>bc x3) (uL s) (λb=>by rw[zDo];rfl) (λK q=>rfl) h s 0 KK rfl ab (j5 ab)];simp[vJ]
def zDp{s:ak}(h:s.length<4611686018427387904):Hk s=bc ((vJ yK s:Nat):Int):=by
 unfold Hk;rw[zd6,show((0:Int))=((0:Nat):Int) from rfl,zbg s yK (λx2=>aN (qW ((x2.toNat:Nat):Int)) λx3=>bc x3) (uM s) (λb=>by rw[zse];rfl) (λK q=>rfl) h s 0 KK rfl ab (j5 ab)];simp[vJ]
def zve{f:UInt8->Bool}{l:ak}:vJ f l=l.length↔l.all f=bf:=by
 induction l with
 |nil=>simp[vJ]
 |cons c l ih =>
  simp only[vJ,dO,cP]at ih ⊢
  cases f c with
  |false=>simp
  |true=>simp only[lc,cA,<- ih];omega
-- words
def Qk(s:ak):Bool:=match s with
 |[]=>bd
 |c::r=>jC c&&(decide (s.length<=20)&&r.all yV)
def zNk{s:ak}(h:s.length<4611686018427387904):WU s=bc (Qk s):=by
 unfold WU
 cases s with
 |nil=>rfl
 |cons c r =>
  rw[df af,cf,show((0:Int))=((0:Nat):Int) from rfl,yx (x:=c) rfl,bsQ,zkn,bsQ,zvd,bsQ,zRc h,bsQ]
  have e:decide ((vJ yV (c::r):Int)=(((c::r).length:Nat):Int))=(yV c&&r.all yV):=by
   rw[<- cP,eK,decide_eq_true_iff,<- zve];omega
  rw[e,Qk]
  cases hc:jC c with
  |false=>simp
  |true =>
   have:yV c=bf:=by rw[yV,hc];rfl
   rw[this];by_cases h20:(c::r).length<=20
   ·rw[dt h20,df ab];simp
   ·rw[df h20,dt ab];simp
def A4(s:ak):List ak->Option Nat
 |[]=>bh
 |x::r=>if x=s then bc 0 else(A4 s r).map (·+1)
def Ql:Option Nat->Int
 |some i=>(i:Int)
 |none=>-1
def zoz{s:ak}:∀{l:List ak}{i:Nat},A4 s l=bc i->l[i]?=bc s
 |x::r,i,h=>by
  rw[A4]at h;split at h
  ·rename_i e;cases h;simp[e]
  ·obtain⟨j,h1,rfl⟩:=Option.map_eq_some_iff.1 h
   simpa using zoz h1
def RES:List ak:=[zCv,qe,AB,WQ,wZ,xe,yZ,vD,xR,kD,WS,ze5,vM,qS,zVx,yH,qf,qU,jA,Jf,yy,uA,xF,oT,wc,AD,xm]
def zD(s:ak):Bool:=Qk s&&!(decide (s∈RES))
def zsf:List ak->ak
 |[]=>[32]
 |w::r=>32::(w++zsf r)
def zJu:∀l,∃t,zsf l=32::t
 |[]=>⟨[],rfl⟩
 |w::r=>⟨_,rfl⟩
def zNl{t:ak}:∀{s w:ak},(∀b∈s,b≠32)->(∀b∈w,b≠32)->(s++[32]).isPrefixOf (w++32::t)=decide (s=w)
 |[],[],_,_=>by simp[dA]
 |[],b::w,_,h=>by
  have:=h b al;simp[dA,Ne.symm this]
 |a::s,[],h,_=>by
  have:=h a al;simp[dA,this]
 |a::s,b::w,h,h'=>by
  have ih:=zNl (t:=t) (s:=s) (w:=w) (λx hx=>h x (mcQ _ hx)) (λx hx=>h' x (mcQ _ hx));simp only[bU,dA,ih];by_cases e:a=b
  ·subst e;simp
  ·simp[e]
def zvf{x y:ak}:∀{w:ak},(∀b∈w,b≠32)->KD (w++x) (32::y)=KD x (32::y)
 |[],_=>rfl
 |b::w,h=>by
  have h1:=h b al;rw[bU,KD,zvf λc hc=>h c (mcQ _ hc)];simp[dA,Ne.symm h1]
def zo0{s:ak}(hs:∀b∈s,b≠32):∀{l:List ak},(∀w∈l,∀b∈w,b≠32)->KD (zsf l) (32::(s++[32]))=decide (s∈l)
 |[],_=>by cases s<;>simp[zsf,KD,dA]
 |w::r,h=>by
  obtain⟨t,ht⟩:=zJu r;have hw:=h w al;rw[zsf,KD,zvf hw,zo0 hs λx hx=>h x (mcQ _ hx)]
  have:(32::(s++[32])).isPrefixOf (32::(w++zsf r))=decide (s=w):=by
   rw[ht];simp only[dA,beq_self_eq_true,cA];exact zNl hs hw
  rw[this];by_cases e:s=w
  ·simp[e]
  ·simp[e]
def zJv{c:UInt8}(h:yV c=bf):c≠32:=by
 rintro rfl;revert h;decide
def Zb{s:ak}(h:Qk s=bf):s.all yV=bf:=by
 cases s with
 |nil=>cases h
 |cons c r =>
  simp only[Qk,bn]at h;simp only[cP,yV,h.1,Bool.true_or,cA];exact h.2.2
def zvg{s:ak}(h:Qk s=bf):s.length<=20/\s≠[]:=by
 cases s with
 |nil=>cases h
 |cons c r =>
  simp only[Qk,bn,aW]at h;exact⟨h.2.1,af⟩
def xf{s:ak}(h:s.length<4611686018427387904):Vm s=bc (zD s):=by
 unfold Vm zD;rw[zNk h,bsQ]
 cases hw:Qk s with
 |false=>rfl
 |true =>
  have h20:=(zvg hw).1
  have hs:∀b∈s,b≠32:=λb hb=>zJv (bj.1 (Zb hw) b hb)
  have e:=zo0 hs (l:=RES) ae
  have e2:zsf RES=zh:=ae
  rw[e2]at e;rw[ctQ,zE (by simp[t__];omega),bsQ,zE (by simp[t__];omega),bsQ]
  have:QR zh ((t__++s)++t__)=bc (decide (s∈RES)):=by
   unfold QR QM;rw[zE ae,bsQ,<- e];rfl
  rw[this];rfl
def zyr(c:UInt8):Nat:=c.toNat-48
def Zc:ak->Nat->Nat
 |[],n=>n
 |c::r,n=>Zc r (10*n+zyr c)
def VU(n:Nat)(r:ak):Nat:=Zc r n
def Zd(n:Nat)(c:UInt8)(r:ak):VU n (c::r)=VU (10*n+zyr c) r:=by simp only[VU,Zc]
def zJw(s:ak):Option Nat:=if s.all yK=bf/\s≠[]/\(s.head?=bc 48->s=[48])/\VU 0 s<=1099511627776 then bc (VU 0 s)else bh
def numR(s:ak):Int×Bool:=match zJw s with
 |some v=>((v:Int),bf)
 |none=>(0,bd)
def zDq:∀(r:ak)(n:Nat),n*10 ^ r.length<=VU n r
 |[],n=>by simp[VU,Zc]
 |c::r,n=>by
  have:=zDq r (10*n+zyr c);rw[Zd];refine cW ?_ this;rw[lc,gh,Nat.mul_comm (10 ^ r.length) 10,<- Nat.mul_assoc];exact Nat.mul_le_mul_right _ ab
def zko{c:UInt8}(h:yK c=bf):48<=c.toNat/\c.toNat<=57:=by
 simp only[yK,bn,aW]at h;exact h
def zRd(s:ak)(hl:s.length<=13):∀(r:ak)(i K n:Nat),s.drop i=r->i<=s.length->r.length<K->r.all yK=bf->n<10 ^ i->jc s (s.length:Int) K ((n:Int),(i:Int))=bc ((VU n r:Nat):Int):=by
 intro r
 induction r with
 |nil =>
  intro i K n hr hi hK hd hn
  obtain⟨K,rfl⟩:∃k,K=k+1:=⟨K-1,ab⟩
  have:=drop_nil hr hi;rw[jc,df (show ¬((i:Int)<(s.length:Int)) by omega)];rfl
 |cons c r ih =>
  intro i K n hr hi hK hd hn
  obtain⟨K,rfl⟩:∃k,K=k+1:=⟨K-1,ab⟩
  obtain⟨h1,h2,h3⟩:=xW hr;simp only[lc]at hK;simp only[cP,bn]at hd;have hc:=zko hd.1;have h13:10 ^ i<=10 ^ 12:=fg ab ab
  have h13':(10:Nat) ^ 12=1000000000000:=ae
  have hw:IntKind.u8.wrap (((c.toNat:Nat):Int)-48)=((zyr c:Nat):Int):=by
   unfold IntKind.wrap zyr;simp only[IntKind.bits,IntKind.signed];simp;omega
  have hdv:zyr c<=9:=by unfold zyr;omega
  rw[jc,dt (show((i:Int)<(s.length:Int)) by omega),ctQ,yx h1,bsQ,hw];simp only
  rw[wL (n:=10*(n:Int)) ab ab,wL (n:=((zyr c:Nat):Int)) ab ab,wL ab ab,xE ab,
   show(10*(n:Int)+((zyr c:Nat):Int))=((10*n+zyr c:Nat):Int) by omega]
  rw[ih (i+1) K _ h2 ab ab hd.2 (by rw[gh];omega),Zd]
def zJx{s:ak}(h:s.length<4611686018427387904):QQ s=bc (numR s):=by
 unfold QQ numR zJw
 cases s with
 |nil=>rfl
 |cons c r =>
  have e1:decide ((c::r)=([]:ak))=bd:=af
  have e2:decide (((vJ yK (c::r):Nat):Int)=(((c::r).length:Nat):Int))=(c::r).all yK:=by
   rw[eK,decide_eq_true_iff,<- zve];omega
  rw[e1,cf,zDp h,bsQ,e2]
  cases hd:(c::r).all yK with
  |false=>simp[hd]
  |true =>
   have e3:decide (((c.toNat:Nat):Int)=48)=decide (c=48):=yI ⟨λh=>gm.1 (by simpa using(by omega:c.toNat=48)),λh=>by subst h;rfl⟩;rw[bW,cf,show(0:Int)=((0:Nat):Int) from rfl,yx (x:=c) rfl,bsQ,e3];by_cases h48:c=48/\r≠[]
   ·obtain⟨rfl,hr⟩:=h48
    have:decide ((48::r)=t_0)=bd:=df (by simp[t_0,hr]);rw[this];simp[hd,hr]
   ·have hv:((c::r).head?=bc 48->(c::r)=[48]):=λe=>by
     simp at e;subst e
     have:r=[]:=Classical.byContradiction λhr=>h48 ⟨rfl,hr⟩
     rw[this]
    have e4:(bif decide (c=48)then(bif (!(decide ((c::r)=t_0)))then bc bf else bc (decide ((((c::r).length:Nat):Int)>13)))else bc (decide ((((c::r).length:Nat):Int)>13)))=bc (decide (13<(c::r).length)):=by
     have e5:decide ((((c::r).length:Nat):Int)>13)=decide (13<(c::r).length):=yI ab;rw[e5];by_cases hc:c=48
     ·subst hc
      have:=hv rfl;rw[this];rfl
     ·rw[df hc,cf]
    rw[e4,bsQ];by_cases h13:13<(c::r).length
    ·rw[dt h13,ctQ]
     have hc:=zko (c:=c) (by simp only[cP,bn]at hd;exact hd.1)
     have hc2:c≠48:=λe=>by
      subst e;rw[hv rfl]at h13;simp at h13
     have hc3:c.toNat≠48:=λe=>hc2 (gm.1 (by simpa using e))
     have hg:1099511627776<VU 0 (c::r):=by
      rw[Zd];refine ep ?_ (zDq r _);simp only[lc]at h13;have h1:10 ^ 13<=10 ^ r.length:=fg ab ab
      have h2:1<=10*0+zyr c:=by unfold zyr;omega
      have h3:=Nat.mul_le_mul h2 h1
      have h4:(10:Nat) ^ 13=10000000000000:=ae
      omega
     rw[aO (λhh=>ab)]
    ·rw[df h13,cf,show((0:Nat):Int)=((0:Nat):Int) from rfl,zRd (c::r) ab (c::r) 0 KK 0 rfl ab (j5 ab) hd ab,bsQ]
     have e6:decide (((VU 0 (c::r):Nat):Int)>1099511627776)=!decide (VU 0 (c::r)<=1099511627776):=by
      rw[<- decide_not];exact yI ab
     rw[e6];by_cases hg:VU 0 (c::r)<=1099511627776
     ·rw[aP ⟨rfl,af,hv,hg⟩,dt hg];rfl
     ·rw[aO (λhh=>hg hh.2.2.2),df hg];rfl
def SG:List ak:=[qF,qG,yf,kW,xM,Av,zfq,zfo,yU,zfn,zfp,zfm,Au,qg]
def zkp(s:ak):Option ak:=SG.find? λx=>x.isPrefixOf s
def tkS(s:ak):Except Int (Int×ak×Int):=match s with
 |[]=>.error 13
 |c::_=>if jC c then(if(s.takeWhile yV).length<=20 then .ok (0,s.takeWhile yV,0)else .error 15)
  else if yK c then(match zJw (s.takeWhile yK)with|some v=>.ok (1,s.takeWhile yK,(v:Int))|none=>.error 3)
  else match zkp s with|some t=>.ok (2,t,0)|none=>.error 13
def tokR:Except Int (Int×ak×Int)->Int×Int×ak×Int×Int
 |.ok (k,t,n)=>(0,k,t,n,0)
 |.error e=>(e,0,[],0,0)
def zd7(f:UInt8->Bool)(s:ak):s.take (vJ f s)=s.takeWhile f:=by
 induction s with
 |nil=>rfl
 |cons c s ih =>
  simp only[vJ,dO]at ih ⊢
  cases f c with
  |false=>rfl
  |true=>simp only[lc,List.take_succ_cons,ih]
def Ya(f:UInt8->Bool)(s:ak):s.drop (vJ f s)=s.dropWhile f:=by
 induction s with
 |nil=>rfl
 |cons c s ih =>
  simp only[vJ,dO,gz]at ih ⊢
  cases f c with
  |false=>rfl
  |true=>simp only[lc,fo,ih]
def zkq(f:UInt8->Bool)(s:ak):(s.takeWhile f).all f=bf:=by
 induction s with
 |nil=>rfl
 |cons c s ih =>
  simp only[dO]
  cases h:f c with
  |false=>rfl
  |true=>simp[h,ih]
def zDr{c:UInt8}{r:ak}(hc:jC c=bf):Qk ((c::r).takeWhile yV)=decide (((c::r).takeWhile yV).length<=20):=by
 have h:=zkq yV (c::r)
 have ha:yV c=bf:=by rw[yV,hc];rfl
 simp only[dO,ha]at h ⊢;simp only[cP,ha,cA]at h;rw[Qk,hc,h];simp
def zXl(s:ak):∀(r:List ak)(i K:Nat),SG.drop i=r->i<=14->r.length<K->qi s qF qG yf kW xM Av zfq zfo yU zfn zfp zfm Au qg 0 ([]:ak) K (i:Int)=bc (match r.find? λx=>x.isPrefixOf s with|some t=>.inl (0,2,t,0,0)|none=>.inr ()):=by
 intro r
 induction r with
 |nil =>
  intro i K hr hi hK
  obtain⟨K,rfl⟩:∃k,K=k+1:=⟨K-1,ab⟩
  have:=drop_nil hr hi;have:i=14:=this;rw[qi,df ab];rfl
 |cons c r ih =>
  intro i K hr hi hK
  obtain⟨K,rfl⟩:∃k,K=k+1:=⟨K-1,ab⟩
  obtain⟨h1,h2,h3⟩:=xW hr;have h3:i<14:=h3;simp only[lc]at hK;have hx:idx (α:=ak) ([qF,qG,yf,kW,xM,Av,zfq,zfo,yU,zfn,zfp,zfm,Au,qg]:List ak) (i:Int)=bc c:=yx h1;rw[qi,dt ab,ctQ,hx,bsQ,show VD s c=bc (c.isPrefixOf s) from rfl,bsQ,List.find?_cons]
  cases c.isPrefixOf s with
  |true=>rfl
  |false=>rw[cf,xE ab,ih (i+1) K h2 ab ab]
def zJy{c:UInt8}{r:ak}:idx (c::r) 0=bc c:=yx (i:=0) rfl
def zvh{α:Type}{l:List α}{b:Nat}(h:b<=l.length):cut l 0 (b:Int)=bc (l.take b):=zNi (a:=0) (cj _) h
def xT(c:UInt8)(r:ak):tkS (c::r)=(if jC c then(if((c::r).takeWhile yV).length<=20 then .ok (0,(c::r).takeWhile yV,0)else .error 15)
  else if yK c then(match zJw ((c::r).takeWhile yK)with|some v=>.ok (1,(c::r).takeWhile yK,(v:Int))|none=>.error 3)
  else match zkp (c::r)with|some t=>.ok (2,t,0)|none=>.error 13):=rfl
def zXm{s:ak}(h:s.length<4611686018427387904)(h0:s≠[]):zaz s=bc (tokR (tkS s)):=by
 cases s with
 |nil=>exact aU rfl h0
 |cons c r =>
  unfold zaz;rw[xT,zJy,bsQ,zkn,bsQ]
  cases hc:jC c with
  |true =>
   rw[ctQ,zRb h,bsQ,zvh (A3 _ _),bsQ,zd7];have ht:((c::r).takeWhile yV).length<4611686018427387904:=eM (A3 yV _) h;rw[zNk ht,bsQ,zDr hc,aP rfl];by_cases h20:((c::r).takeWhile yV).length<=20
   ·rw[dt h20,aP h20];rfl
   ·rw[df h20,aO h20];rfl
  |false =>
   rw[cf,bsQ,zse,bsQ,aO af]
   cases hd:yK c with
   |true =>
    rw[ctQ,zDp h,bsQ,zvh (A3 _ _),bsQ,zd7];have ht:((c::r).takeWhile yK).length<4611686018427387904:=eM (A3 yK _) h;rw[zJx ht,bsQ,numR,aP rfl]
    cases zJw ((c::r).takeWhile yK)with
    |none=>rfl
    |some v=>rfl
   |false =>
    rw[cf,aO af];have:=zXl (c::r) SG 0 KK rfl ab (j5 ae);rw[show(((0:Nat):Int))=(0:Int) from rfl]at this;rw[this,zkp]
    cases SG.find? λx=>x.isPrefixOf (c::r)with
    |none=>rfl
    |some t=>rfl
-- the reference
def ONE:ak:=xp
def SG_hd:∀x∈SG,∃a t,x=a::t/\a∈ONE:=by
 intro x hx;simp only[SG,bp,cR,or_false]at hx
 rcases hx with rfl|rfl|rfl|rfl|rfl|rfl|rfl|rfl|rfl|rfl|rfl|rfl|rfl|rfl<;>exact⟨_,_,rfl,ae⟩
def zhw{c:UInt8}{r:ak}(h:c ∉ ONE):zkp (c::r)=bh:=by
 rw[zkp,eL];intro x hx hp;obtain⟨a,t,rfl,ha⟩:=SG_hd x hx;simp only[dA,bn,beq_iff_eq]at hp;exact h (hp.1▸ha)
def Yb{c:UInt8}{r:ak}:zkp (c::r)=if r.head?=bc 61/\(c=60∨c=61)then bc [c,61]else if c∈ONE then bc [c]else bh:=by
 by_cases h:c∈ONE
 ·rw[aP h]
  simp only[ONE,xp,bp,cR,or_false]at h
  cases r with
  |nil=>rcases h with rfl|rfl|rfl|rfl|rfl|rfl|rfl|rfl|rfl|rfl|rfl|rfl<;>rfl
  |cons d r =>
   by_cases hd:d=61
   ·subst hd
    rcases h with rfl|rfl|rfl|rfl|rfl|rfl|rfl|rfl|rfl|rfl|rfl|rfl<;>simp[zkp,SG,List.find?,dA,qF,qG,yf,kW,xM,Av,zfq,zfo,yU,zfn,zfp,zfm,Au,qg]
   ·have hd2:((61:UInt8)==d)=bd:=by simp[Ne.symm hd]
    rcases h with rfl|rfl|rfl|rfl|rfl|rfl|rfl|rfl|rfl|rfl|rfl|rfl<;>simp[zkp,SG,List.find?,dA,qF,qG,yf,kW,xM,Av,zfq,zfo,yU,zfn,zfp,zfm,Au,qg,hd,hd2]
 ·rw[zhw h,aO (λhh=>h (by rcases hh.2 with rfl|rfl<;>decide)),aO h]
def takeWhile_cons{f:UInt8->Bool}{c:UInt8}{r:ak}(h:f c=bf):(c::r).takeWhile f=c::r.takeWhile f:=by simp[dO,h]
def HG(p:Nat):ar:=ar.mk 3 [] 0 (p:Int)
def Ze:Nat->Nat->ak->Except (Nat×Int) (List ar)
 |0,p,_=>.ok [HG p]
 |n+1,p,s=>match s.dropWhile ym with
  |[]=>.ok [HG (p+vJ ym s)]
  |c::r=>match tkS (c::r)with
   |.error e=>.error (p+vJ ym s,e)
   |.ok (k,t,v)=>match Ze n (p+vJ ym s+t.length) ((c::r).drop t.length)with
    |.error e=>.error e
    |.ok l=>.ok (ar.mk k t v ((p+vJ ym s:Nat):Int)::l)
def zJz(s:ak):Except (Nat×Int) (List ar):=Ze (s.length+1) 0 s
def zT2:Except (Nat×Int) (List ar)->List ar×Int×Int
 |.ok l=>(l,0,0)
 |.error (p,e)=>([],(p:Int),e)
def zd8{s t:ak}{k n:Int}(h:tkS s=.ok (k,t,n)):t≠[]/\t=s.take t.length/\t.length<=s.length:=by
 have fin:∀{c:UInt8}{r:ak}{f:UInt8->Bool},f c=bf->(c::r).takeWhile f≠[]/\(c::r).takeWhile f=(c::r).take ((c::r).takeWhile f).length/\((c::r).takeWhile f).length<=(c::r).length:=λ{c r f} hc=>by
  refine⟨by simp[takeWhile_cons hc],?_,A3 f _⟩;exact(zd7 f (c::r)).symm
 cases s with
 |nil=>cases h
 |cons c r =>
  rw[xT]at h;split at h
  ·rename_i hc
   split at h
   ·cases h
    exact fin (by rw[yV,hc];rfl)
   ·cases h
  ·split at h
   ·rename_i hd
    split at h
    ·cases h;exact fin hd
    ·cases h
   ·split at h
    ·rename_i hs
     cases h;rw[Yb]at hs;split at hs
     ·rename_i hh
      cases hs
      cases r with
      |nil=>simp at hh
      |cons d r =>
       have:d=61:=by simpa using hh.1
       subst this;exact⟨af,rfl,af⟩
     ·split at hs
      ·cases hs;exact⟨af,rfl,af⟩
      ·cases hs
    ·cases h
def zvi{s:ak}{e:Int}(h:tkS s=.error e):e≠0:=by
 cases s with
 |nil=>cases h;decide
 |cons c r =>
  rw[xT]at h;split at h
  ·split at h
   ·cases h
   ·cases h;decide
  ·split at h
   ·split at h
    ·cases h
    ·cases h;decide
   ·split at h
    ·cases h
    ·cases h;decide
def zRe(s0:ak)(hs:s0.length<=8000):∀(n i K:Nat)(out:List ar),i<=s0.length->s0.length-i<n->n<=K->out.length<=i->oi s0 K ((i:Int),out)=bc (.inl (match Ze n i (s0.drop i)with|.ok l=>(out++l,0,0)|.error (p,e)=>([],(p:Int),e))):=by
 intro n
 induction n with
 |zero=>intro i K out hi hn;omega
 |succ n ih =>
  intro i K out hi hn hK ho
  obtain⟨K,rfl⟩:∃k,K=k+1:=⟨K-1,ab⟩
  have hl:(s0.drop i).length=s0.length-i:=cz;have hsp:=A3 ym (s0.drop i)
  have e1:w64 ((i:Int)+((vJ ym (s0.drop i):Nat):Int))=((i+vJ ym (s0.drop i):Nat):Int):=by rw[wL ab ab];rfl
  rw[oi,Ze];simp only;rw[zkm hi,bsQ,zXk ab,bsQ,e1]
  cases hd:(s0.drop i).dropWhile ym with
  |nil =>
   have h1:=Ya ym (s0.drop i);rw[hd]at h1;have h2:=drop_nil h1 (A3 _ _);rw[dt ab,ctQ,zE (by simp only[la,lc,bF];omega),bsQ];rfl
  |cons c r =>
   have h1:=Ya ym (s0.drop i);rw[hd,dD]at h1;obtain⟨g1,g2,g3⟩:=xW h1;rw[df ab,cf,zkm ab,bsQ,h1,zXm (by rw[<- h1,cz];omega) af,bsQ];dsimp only
   cases ht:tkS (c::r)with
   |error e =>
    have he:=zvi ht;simp only[tokR,he,decide_false,cC,ctQ]
   |ok x =>
    obtain⟨k,t,v⟩:=x;obtain⟨t1,t2,t3⟩:=zd8 ht;have t4:0<t.length:=dp.2 t1;have t5:=aQ bg h1;simp only[cz]at t5;change (bif (!(decide ((0:Int)=0)))then bc _ else(grd (bg (out++([(ar.mk k t v (((i+vJ ym (s0.drop i):Nat):Int)))]:List ar))*40<=140737488355328)).bind λ_=>oi s0 K (w64 (((i+vJ ym (s0.drop i):Nat):Int)+((t.length:Nat):Int)),out++([(ar.mk k t v (((i+vJ ym (s0.drop i):Nat):Int)))]:List ar)))=_;rw[dt rfl,bW,cf,zE (by simp only[la,lc,bF];omega),bsQ]
    have e2:w64 (((i+vJ ym (s0.drop i):Nat):Int)+((t.length:Nat):Int))=((i+vJ ym (s0.drop i)+t.length:Nat):Int):=by rw[wL ab ab];rfl
    rw[e2,ih (i+vJ ym (s0.drop i)+t.length) K _ ab ab ab (by simp only[la,lc,bF];omega),<- dD,h1];dsimp only
    cases hx:Ze n (i+vJ ym (s0.drop i)+t.length) ((c::r).drop t.length)with
    |error e=>rfl
    |ok l=>simp
def zRf{s:ak}(h:s.length<=8000):VE s=bc (zT2 (zJz s)):=by
 unfold VE;have:=zRe s h (s.length+1) 0 KK [] ab ab (by have:=j5 (n:=s.length) ab;omega) af;rw[show(((0:Nat):Int))=(0:Int) from rfl]at this;rw[df ab,cf,this,List.drop_zero,zJz]
 cases Ze (s.length+1) 0 s with
 |error e=>rfl
 |ok l=>rfl
def zys{c:UInt8}{r:ak}(hc:ym c=bf)(n p:Nat):Ze (n+1) p (c::r)=Ze (n+1) (p+1) r:=by
 have e1:(c::r).dropWhile ym=r.dropWhile ym:=by simp[gz,hc]
 have e2:p+vJ ym (c::r)=p+1+vJ ym r:=by simp only[vJ,takeWhile_cons hc,lc];omega
 rw[Ze,Ze,e1,e2]
def zDs{c:UInt8}{r:ak}(hc:ym c=bd)(n p:Nat):Ze (n+1) p (c::r)=match tkS (c::r)with
   |.error e=>.error (p,e)
   |.ok (k,t,v)=>match Ze n (p+t.length) ((c::r).drop t.length)with
    |.error e=>.error e
    |.ok l=>.ok (ar.mk k t v (p:Int)::l):=by
 have e1:(c::r).dropWhile ym=c::r:=by simp[gz,hc]
 have e2:vJ ym (c::r)=0:=by simp[vJ,dO,hc]
 rw[Ze,e1,e2];rfl
def zJ0:∀(n p:Nat)(s:ak)(l:List ar),s.length<n->Ze n p s=.ok l->∃b,l=b++[HG (p+s.length)]/\∀t∈b,t.aM≠3/\t.Text.length<=s.length:=by
 intro n
 induction n with
 |zero=>intro p s l hn;omega
 |succ n ih =>
  intro p s l hn h;rw[Ze]at h;have hsp:=A3 ym s;have hds:=Ya ym s;split at h
  ·rename_i hd
   cases h;rw[hd]at hds;have:=drop_nil hds (A3 _ _);exact⟨[],by simp[this],λt ht=>by cases ht⟩
  ·rename_i c r hd
   rw[hd]at hds;have hl:=aQ bg hds;simp only[cz]at hl;split at h
   ·cases h
   ·rename_i k t v ht
    obtain⟨t1,t2,t3⟩:=zd8 ht;have t4:0<t.length:=dp.2 t1;split at h
    ·cases h
    ·rename_i l' hl'
     cases h;obtain⟨b,rfl,hb⟩:=ih _ _ _ (by rw[cz];omega) hl';rw[cz]at hb ⊢;refine⟨_::b,by rw[bU];congr 4;omega,λx hx=>?_⟩
     rcases bp.1 hx with rfl|hx
     ·refine⟨?_,by simp only;omega⟩
      rw[xT]at ht;simp only;split at ht
      ·split at ht
       ·cases ht;decide
       ·cases ht
      ·split at ht
       ·split at ht
        ·cases ht;decide
        ·cases ht
       ·split at ht
        ·cases ht;decide
        ·cases ht
     ·have:=hb x hx;exact⟨this.1,ab⟩
abbrev T3:=Int×ak×Int
def t3(t:ar):T3:=(t.aM,t.Text,t.N)
def zsg{s t:ak}{c:UInt8}{r:ak}{k v:Int}{n:Nat}(hd:s.dropWhile ym=c::r)(ht:tkS (c::r)=.ok (k,t,v))(h:s.length<n+1):((c::r).drop t.length).length<n:=by
 obtain⟨h1,_,h3⟩:=zd8 ht
 have h4:(c::r).length<=s.length:=by
  rw[<- hd];exact(List.dropWhile_sublist _).length_le
 have:0<t.length:=dp.2 h1;rw[cz];omega
def zd9:∀(n m p:Nat)(s:ak),s.length<n->s.length<m->Ze n p s=Ze m p s
 |0,_,_,_,h,_=>aU h (cY _)
 |_+1,0,_,_,_,h=>aU h (cY _)
 |n+1,m+1,p,s,hn,hm=>by
  rw[Ze,Ze]
  cases hd:s.dropWhile ym with
  |nil=>rfl
  |cons c r =>
   dsimp only
   cases ht:tkS (c::r)with
   |error e=>rfl
   |ok x =>
    obtain⟨k,t,v⟩:=x;dsimp only;rw[zd9 n m _ _ (zsg hd ht hn) (zsg hd ht hm)]
def zGu(p:Nat)(s:ak):Except (Nat×Int) (List ar):=Ze (s.length+1) p s
def zhx{c:UInt8}{r:ak}(hc:ym c=bf)(p:Nat):zGu p (c::r)=zGu (p+1) r:=by
 unfold zGu;rw[zys hc];exact zd9 _ _ _ _ (by simp only[lc];omega) ab
def zNm(l:List ar):Except (Nat×Int) (List ar)->Except (Nat×Int) (List ar)
 |.ok r=>.ok (l++r)
 |.error e=>.error e
def zvj(a b:List ar):∀x,zNm a (zNm b x)=zNm (a++b) x
 |.ok r=>by simp[zNm]
 |.error e=>rfl
def zvk:∀x,zNm [] x=x
 |.ok r=>rfl
 |.error e=>rfl
def BL(s:ak):Prop:=∀c r,s=c::r->ym c=bf
def zNn:BL []:=λ_ _ h=>by cases h
def zkr{c:UInt8}{r:ak}(h:ym c=bf):BL (c::r):=λ_ _ e=>by cases e;exact h
def zXn{a b:ak}(ha:BL a)(hb:BL b):BL (a++b):=by
 cases a with
 |nil=>exact hb
 |cons c r=>exact zkr (ha c r rfl)
def okT(t:T3):Prop:=tkS t.2.1=.ok t
def zea{c:UInt8}(h:ym c=bf):c.toNat=32∨c.toNat=9∨c.toNat=10:=by
 simpa[ym]using h
def Yc{c:UInt8}(h:ym c=bf):jC c=bd/\yK c=bd/\yV c=bd/\c≠61:=by
 have h:=zea h
 have h1:jC c=bd:=by
  unfold jC;rw[df (show ¬97<=c.toNat by omega)];rfl
 have h2:yK c=bd:=by
  unfold yK;rw[df (show ¬48<=c.toNat by omega)];rfl
 refine⟨h1,h2,by rw[yV,h1,h2];rfl,?_⟩;rintro rfl;exact aU h ae
def zRg{f:UInt8->Bool}(hf:∀c,ym c=bf->f c=bd){r:ak}(h:BL r):r.takeWhile f=[]:=by
 cases r with
 |nil=>rfl
 |cons c r=>rw[List.takeWhile_cons,hf c (h c r rfl)];rfl
def zav{f:UInt8->Bool}(hf:∀c,ym c=bf->f c=bd){a r:ak}(h:BL r)(ha:a.takeWhile f=a):(a++r).takeWhile f=a:=by
 have:∀x∈a,f x=bf:=by
  have:=List.all_takeWhile (p:=f) (l:=a);rw[ha]at this;exact bj.1 this
 rw[fi this,zRg hf h,bI]
def zRh{t:T3}(h:okT t){r:ak}(hr:BL r):tkS (t.2.1++r)=.ok t:=by
 obtain⟨k,x,n⟩:=t;unfold okT at h;dsimp only at h ⊢
 cases x with
 |nil=>cases h
 |cons c x =>
  rw[bU,xT];rw[xT]at h;by_cases hl:jC c=bf
  ·rw[aP hl]at h ⊢
   by_cases hn:((c::x).takeWhile yV).length<=20
   ·rw[aP hn]at h
    have e:(c::x).takeWhile yV=c::x:=by
     have:=Except.ok.inj h;exact aQ (λy=>y.2.1) this
    have e2:=zav (f:=yV) (λc h=>(Yc h).2.2.1) hr e;rw[bU]at e2;rw[e]at h hn;rw[e2,aP hn];exact h
   ·rw[aO hn]at h;cases h
  ·rw[aO hl]at h ⊢
   by_cases hd:yK c=bf
   ·rw[aP hd]at h ⊢
    cases hv:zJw ((c::x).takeWhile yK)with
    |none=>rw[hv]at h;cases h
    |some v =>
     rw[hv]at h;have e:(c::x).takeWhile yK=c::x:=aQ (λy=>y.2.1) (Except.ok.inj h);have e2:=zav (f:=yK) (λc h=>(Yc h).2.1) hr e;rw[bU]at e2;rw[e]at h hv;rw[e2,hv];exact h
   ·rw[aO hd]at h ⊢
    rw[Yb]at h ⊢
    have h61:∀{d:UInt8},r.head?=bc d->d≠61:=λ{d} e=>by
     cases r with
     |nil=>cases e
     |cons a r=>cases e;exact(Yc (hr _ _ rfl)).2.2.2
    by_cases h1:x.head?=bc 61/\(c=60∨c=61)
    ·rw[aP h1]at h
     rw[aP ⟨by cases x with
      |nil=>simp at h1
      |cons a x=>simpa using h1.1,h1.2⟩]
     exact h
    ·rw[aO h1]at h
     by_cases h2:c∈ONE
     ·rw[aP h2]at h
      have e:[c]=c::x:=aQ (λy=>y.2.1) (Except.ok.inj h)
      obtain rfl:x=[]:=by simpa using e.symm
      rw[List.nil_append,aO (λhh=>h61 hh.1 rfl),aP h2];exact h
     ·rw[aO h2]at h;cases h
def zJ1{t:T3}(h:okT t):∃c r,t.2.1=c::r/\ym c=bd:=by
 obtain⟨k,x,n⟩:=t;unfold okT at h;dsimp only at h ⊢
 cases x with
 |nil=>cases h
 |cons c x =>
  refine⟨c,x,rfl,?_⟩
  cases hb:ym c with
  |false=>rfl
  |true =>
   exfalso;obtain⟨h1,h2,_,_⟩:=Yc hb;rw[xT,h1,aO af,h2,aO af]at h;have hc:=zea hb
   rw[zhw (λhm=>by
    have:∀d∈ONE,¬(d.toNat=32∨d.toNat=9∨d.toNat=10):=ae
    exact this c hm hc)]at h
   cases h
def mkT(t:T3)(p:Nat):ar:=ar.mk t.1 t.2.1 t.2.2 (p:Int)
def zJ2{t:T3}(h:okT t){r:ak}(hr:BL r)(p:Nat):zGu p (t.2.1++r)=zNm [mkT t p] (zGu (p+t.2.1.length) r):=by
 obtain⟨c,x,e,hb⟩:=zJ1 h;have hk:=zRh h hr;obtain⟨k,y,n⟩:=t;dsimp only at e hk ⊢;subst e;unfold zGu;rw[bU]at hk ⊢;rw[zDs hb,hk];dsimp only
 rw[show(c::(x++r)).drop (c::x).length=r from by rw[<- bU];exact List.drop_left,
  zd9 _ (r.length+1) _ r (by simp only[lc,la];omega) ab]
 cases Ze (r.length+1) (p+(c::x).length) r<;>rfl
def LX(s:ak)(ts:List T3):Prop:=∀p r,BL r->∃l,l.map t3=ts/\zGu p (s++r)=zNm l (zGu (p+s.length) r)
def zNo:LX [] []:=λp r _=>⟨[],rfl,by rw[zvk];rfl⟩
def zDt{t:T3}(h:okT t):LX t.2.1 [t]:=λp r hr=>⟨[mkT t p],rfl,zJ2 h hr p⟩
def zvl{c:UInt8}{s:ak}{ts:List T3}(hc:ym c=bf)(h:LX s ts):LX (c::s) ts:=λp r hr=>by
 obtain⟨l,h1,h2⟩:=h (p+1) r hr;refine⟨l,h1,?_⟩;rw[bU,zhx hc,h2,lc,ee,Nat.add_comm 1]
def zDu{a b:ak}{ts us:List T3}(ha:LX a ts)(hb:LX b us)(h:BL b):LX (a++b) (ts++us):=λp r hr=>by
 obtain⟨l,h1,h2⟩:=ha p (b++r) (zXn h hr);obtain⟨m,h3,h4⟩:=hb (p+a.length) r hr;refine⟨l++m,by rw[bO,h1,h3],?_⟩;rw[asc,h2,h4,zvj,la,ee]
def zNp{s:ak}{ts:List T3}(h:LX s ts):∃l p,l.map t3=ts/\zJz s=.ok (l++[HG p]):=by
 obtain⟨l,h1,h2⟩:=h 0 [] zNn;refine⟨l,0+s.length,h1,?_⟩;rw[bI]at h2;exact h2
-- a token of each kind
def Yd{f:UInt8->Bool}{l:ak}(h:l.all f=bf):l.takeWhile f=l:=by
 have:=fi (l₂:=[]) (bj.1 h);simpa using this
def zvm{w:ak}(h:Qk w=bf):okT (0,w,0):=by
 cases w with
 |nil=>cases h
 |cons c r =>
  have ha:=Zb h;have e:(c::r).takeWhile yV=c::r:=Yd ha;simp only[Qk,bn,aW]at h;unfold okT;dsimp only;rw[xT,aP h.1,e,aP h.2.1]
def zJ3{w:ak}(h:zD w=bf):okT (0,w,0):=by
 unfold zD at h;rw[bn]at h;exact zvm h.1
def zks:∀n:Nat,(Lib.decDigits n).all yK=bf
 |n=>by
  rw[Lib.decDigits]
  have one:∀m<10,yK (ei (48+m))=bf:=ae
  split
  ·rename_i h
   rw[cP,one n h];rfl
  ·rename_i h
   rw[List.all_append,zks (n / 10),cP,one (n % 10) ab];rfl
def zo1:∀(a b:ak)(n:Nat),Zc (a++b) n=Zc b (Zc a n)
 |[],_,_=>rfl
 |c::a,b,n=>by rw[bU,Zc,Zc];exact zo1 a b _
def zvn:∀n:Nat,VU 0 (Lib.decDigits n)=n
 |n=>by
  rw[Lib.decDigits]
  have one:∀m<10,zyr (ei (48+m))=m:=ae
  unfold VU;split
  ·rename_i h
   rw[Zc,Zc,one _ h];omega
  ·rename_i h
   have:=zvn (n / 10);unfold VU at this;rw[zo1,this];rw[Zc,Zc,one _ (gY _ ab)];omega
def zDv(n:Nat):Lib.decDigits n≠[]:=by
 rw[Lib.decDigits];split<;>simp
def zvo:∀n:Nat,(Lib.decDigits n).head?=bc 48->n=0
 |n=>by
  rw[Lib.decDigits]
  have one:∀m<10,ei (48+m)=48->m=0:=ae
  split
  ·rename_i h
   intro e;exact one n h (by simpa using e)
  ·rename_i h
   intro e;have h2:=zDv (n / 10)
   have e2:(Lib.decDigits (n / 10)).head?=bc 48:=by
    cases hx:Lib.decDigits (n / 10)with
    |nil=>exact aU hx h2
    |cons a b=>rw[hx]at e;simpa using e
   have:=zvo (n / 10) e2;omega
def zJ4{n:Nat}(h:n<=1099511627776):zJw (Lib.decDigits n)=bc n:=by
 unfold zJw
 rw[zvn,aP ⟨zks n,zDv n,λe=>by
  have:=zvo n e;subst this
  rw[Lib.decDigits];rfl,h⟩]
def zRi{n:Nat}(h:n<=1099511627776):okT (1,Lib.decDigits n,(n:Int)):=by
 unfold okT;dsimp only;have hn:=zDv n;have ha:=zks n;have hb:=zJ4 h
 cases hx:Lib.decDigits n with
 |nil=>exact aU hx hn
 |cons c r =>
  rw[hx]at ha hb;have e:(c::r).takeWhile yK=c::r:=Yd ha
  have hc:yK c=bf:=by rw[cP,bn]at ha;exact ha.1
  have hl:jC c=bd:=by
   have:=zko hc;unfold jC;rw[df (show ¬97<=c.toNat by omega)];rfl
  rw[xT,hl,aO af,aP hc,e,hb]
abbrev EE:=Int×Int
def TWF:List ar->Prop
 |[]=>False
 |[t]=>t.aM=3
 |t::u::r=>t.aM≠3/\TWF (u::r)
def hdT(r:List ar):ar:=r.headD default
def zS(l r:List ar):Int:=((l.length-r.length:Nat):Int)
structure St(l r:List ar):Prop where
 suf:∃a,l=a++r
 wf:TWF r
 len:l.length<=1000000
 txt:∀t∈l,t.Text.length<=8000
section
variable{l r:List ar}
def TWF.ne(h:TWF r):r≠[]:=by rintro rfl;exact h
def TWF.tail(h:TWF r)(hk:(hdT r).aM≠3):TWF r.tail:=by
 match r,h with
 |[t],h=>exact aU h hk
 |t::u::r,h=>exact h.2
def St.idx(h:St l r):idx l (zS l r)=bc (hdT r):=by
 obtain⟨a,rfl⟩:=h.suf;have:=h.wf.ne
 cases r with
 |nil=>exact aU rfl this
 |cons t r =>
  refine yx ?_;rw[la,Nat.add_sub_cancel,List.getElem?_append_right aq,Nat.sub_self];rfl
def zDw(h:St l r):zS l r+1=zS l r.tail:=by
 obtain⟨a,rfl⟩:=h.suf;have:=h.wf.ne
 cases r with
 |nil=>exact aU rfl this
 |cons t r=>simp only[zS,la,lc,List.tail_cons];omega
def St.bnd(h:St l r):0<=zS l r/\zS l r<1000000:=by
 have:=h.len;have h2:=h.wf.ne;obtain⟨a,rfl⟩:=h.suf
 cases r with
 |nil=>exact aU rfl h2
 |cons t r=>simp only[zS,la,lc]at this ⊢;omega
def St.step(h:St l r):w64 (zS l r+1)=zS l r.tail:=by
 have:=h.bnd;rw[wL ab ab,zDw h]
def St.back(h:St l r):w64 (w64 (zS l r+1)-1)=zS l r:=by
 have:=h.bnd;rw[wL (n:=zS l r+1) ab ab,wL ab ab];omega
def St.tail(h:St l r)(hk:(hdT r).aM≠3):St l r.tail:=by
 refine⟨?_,h.wf.tail hk,h.len,h.txt⟩;obtain⟨a,e⟩:=h.suf;have:=h.wf.ne
 cases r with
 |nil=>exact aU rfl this
 |cons t r=>exact⟨a++[t],by rw[e];simp⟩
def St.mem(h:St l r):hdT r∈l:=by
 obtain⟨a,e⟩:=h.suf;have:=h.wf.ne
 cases r with
 |nil=>exact aU rfl this
 |cons t r=>rw[e];simp[hdT]
def St.text(h:St l r):(hdT r).Text.length<4611686018427387904:=by have:=h.txt _ h.mem;omega
def St.lt(h:St l r):r.length<=l.length/\0<r.length:=by
 obtain⟨a,e⟩:=h.suf;exact⟨by rw[e,la];omega,dp.2 h.wf.ne⟩
def xb(h:TWF r):r.tail.length+1=r.length:=by
 cases r with
 |nil=>exact h.elim
 |cons t r=>rfl
end
-- single tokens
def isB(s:ak)(r:List ar):Bool:=(!(decide ((hdT r).aM=3)))&&decide ((hdT r).Text=s)
def HH(r:List ar):Bool:=decide ((hdT r).aM=1)
def Ye(r:List ar):Bool:=decide ((hdT r).aM=0)&&zD (hdT r).Text
def zfu(r:List ar)(e:Int):EE:=((hdT r).Pos,e)
def thn{α β:Type}(x:Except EE (α×List ar))(g:α->List ar->Except EE β):Except EE β:=match x with
 |.ok (a,r)=>g a r
 |.error e=>.error e
def HI(b:Bool)(e:Int)(r:List ar):Except EE (Unit×List ar):=if b then .ok ((),r)else .error (zfu r e)
def xH(s:ak)(r:List ar):Except EE (Unit×List ar):=if isB s r then .ok ((),r.tail)else .error (zfu r 14)
def kX(r:List ar):Except EE (ak×List ar):=if Ye r then .ok ((hdT r).Text,r.tail)else .error (zfu r 14)
def jQ(lo hi:Int)(r:List ar):Except EE (Int×List ar):=if HH r then(if lo<=(hdT r).N/\(hdT r).N<=hi then .ok ((hdT r).N,r.tail)else .error (zfu r 3))else .error (zfu r 14)
def zo{s:ak}{r:List ar}(h:isB s r=bf):(hdT r).aM≠3:=by
 simp only[isB,bn,Bool.not_eq_true',aX]at h;exact h.1
def zeb{r:List ar}(h:HH r=bf):(hdT r).aM≠3:=by
 have:=aY h;omega
def Qm{r:List ar}(h:Ye r=bf):(hdT r).aM≠3:=by
 simp only[Ye,bn,aW]at h;omega
def RT{α β:Type}(l:List ar)(x:Except EE (α×List ar))(s:Option β)(p:Option EE)(f:α->Int->β):Prop:=match x with
 |.ok (v,r)=>s=bc (f v (zS l r))/\p=bh/\St l r
 |.error e=>s=bh/\p=bc e
def RT.bind{α β α' β':Type}{l:List ar}{x:Except EE (α×List ar)}{s:Option β}{p:Option EE}{f:α->Int->β}{g:α->List ar->Except EE (α'×List ar)}{s2:β->Option β'}{p2:β->Option EE}{f2:α'->Int->β'}
  (h:RT l x s p f) (h2:∀v r,x=.ok (v,r)->St l r->RT l (g v r) (s2 (f v (zS l r))) (p2 (f v (zS l r))) f2):RT l (thn x g) (s.bind s2) (orC p (λq=>bc q) (s.bind p2)) f2:=by
 match x,h,h2 with
 |.error e,⟨h,h'⟩,_=>exact⟨by rw[h];rfl,by rw[h'];rfl⟩
 |.ok (v,r),⟨h,h',hs⟩,h2 =>
  have:=h2 v r rfl hs;rw[h,h'];exact this
section
variable{l r:List ar}
def Yf(h:St l r):vE l (zS l r)=bc ((hdT r).aM,(hdT r).Text,(hdT r).N,(hdT r).Pos):=by
 unfold vE;rw[h.idx];rfl
def q_is(h:St l r)(s:ak):zcw l (zS l r) s=bc (isB s r):=by
 unfold zcw isB;rw[Yf h,bsQ];cases decide ((hdT r).aM=3)<;>rfl
def zkt(h:St l r)(s:ak):xz l (zS l r) s=bc (isB s r,if isB s r then zS l r.tail else zS l r):=by
 unfold xz;rw[q_is h,bsQ,h.step];cases isB s r<;>rfl
def Q6(h:St l r):xK l (zS l r)=bc (HH r):=by
 unfold xK HH;rw[Yf h];rfl
def zvp(h:St l r):oj l (zS l r)=bc (Ye r):=by
 unfold oj Ye;rw[Yf h,bsQ,bsQ];dsimp only;rw[xf h.text];cases decide ((hdT r).aM=0)<;>rfl
def zsh(h:St l r)(b:Bool)(e:Int):RT l (HI b e r) (yA l (zS l r) b e) (we l (zS l r) b e) (λ_ _=>()):=by
 unfold yA we QT HI
 cases b with
 |true=>exact⟨rfl,rfl,h⟩
 |false=>rw[Yf h];exact⟨rfl,rfl⟩
def Vq(h:St l r)(s:ak):RT l (xH s r) (jN l (zS l r) s) (AF l (zS l r) s) (λ_ i=>i):=by
 unfold jN AF xH;rw[zkt h,bsQ,bsQ];dsimp only
 cases hb:isB s r with
 |true=>exact⟨rfl,rfl,h.tail (zo hb)⟩
 |false =>
  rw[aO af,aO af];unfold yA we QT;rw[Yf h];exact⟨rfl,rfl⟩
def HJ(h:St l r):RT l (kX r) (xq l (zS l r)) (jO l (zS l r)) (λv i=>(v,i)):=by
 unfold xq jO kX;rw[zvp h,bsQ,bsQ,h.back,h.step,h.idx]
 cases hb:Ye r with
 |true=>exact⟨rfl,rfl,h.tail (Qm hb)⟩
 |false =>
  unfold yA we QT;rw[Yf h];exact⟨rfl,rfl⟩
def zbh(h:St l r)(lo hi:Int):RT l (jQ lo hi r) (j9 l (zS l r) lo hi) (oo l (zS l r) lo hi) (λv i=>(v,i)):=by
 unfold j9 oo jQ;rw[Q6 h,bsQ,bsQ,h.step,Yf h];unfold yA we QT;rw[Yf h]
 cases hb:HH r with
 |false=>exact⟨rfl,rfl⟩
 |true =>
  rw[aP rfl];by_cases h1:lo<=(hdT r).N
  ·by_cases h2:(hdT r).N<=hi
   ·rw[aP ⟨h1,h2⟩]
    have e1:decide ((hdT r).N>=lo)=bf:=dt h1;have e2:decide ((hdT r).N<=hi)=bf:=dt h2;simp only[bsQ,e1,e2];exact⟨rfl,rfl,h.tail (zeb hb)⟩
   ·rw[aO (λhh=>h2 hh.2)]
    have e1:decide ((hdT r).N>=lo)=bf:=dt h1;have e2:decide ((hdT r).N<=hi)=bd:=df h2;simp only[bsQ,e1,e2];exact⟨rfl,rfl⟩
  ·rw[aO (λhh=>h1 hh.1)]
   have e1:decide ((hdT r).N>=lo)=bd:=df h1;simp only[bsQ,e1];exact⟨rfl,rfl⟩
end
-- what a list of tokens and the end are
def zNq:∀{b:List ar}{e:ar},e.aM=3->(∀t∈b,t.aM≠3)->TWF (b++[e])
 |[],e,h,_=>h
 |[t],e,h,h2=>⟨h2 t al,h⟩
 |t::u::b,e,h,h2=>⟨h2 t al,zNq (b:=u::b) h λx hx=>h2 x (mcQ _ hx)⟩
def zvq:∀(n p:Nat)(s:ak)(l:List ar),s.length<n->Ze n p s=.ok l->l.length<=s.length+1:=by
 intro n
 induction n with
 |zero=>intro p s l hn;omega
 |succ n ih =>
  intro p s l hn h;rw[Ze]at h;have hsp:=A3 ym s;have hds:=Ya ym s;split at h
  ·cases h;simp
  ·rename_i c r hd
   rw[hd]at hds;have hl:=aQ bg hds;simp only[cz]at hl;split at h
   ·cases h
   ·rename_i k t v ht
    obtain⟨t1,t2,t3⟩:=zd8 ht;have t4:0<t.length:=dp.2 t1;split at h
    ·cases h
    ·rename_i l' hl'
     cases h;have:=ih _ _ _ (by rw[cz];omega) hl';rw[cz]at this;simp only[lc]at this hl t3 ⊢;omega
def zec{s:ak}{l:List ar}(hs:s.length<=8000)(h:zJz s=.ok l):St l l/\zS l l=0:=by
 obtain⟨b,rfl,hb⟩:=zJ0 _ _ _ _ (ck _) h;have hl:=zvq _ _ _ _ (ck _) h;refine⟨⟨⟨[],rfl⟩,zNq rfl λt ht=>(hb t ht).1,ab,λt ht=>?_⟩,by simp[zS]⟩
 rcases bz.1 ht with ht|ht
 ·have:=(hb t ht).2;omega
 ·cases msQ.1 ht;simp[HG]
end Go.Proofs.YtffencjoddkghaaGreatDoor
set_option maxRecDepth 100000
namespace Go.Proofs.YtffencjoddkghaaGreatDoor
open Go Go.RowKit Go.Eng Go.EV Go.EQ
variable[Fuel]
def OPS:List zd:=[(zd.mk zVx 14 1),(zd.mk zCv 13 2),(zd.mk qG 10 4),(zd.mk zfq 11 4),(zd.mk qF 12 4),(zd.mk zfo 4 5),(zd.mk yU 5 5),(zd.mk zfn 6 6),(zd.mk zfp 7 6),(zd.mk zfm 8 6)]
def opR(r:List ar):Option zd:=if(hdT r).aM=3 then bh else OPS.find? λo=>decide ((hdT r).Text=o.text)
def ze7(lv:Nat)(r:List ar):Option Int:=match opR r with
 |some o=>if o.form=(lv:Int)then bc o.op else bh
 |none=>bh
def Vr(op:Int)(a b:Expr):Expr:=Expr.mk op 0 [] [] [a,b]
def oof{α:Type}:Except EE α:=.error (0,-1)
mutual
def DE(lv:Nat)(r:List ar):Except EE (Expr×List ar) :=
 if lv>=8 then
  if HH r then thn (jQ 0 1099511627776 r) λn r=>.ok (Expr.mk 0 n [] [] [],r)
  else if isB yy r then thn (kX r.tail) λs r=>thn (kX r) λk r=>.ok (Expr.mk 2 0 s k [],r)
  else if isB xm r then thn (kX r.tail) λs r=>.ok (Expr.mk 3 0 s [] [],r)
  else if isB Au r then(if h:r.tail.length<r.length then thn (DE 0 r.tail) λe r=>thn (xH qg r) λ_ r=>.ok (e,r)else oof)
  else thn (kX r) λs r=>.ok (Expr.mk 1 0 s [] [],r)
 else if lv=0/\isB WS r=bf then
  if h:r.tail.length<r.length then thn (DE 0 r.tail) λa r1=>thn (xH uA r1) λ_ r2 =>
   if h2:r2.length<r.length then thn (DE 0 r2) λb r3=>thn (xH xe r3) λ_ r4 =>
    if h4:r4.length<r.length then thn (DE 0 r4) λc r5=>.ok (Expr.mk 16 0 [] [] [a,b,c],r5)else oof
   else oof
  else oof
 else if lv=3/\isB qS r=bf then
  if h:r.tail.length<r.length then thn (DE 3 r.tail) λa r1=>.ok (Expr.mk 15 0 [] [] [a],r1)else oof
 else if lv=7/\isB yU r=bf then
  if h:r.tail.length<r.length then thn (DE 7 r.tail) λa r1=>.ok (Expr.mk 9 0 [] [] [a],r1)else oof
 else thn (DE (lv+1) r) λe r1=>if h:r1.length<r.length then LP lv e r1 else oof
termination_by (r.length,9-lv)
def LP(lv:Nat)(e:Expr)(r:List ar):Except EE (Expr×List ar):=match ze7 lv r with
 |none=>.ok (e,r)
 |some op=>if h:r.tail.length<r.length then thn (DE (lv+1) r.tail) λe2 r2 =>
   if h2:r2.length<r.length then(if lv=4 then .ok (Vr op e e2,r2)else LP lv (Vr op e e2) r2)else oof
  else oof
termination_by (r.length,9-lv)
end
structure Aft(r r2:List ar):Prop where
 suf:∃a,r=a++r2
 wf:TWF r2
 lt:r2.length<r.length
structure ze8(r r2:List ar):Prop where
 suf:∃a,r=a++r2
 wf:TWF r2
 le:r2.length<=r.length
def Aft.e{r r2:List ar}(h:Aft r r2):ze8 r r2:=⟨h.suf,h.wf,im h.lt⟩
def ze8.refl{r:List ar}(h:TWF r):ze8 r r:=⟨⟨[],rfl⟩,h,aq⟩
def zed{r r2 r3:List ar}(h:∃a,r=a++r2)(k:∃a,r2=a++r3):∃a,r=a++r3:=by
 obtain⟨a,rfl⟩:=h;obtain⟨b,rfl⟩:=k;exact⟨a++b,af⟩
def Aft.trans{r r2 r3:List ar}(h:Aft r r2)(k:ze8 r2 r3):Aft r r3:=⟨zed h.suf k.suf,k.wf,eM k.le h.lt⟩
def ze8.trans{r r2 r3:List ar}(h:ze8 r r2)(k:ze8 r2 r3):ze8 r r3:=⟨zed h.suf k.suf,k.wf,cW k.le h.le⟩
def zB{r:List ar}(h:TWF r)(hk:(hdT r).aM≠3):Aft r r.tail:=by
 refine⟨?_,h.tail hk,by have:=xb h;omega⟩
 cases r with
 |nil=>exact h.elim
 |cons t r=>exact⟨[t],rfl⟩
def Zf{r:List ar}(h:TWF r):r.tail.length<r.length:=by have:=xb h;omega
def St.aft{l r r2:List ar}(h:St l r)(k:ze8 r r2):St l r2:=⟨zed h.suf k.suf,k.wf,h.len,h.txt⟩
def wM{r r2:List ar}{s:ak}(h:TWF r)(e:kX r=.ok (s,r2)):Aft r r2:=by
 unfold kX at e;split at e
 ·rename_i hk;cases e;exact zB h (Qm hk)
 ·cases e
def kS{r r2:List ar}{lo hi n:Int}(h:TWF r)(e:jQ lo hi r=.ok (n,r2)):Aft r r2:=by
 unfold jQ at e;split at e
 ·rename_i hk
  split at e
  ·cases e;exact zB h (zeb hk)
  ·cases e
 ·cases e
def yr{r r2:List ar}{s:ak}{u:Unit}(h:TWF r)(e:xH s r=.ok (u,r2)):Aft r r2:=by
 unfold xH at e;split at e
 ·rename_i hk;cases e;exact zB h (zo hk)
 ·cases e
def zG{α β:Type}{x:Except EE (α×List ar)}{g:α->List ar->Except EE β}{b:β}(h:thn x g=.ok b):∃a r,x=.ok (a,r)/\g a r=.ok b:=by
 match x,h with
 |.ok (a,r),h=>exact⟨a,r,rfl,h⟩
def xU{α β:Type}{x:Except EE (α×List ar)}{g g':α->List ar->Except EE β}(h:∀a r,x=.ok (a,r)->g a r=g' a r):thn x g=thn x g':=by
 match x,h with
 |.ok (a,r),h=>exact h a r rfl
 |.error e,_=>rfl
def zN{α β γ:Type}{x:Except EE (α×List ar)}{g:α->List ar->Except EE (β×List ar)}{k:β->List ar->Except EE γ}:thn (thn x g) k=thn x λa r=>thn (g a r) k:=by
 match x with
 |.ok (a,r)=>rfl
 |.error e=>rfl
def Yg{α:Type}{x:Except EE (α×List ar)}:(thn x λa r=>.ok (a,r))=x:=by
 match x with
 |.ok (a,r)=>rfl
 |.error e=>rfl
def vI{r:List ar}{o:zd}(h:opR r=bc o):(hdT r).aM≠3/\o∈OPS/\(hdT r).Text=o.text:=by
 unfold opR at h;split at h
 ·cases h
 ·rename_i hk
  exact⟨hk,List.mem_of_find?_eq_some h,by simpa using List.find?_some h⟩
def uf{r:List ar}{lv:Nat}{op:Int}(h:ze7 lv r=bc op):∃o,opR r=bc o/\o.form=(lv:Int)/\o.op=op:=by
 unfold ze7 at h;split at h
 ·rename_i o ho
  split at h
  ·rename_i hf;cases h;exact⟨o,ho,hf,rfl⟩
  ·cases h
 ·cases h
def zDx:∀(n:Nat),(∀(lv:Nat)(r:List ar),r.length<n->TWF r->∀e r2,DE lv r=.ok (e,r2)->Aft r r2)/\(∀(lv:Nat)(e:Expr)(r:List ar),r.length<n->TWF r->∀e2 r2,LP lv e r=.ok (e2,r2)->ze8 r r2):=by
 intro n
 induction n with
 |zero=>exact⟨λ_ _ h=>ab,λ_ _ _ h=>ab⟩
 |succ n ih =>
  have hLP:∀(lv:Nat)(e:Expr)(r:List ar),r.length<n+1->TWF r->∀e2 r2,LP lv e r=.ok (e2,r2)->ze8 r r2:=by
   intro lv e r hn hr e2 r2 h;rw[LP]at h;split at h
   ·cases h;exact ze8.refl hr
   ·rename_i op hop
    obtain⟨o,ho,_⟩:=uf hop;have ht:=zB hr (vI ho).1;rw[dif_pos ht.lt]at h;obtain⟨a,r1,h1,h2⟩:=zG h;have:=ht.lt;have ha:=ih.1 _ _ ab ht.wf _ _ h1;split at h2
    ·split at h2
     ·cases h2;exact(ht.trans ha.e).e
     ·exact(ht.trans ha.e).e.trans (ih.2 _ _ _ (by have:=ha.lt;omega) ha.wf _ _ h2)
    ·cases h2
  refine⟨λlv=>?_,hLP⟩
  -- by level, downwards
  have key:∀(k lv:Nat),8-lv=k->∀(r:List ar),r.length<n+1->TWF r->∀e r2,DE lv r=.ok (e,r2)->Aft r r2:=by
   intro k
   induction k with
   |zero =>
    intro lv hk r hn hr e r2 h;rw[DE,aP ab]at h;split at h
    ·obtain⟨a,r1,h1,h2⟩:=zG h
     cases h2;exact kS hr h1
    ·split at h
     ·rename_i hb
      have ht:=zB hr (zo hb);obtain⟨a,r1,h1,h2⟩:=zG h;obtain⟨b,r3,h3,h4⟩:=zG h2;cases h4;have q1:=wM ht.wf h1;exact ht.trans (q1.trans (wM q1.wf h3).e).e
     ·split at h
      ·rename_i hb
       have ht:=zB hr (zo hb);obtain⟨a,r1,h1,h2⟩:=zG h;cases h2;exact ht.trans (wM ht.wf h1).e
      ·split at h
       ·rename_i hb
        have ht:=zB hr (zo hb);rw[dif_pos ht.lt]at h;obtain⟨a,r1,h1,h2⟩:=zG h;obtain⟨b,r3,h3,h4⟩:=zG h2;cases h4;have q1:=ih.1 _ _ (by have:=ht.lt;omega) ht.wf _ _ h1;exact ht.trans (q1.trans (yr q1.wf h3).e).e
       ·obtain⟨a,r1,h1,h2⟩:=zG h
        cases h2;exact wM hr h1
   |succ k ihk =>
    intro lv hk r hn hr e r2 h;rw[DE,aO ab]at h;split at h
    ·rename_i hb
     have ht:=zB hr (zo hb.2);rw[dif_pos ht.lt]at h;obtain⟨a,r1,h1,h⟩:=zG h;obtain⟨_,r3,h3,h⟩:=zG h;have q1:=ht.trans (ih.1 _ _ (by have:=ht.lt;omega) ht.wf _ _ h1).e;have q2:=q1.trans (yr q1.wf h3).e;rw[dif_pos q2.lt]at h;obtain⟨b,r4,h4,h⟩:=zG h;obtain⟨_,r5,h5,h⟩:=zG h;have q3:=q2.trans (ih.1 _ _ (by have:=q2.lt;omega) q2.wf _ _ h4).e;have q4:=q3.trans (yr q3.wf h5).e;rw[dif_pos q4.lt]at h;obtain⟨c,r6,h6,h⟩:=zG h;cases h;exact q4.trans (ih.1 _ _ (by have:=q4.lt;omega) q4.wf _ _ h6).e
    ·split at h
     ·rename_i hb
      have ht:=zB hr (zo hb.2);rw[dif_pos ht.lt]at h;obtain⟨a,r1,h1,h⟩:=zG h;cases h;exact ht.trans (ih.1 _ _ (by have:=ht.lt;omega) ht.wf _ _ h1).e
     ·split at h
      ·rename_i hb
       have ht:=zB hr (zo hb.2);rw[dif_pos ht.lt]at h;obtain⟨a,r1,h1,h⟩:=zG h;cases h;exact ht.trans (ih.1 _ _ (by have:=ht.lt;omega) ht.wf _ _ h1).e
      ·obtain⟨a,r1,h1,h⟩:=zG h
       have q1:=ihk (lv+1) ab r hn hr _ _ h1;rw[dif_pos q1.lt]at h;exact q1.trans (hLP _ _ _ (by have:=q1.lt;omega) q1.wf _ _ h)
  exact key _ lv rfl
def yW{lv:Nat}{r r2:List ar}{e:Expr}(hr:TWF r)(h:DE lv r=.ok (e,r2)):Aft r r2:=(zDx (r.length+1)).1 lv r (ck _) hr e r2 h
def VV(r:List ar):Except EE (Expr×List ar) :=
 if HH r then thn (jQ 0 1099511627776 r) λn r=>.ok (Expr.mk 0 n [] [] [],r)
 else if isB yy r then thn (kX r.tail) λs r=>thn (kX r) λk r=>.ok (Expr.mk 2 0 s k [],r)
 else if isB xm r then thn (kX r.tail) λs r=>.ok (Expr.mk 3 0 s [] [],r)
 else if isB Au r then thn (DE 0 r.tail) λe r=>thn (xH qg r) λ_ r=>.ok (e,r)
 else thn (kX r) λs r=>.ok (Expr.mk 1 0 s [] [],r)
def ifS(r:List ar):Except EE (Expr×List ar):=thn (DE 0 r.tail) λa r1=>thn (xH uA r1) λ_ r2=>thn (DE 0 r2) λb r3=>thn (xH xe r3) λ_ r4=>thn (DE 0 r4) λc r5=>.ok (Expr.mk 16 0 [] [] [a,b,c],r5)
def zyt{r:List ar}(hr:TWF r):DE 8 r=VV r:=by
 rw[DE,aP (dk 8),VV];simp only[dif_pos (Zf hr)]
def Zg{lv:Nat}{r:List ar}(hl:lv<8)(hr:TWF r):DE lv r=if lv=0/\isB WS r=bf then ifS r else if lv=3/\isB qS r=bf then thn (DE 3 r.tail) λa r1=>.ok (Expr.mk 15 0 [] [] [a],r1)
  else if lv=7/\isB yU r=bf then thn (DE 7 r.tail) λa r1=>.ok (Expr.mk 9 0 [] [] [a],r1)else thn (DE (lv+1) r) λe r1=>LP lv e r1:=by
 rw[DE,aO ab];simp only[dif_pos (Zf hr)];by_cases hi:lv=0/\isB WS r=bf
 ·rw[aP hi,aP hi,ifS]
  have ht:=zB hr (zo hi.2)
  refine xU λa r1 h1=>xU λu r2 h2=>?_
  have q1:=ht.trans (yW ht.wf h1).e;have q2:=q1.trans (yr q1.wf h2).e;rw[dif_pos q2.lt]
  refine xU λb r3 h3=>xU λu r4 h4=>?_
  have q3:=q2.trans (yW q2.wf h3).e;have q4:=q3.trans (yr q3.wf h4).e;rw[dif_pos q4.lt]
 ·rw[aO hi,aO hi]
  split
  ·rfl
  ·split
   ·rfl
   ·refine xU λe r1 h1=>?_
    rw[dif_pos (yW hr h1).lt]
def zo2{lv:Nat}{e:Expr}{r:List ar}(hr:TWF r):LP lv e r=match ze7 lv r with
 |none=>.ok (e,r)
 |some op=>thn (DE (lv+1) r.tail) λe2 r2=>if lv=4 then .ok (Vr op e e2,r2)else LP lv (Vr op e e2) r2:=by
 rw[LP];split
 ·rfl
 ·rename_i op hop
  obtain⟨o,ho,_⟩:=uf hop;have ht:=zB hr (vI ho).1;rw[dif_pos ht.lt]
  refine xU λe2 r2 h2=>?_
  rw[dif_pos (ht.trans (yW ht.wf h2).e).lt]
noncomputable def pd(p:Prop):Bool:=@decide p (Classical.propDecidable p)
def vU{p:Prop}:pd p=bf↔p:=by unfold pd;exact @decide_eq_true_iff p (Classical.propDecidable p)
def zae{p:Prop}[Decidable p]:decide p=pd p:=yI Iff.rfl
def Ae{b:Bool}{p:Prop}(h:b=bf↔p):b=pd p:=by
 cases b with
 |true=>exact(vU.2 (h.1 rfl)).symm
 |false =>
  cases hp:pd p with
  |false=>rfl
  |true=>exact aU (h.2 (vU.1 hp)) ae
def JF{p q:Prop}(h:p↔q):pd p=pd q:=Ae (vU.trans h)
def zo3{α β:Type}[Inhabited α][Inhabited β](a:List α)(b:List β)(G:α->β->Option Bool)(g:α->β->Bool)(L:Nat->Int->Option (Bool⊕Unit))
  (hL:∀K q,L (K+1) q=(bif (decide (q<((bg a:Nat):Int)))then(idx a q).bind λx=>aN (idx b q) λy=>aN (G x y) λr=>(bif (!r)then bc (bo bd)else L K (w64 (q+1)))else bc (br ())))
  (hs:a.length<4611686018427387904) (hl:b.length=a.length):
  ∀(r:List α)(t:List β)(i K:Nat),a.drop i=r->b.drop i=t->i<=a.length->r.length<K->(∀x∈r,∀y∈t,G x y=bc (g x y))->L K (i:Int)=bc (bif (r.zip t).all (λp=>g p.1 p.2)then br ()else bo bd)
 |[],t,i,K,hr,ht,hi,hK,_=>by
  obtain⟨K,rfl⟩:∃k,K=k+1:=⟨K-1,by simp at hK;omega⟩
  have:=drop_nil hr hi;rw[hL,df ab];simp
 |x::r,[],i,K,hr,ht,hi,hK,_=>by
  have h1:=drop_nil ht ab;obtain⟨_,_,h3⟩:=xW hr;omega
 |x::r,y::t,i,K,hr,ht,hi,hK,hG=>by
  obtain⟨K,rfl⟩:∃k,K=k+1:=⟨K-1,by simp at hK;omega⟩
  obtain⟨h1,h2,h3⟩:=xW hr;obtain⟨k1,k2,k3⟩:=xW ht;simp only[lc]at hK;rw[hL,dt ab,ctQ,yx h1,bsQ,yx k1,bsQ,hG x al y al,bsQ];simp only[gS,cP]
  cases hg:g x y with
  |false=>rfl
  |true =>
   simp only[bW,cf,cA];rw[xE ab]
   exact zo3 a b G g L hL hs hl r t (i+1) K h2 k2 ab ab λx hx y hy=>hG x (mcQ _ hx) y (mcQ _ hy)
def zDy{α:Type}{g:α->α->Bool}:∀{a b:List α},a.length=b.length->(∀x∈a,∀y∈b,(g x y=bf↔x=y))->((a.zip b).all (λp=>g p.1 p.2)=bf↔a=b)
 |[],[],_,_=>af
 |[],_::_,h,_=>by simp at h
 |_::_,[],h,_=>by simp at h
 |x::a,y::b,h,hg=>by
  simp only[lc,Nat.add_right_cancel_iff]at h;simp only[gS,cP,bn,List.cons.injEq];rw[hg x al y al,zDy h λx hx y hy=>hg x (mcQ _ hx) y (mcQ _ hy)]
def vV{α:Type}[Inhabited α](a b:List α)(G:α->α->Option Bool)(L:Nat->Int->Option (Bool⊕Unit))
  (hL:∀K q,L (K+1) q=(bif (decide (q<((bg a:Nat):Int)))then(idx a q).bind λx=>aN (idx b q) λy=>aN (G x y) λr=>(bif (!r)then bc (bo bd)else L K (w64 (q+1)))else bc (br ())))
  (hs:a.length<4611686018427387904) (hG:∀x∈a,∀y∈b,G x y=bc (pd (x=y))):
  (bif (!(decide (((bg a:Nat):Int)=((bg b:Nat):Int))))then bc bd else(L KK 0).bind (wq bc λ_=>bc bf))=bc (pd (a=b)):=by
 by_cases hl:a.length=b.length
 ·rw[dt ab]
  simp only[bW,cf];have:=zo3 a b G (λx y=>pd (x=y)) L hL hs hl.symm a b 0 KK rfl rfl (cj _) (j5 ab) hG;rw[show((0:Int))=((0:Nat):Int) from rfl,this]
  have hz:=zDy (g:=λx y=>pd (x=y)) hl λx _ y _=>vU
  have e:=Ae hz;rw[<- e];cases (a.zip b).all (λp=>pd (p.1=p.2))<;>rfl
 ·rw[df ab]
  simp only[cC,ctQ];exact aQ bc (Ae ⟨λh=>(by cases h),λh=>aU (aQ bg h) hl⟩)
-- levels
mutual
def Vs:Expr->Nat
 |⟨_,_,_,_,az⟩=>zfv az+1
def zfv:List Expr->Nat
 |[]=>0
 |e::r=>max (Vs e) (zfv r)
end
mutual
def kY:Expr->Nat
 |⟨_,_,_,_,az⟩=>J1 az+1
def J1:List Expr->Nat
 |[]=>0
 |e::r=>kY e+J1 r
end
def VW:∀e:Expr,0<kY e
 |⟨_,_,_,_,az⟩=>by rw[kY];omega
def Yh:∀l:List Expr,l.length<=J1 l
 |[]=>dk _
 |e::r=>by rw[J1,lc];have:=Yh r;have:=VW e;omega
def zo4:∀(l:List Expr)(i:Nat),J1 (l.drop i)<=J1 l
 |l,0=>dk _
 |[],i+1=>dk _
 |e::r,i+1=>by rw[fo,J1];have:=zo4 r i;omega
mutual
def zDz:∀e:Expr,Vs e<=kY e
 |⟨_,_,_,_,az⟩=>by rw[Vs,kY];have:=zku az;omega
def zku:∀l:List Expr,zfv l<=J1 l
 |[]=>dk _
 |e::r=>by rw[zfv,J1];have:=zDz e;have:=zku r;omega
end
def zD0:∀(n:Nat)(e:Expr)(K:Nat),kY e<=n->n<=K->n<=1000000000->jd K e=bc ((Vs e:Nat):Int):=by
 intro n
 induction n with
 |zero=>intro e K h;have:=VW e;omega
 |succ n ih =>
  intro e K h hK hn
  obtain⟨K,rfl⟩:∃k,K=k+1:=⟨K-1,ab⟩
  obtain⟨op,nn,ss,kk,az⟩:=e;rw[kY]at h
  have loop:∀(l:List Expr)(i Q m:Nat),az.drop i=l->i<=az.length->l.length<Q->m<=1000000000->qj (jd K) az (az.length:Int) Q ((m:Int),(i:Int))=bc ((max m (zfv l):Nat):Int):=by
   intro l
   induction l with
   |nil =>
    intro i Q m hd hi hQ hm
    obtain⟨Q,rfl⟩:∃k,Q=k+1:=⟨Q-1,ab⟩
    have:=drop_nil hd hi;rw[qj,df (show ¬((i:Int)<(az.length:Int)) by omega)];simp[zfv]
   |cons a l ihl =>
    intro i Q m hd hi hQ hm
    obtain⟨Q,rfl⟩:∃k,Q=k+1:=⟨Q-1,ab⟩
    obtain⟨h1,h2,h3⟩:=xW hd;simp only[lc]at hQ
    have hna:kY a+J1 l<=n:=by
     have:=zo4 az i;rw[hd,J1]at this;omega
    have hlen:=Yh az;have hla:=zDz a;rw[qj,dt (show((i:Int)<(az.length:Int)) by omega),ctQ,yx h1,bsQ,show Expr.mk a.Op a.N a.S a.Key a.Args=a by cases a;rfl,ih a K ab ab ab,bsQ,xE ab]
    have e:max (m:Int) ((Vs a:Nat):Int)=((max m (Vs a):Nat):Int):=ab
    simp only;rw[e,ihl (i+1) Q (max m (Vs a)) h2 ab ab ab,zfv,Nat.max_assoc]
  have hlen:=Yh az;have hlv:=zku az;rw[jd,Vs];have:=loop az 0 KK 0 rfl ab (j5 ab) ab;rw[show(((0:Nat):Int))=(0:Int) from rfl]at this;simp only;rw[this,bsQ,Nat.zero_max,wL ab ab];rfl
-- expressions
def zkv:∀{l:List Expr}{e:Expr},e∈l->kY e<=J1 l
 |x::r,e,h=>by
  rw[J1]
  rcases bp.1 h with rfl|h
  ·omega
  ·have:=zkv h;omega
def zD1:∀(n:Nat)(a b:Expr)(K:Nat),kY a<=n->2*n<=K->n<=1000000000->jg K a b=bc (pd (a=b)):=by
 intro n
 induction n with
 |zero=>intro a b K h;have:=VW a;omega
 |succ n ih =>
  intro a b K h hK hn
  obtain⟨K,rfl⟩:∃k,K=k+2:=⟨K-2,ab⟩
  obtain⟨o1,n1,s1,k1,z1⟩:=a;obtain⟨o2,n2,s2,k2,z2⟩:=b;rw[kY]at h;have hz:=Yh z1
  have hl:vH (K+1) z1 z2=bc (pd (z1=z2)):=by
   rw[vH]
   refine vV z1 z2 (λx y=>jg K (Expr.mk x.Op x.N x.S x.Key x.Args) (Expr.mk y.Op y.N y.S y.Key y.Args)) _ (λK q=>rfl) ab λx hx y hy=>?_
   have h1:=zkv hx;have:=ih x y K ab ab ab;cases x;cases y;exact this
  rw[jg];simp only[hl,bsQ];simp only[zae]
  have e:pd ((⟨o1,n1,s1,k1,z1⟩:Expr)=⟨o2,n2,s2,k2,z2⟩)=(pd (o1=o2)&&(pd (n1=n2)&&(pd (s1=s2)&&(pd (k1=k2)&&pd (z1=z2))))):=by
   refine(Ae ?_).symm;simp only[bn,vU,Expr.mk.injEq]
  rw[e];cases pd (o1=o2)<;>cases pd (n1=n2)<;>cases pd (s1=s2)<;>cases pd (k1=k2)<;>rfl
def Af(e:Expr):Prop:=kY e<=1000000000
def zhy{a b:Expr}(h:Af a):jg KK a b=bc (pd (a=b)):=zD1 1000000000 a b KK h (im (j5 ab)) ab
def xv(e:Expr):Expr.mk e.Op e.N e.S e.Key e.Args=e:=by cases e;rfl
def Ag{p q:Prop}:pd (p/\q)=(pd p&&pd q):=(Ae (by simp only[bn,vU])).symm
def zD2{a b:List Def}(hs:a.length<4611686018427387904)(hE:∀d∈a,Af d.Body):wz a b=bc (pd (a=b)):=by
 unfold wz
 refine vV a b (λx y=>za4 (Def.mk x.aL (Expr.mk x.Body.Op x.Body.N x.Body.S x.Body.Key x.Body.Args)) (Def.mk y.aL (Expr.mk y.Body.Op y.Body.N y.Body.S y.Body.Key y.Body.Args))) _ (λK q=>rfl) hs λx hx y hy=>?_
 have h:=hE x hx;simp only[xv];obtain⟨n1,e1⟩:=x;obtain⟨n2,e2⟩:=y;unfold za4;simp only[xv,zhy h,bsQ,zae,Def.mk.injEq,Ag];cases pd (n1=n2)<;>rfl
def zhz{a b:List ak}(hs:a.length<4611686018427387904):jG a b=bc (pd (a=b)):=by
 unfold jG
 refine vV a b (λx y=>bc (decide (x=y))) _ (λK q=>rfl) hs λx _ y _=>?_
 rw[zae]
def zo5{a b:List aw}(hs:a.length<4611686018427387904):jP a b=bc (pd (a=b)):=by
 unfold jP
 refine vV a b (λx y=>bc (decide (x.aL=y.aL)&&(decide (x.N=y.N)))) _ (λK q=>rfl) hs λx _ y _=>?_
 obtain⟨n1,m1⟩:=x;obtain⟨n2,m2⟩:=y;simp only[zae,aw.mk.injEq,Ag]
def zee{a b:List zU}(hs:a.length<4611686018427387904):vt a b=bc (pd (a=b)):=by
 unfold vt
 refine vV a b (λx y=>bc (decide (x.X=y.X)&&(decide (x.Y=y.Y)))) _ (λK q=>rfl) hs λx _ y _=>?_
 obtain⟨n1,m1⟩:=x;obtain⟨n2,m2⟩:=y;simp only[zae,zU.mk.injEq,Ag]
def ZX{a b:List zg}(hs:a.length<4611686018427387904):vu a b=bc (pd (a=b)):=by
 unfold vu
 refine vV a b (λx y=>bc (decide (x.X=y.X)&&(decide (x.Y=y.Y)&&(decide (x.Z_=y.Z_))))) _ (λK q=>rfl) hs λx _ y _=>?_
 obtain⟨n1,m1,k1⟩:=x;obtain⟨n2,m2,k2⟩:=y;simp only[zae,zg.mk.injEq,Ag]
def zsi{a b:List au}(hs:a.length<4611686018427387904)(hE:∀d∈a,d.Rows.length<4611686018427387904):wA a b=bc (pd (a=b)):=by
 unfold wA
 refine vV a b za5 _ (λK q=>rfl) hs λx hx y hy=>?_
 have h:=hE x hx;obtain⟨n1,r1,e1⟩:=x;obtain⟨n2,r2,e2⟩:=y;unfold za5;simp only[zo5 h,bsQ,zae,au.mk.injEq,Ag];cases pd (n1=n2)<;>cases pd (e1=e2)<;>cases pd (r1=r2)<;>rfl
def zNr{a b:Bool}:(a==b)=pd (a=b):=Ae beq_iff_eq
def zyu{a b:List yD}(hs:a.length<4611686018427387904)(hE:∀d∈a,d.aA.length<4611686018427387904):wC a b=bc (pd (a=b)):=by
 unfold wC
 refine vV a b za6 _ (λK q=>rfl) hs λx hx y hy=>?_
 have h:=hE x hx;obtain⟨n1,r1,e1⟩:=x;obtain⟨n2,r2,e2⟩:=y;unfold za6;simp only[zee h,bsQ,zae,zNr,yD.mk.injEq,Ag];cases pd (n1=n2)<;>cases pd (r1=r2)<;>rfl
def zD3{a b:List Cap}(hs:a.length<4611686018427387904)(hE:∀d∈a,d.aA.length<4611686018427387904):wD a b=bc (pd (a=b)):=by
 unfold wD
 refine vV a b za7 _ (λK q=>rfl) hs λx hx y hy=>?_
 have h:=hE x hx;obtain⟨n1,r1,l1,e1⟩:=x;obtain⟨n2,r2,l2,e2⟩:=y;unfold za7;simp only[zee h,bsQ,zae,Cap.mk.injEq,Ag];cases pd (n1=n2)<;>cases pd (r1=r2)<;>cases pd (l1=l2)<;>rfl
def zyv{a b:List av}(hs:a.length<4611686018427387904)(hE:∀d∈a,d.Targets.length<4611686018427387904):wE a b=bc (pd (a=b)):=by
 unfold wE
 refine vV a b za8 _ (λK q=>rfl) hs λx hx y hy=>?_
 have h:=hE x hx;obtain⟨n1,⟨x1,y1,z1⟩,l1,e1⟩:=x;obtain⟨n2,⟨x2,y2,z2⟩,l2,e2⟩:=y;unfold za8;simp only[ZX h,bsQ,zae,av.mk.injEq,zg.mk.injEq,Ag];cases pd (n1=n2)<;>cases pd (x1=x2)<;>cases pd (y1=y2)<;>cases pd (z1=z2)<;>cases pd (l1=l2)<;>rfl
def zo6{a b:zX}(h1:a.aB.length<4611686018427387904)(h2:a.Except.length<4611686018427387904)(h3:Af a.Test):qp a b=bc (pd (a=b)):=by
 obtain⟨a1,a2,a3,a4,a5,a6,a7,a8,a9,⟨p1,p2,p3,p4⟩,a10,a11,a12⟩:=a;obtain⟨b1,b2,b3,b4,b5,b6,b7,b8,b9,⟨q1,q2,q3,q4⟩,b10,b11,b12⟩:=b;unfold qp;simp only[zhz h1,zhz h2,xv,zhy h3,bsQ,zae,zNr,zX.mk.injEq,zx.mk.injEq,Ag]
 cases pd (a2=b2)<;>cases pd (a3=b3)<;>cases pd (a9=b9)<;>simp only[bW,cC,ctQ,cf,bsQ,eP,eB,cA] <;>
 cases pd (a1=b1)<;>cases pd (a4=b4)<;>cases pd (a5=b5)<;>cases pd (a6=b6)<;>simp only[bsQ,ctQ,cf,eP,eB,cA] <;>
 cases pd (a7=b7)<;>cases pd (a8=b8)<;>simp only[bsQ,ctQ,cf,eP,eB,cA] <;>
 cases (pd (p1=q1)&&(pd (p2=q2)&&(pd (p3=q3)&&pd (p4=q4))))<;>cases pd (a10=b10)<;>cases pd (a11=b11)<;>rfl
def zyw{a b:List zX}(hs:a.length<4611686018427387904)(hE:∀d∈a,d.aB.length<4611686018427387904/\d.Except.length<4611686018427387904/\Af d.Test):wB a b=bc (pd (a=b)):=by
 unfold wB
 refine vV a b (λx1 x2=>qp (zX.mk x1.aL x1.aB x1.Except x1.From x1.Until x1.Grace x1.Vary x1.aM (Expr.mk x1.Test.Op x1.Test.N x1.Test.S x1.Test.Key x1.Test.Args) x1.zx x1.Uses x1.Other x1.N) (zX.mk x2.aL x2.aB x2.Except x2.From x2.Until x2.Grace x2.Vary x2.aM (Expr.mk x2.Test.Op x2.Test.N x2.Test.S x2.Test.Key x2.Test.Args) x2.zx x2.Uses x2.Other x2.N)) _ (λK q=>rfl) hs λx hx y hy=>?_
 obtain⟨h1,h2,h3⟩:=hE x hx;simp only[xv];exact zo6 h1 h2 h3
def zT3(p:yJ):Prop :=
 (p.aF.length<4611686018427387904/\∀d∈p.aF,Af d.Body)/\(p.Tables.length<4611686018427387904/\∀d∈p.Tables,d.Rows.length<4611686018427387904)/\(p.aB.length<4611686018427387904/\∀d∈p.aB,d.aA.length<4611686018427387904) /\
 (p.aE.length<4611686018427387904/\∀d∈p.aE,d.aB.length<4611686018427387904/\d.Except.length<4611686018427387904/\Af d.Test)/\(p.aJ.length<4611686018427387904/\∀d∈p.aJ,d.aA.length<4611686018427387904)/\(p.aG.length<4611686018427387904/\∀d∈p.aG,d.Targets.length<4611686018427387904)/\p.aK.length<4611686018427387904
def zef{a b:yJ}(h:zT3 a):ZF a b=bc (pd (a=b)):=by
 obtain⟨⟨d1,d2⟩,⟨t1,t2⟩,⟨z1,z2⟩,⟨r1,r2⟩,⟨c1,c2⟩,⟨v1,v2⟩,s1⟩:=h;obtain⟨aD,aT,aZ,aR,aC,aV,aS,aH⟩:=a;obtain⟨bD,bT,bZ,bR,bC,bV,bS,bH⟩:=b;unfold ZF;simp only[zD2 d1 d2,zsi t1 t2,zyu z1 z2,zyw r1 r2,zD3 c1 c2,zyv v1 v2,ZX s1,bsQ,zae,yJ.mk.injEq,Ag];cases pd (aD=bD)<;>cases pd (aT=bT)<;>cases pd (aZ=bZ)<;>cases pd (aR=bR)<;>cases pd (aC=bC)<;>cases pd (aV=bV)<;>cases pd (aS=bS)<;>rfl
def zvr{α τ:Type}(l:List α)(g:α->Bool)(ok bad:τ)(L:Nat->Int->τ)
  (hL:∀K (i:Nat) x,l[i]?=bc x->L (K+1) (i:Int)=bif g x then L K ((i+1:Nat):Int)else bad) (hE:∀K,L (K+1) (l.length:Int)=ok):
  ∀(r:List α)(i K:Nat),l.drop i=r->i<=l.length->r.length<K->L K (i:Int)=bif r.all g then ok else bad
 |[],i,K,hr,hi,hK=>by
  obtain⟨K,rfl⟩:∃k,K=k+1:=⟨K-1,by simp at hK;omega⟩
  have:=drop_nil hr hi;subst this;rw[hE];rfl
 |x::r,i,K,hr,hi,hK=>by
  obtain⟨K,rfl⟩:∃k,K=k+1:=⟨K-1,by simp at hK;omega⟩
  obtain⟨h1,h2,h3⟩:=xW hr;simp only[lc]at hK;rw[hL K i x h1,cP]
  cases g x with
  |false=>rfl
  |true=>exact zvr l g ok bad L hL hE r (i+1) K h2 ab ab
def zkw{α τ:Type}(l:List α)(g:α->Bool)(ok bad:τ)(L:Nat->Int->τ)(hs:l.length<=9223372036854775807)
  (hL:∀K (i:Nat) x,l[i]?=bc x->L (K+1) (i:Int)=bif g x then L K ((i+1:Nat):Int)else bad) (hE:∀K,L (K+1) (l.length:Int)=ok):
  L KK 0=bif l.all g then ok else bad:=zvr l g ok bad L hL hE l 0 KK rfl (cj _) (j5 ab)
def zo7{α σ τ:Type}(l:List α)(f:σ->α->σ)(fin:σ->τ)(I:Nat->σ->Prop)(L:Nat->Int->σ->τ)
  (hL:∀K (i:Nat) x s,l[i]?=bc x->I i s->L (K+1) (i:Int) s=L K ((i+1:Nat):Int) (f s x)/\I (i+1) (f s x)) (hE:∀K s,I l.length s->L (K+1) (l.length:Int) s=fin s):
  ∀(r:List α)(i K:Nat)(s:σ),l.drop i=r->i<=l.length->r.length<K->I i s->L K (i:Int) s=fin (r.foldl f s)/\I l.length (r.foldl f s)
 |[],i,K,s,hr,hi,hK,hI=>by
  obtain⟨K,rfl⟩:∃k,K=k+1:=⟨K-1,by simp at hK;omega⟩
  have:=drop_nil hr hi;subst this;exact⟨hE K s hI,hI⟩
 |x::r,i,K,s,hr,hi,hK,hI=>by
  obtain⟨K,rfl⟩:∃k,K=k+1:=⟨K-1,by simp at hK;omega⟩
  obtain⟨h1,h2,h3⟩:=xW hr;simp only[lc]at hK;obtain⟨e1,e2⟩:=hL K i x s h1 hI;rw[e1,dx];exact zo7 l f fin I L hL hE r (i+1) K (f s x) h2 ab ab e2
def Yi{α σ τ:Type}(l:List α)(f:σ->α->σ)(fin:σ->τ)(I:Nat->σ->Prop)(L:Nat->Int->σ->τ)(s:σ)(hs:l.length<4611686018427387904)(h0:I 0 s)
  (hL:∀K (i:Nat) x s,l[i]?=bc x->I i s->L (K+1) (i:Int) s=L K ((i+1:Nat):Int) (f s x)/\I (i+1) (f s x)) (hE:∀K s,I l.length s->L (K+1) (l.length:Int) s=fin s):
  L KK 0 s=fin (l.foldl f s)/\I l.length (l.foldl f s):=zo7 l f fin I L hL hE l 0 KK s rfl (cj _) (j5 ab) h0
def A5{α:Type}{l:List α}{i:Nat}{x:α}(h:l[i]?=bc x):decide ((i:Int)<(bg l:Nat))=bf:=dt (by have:=(bw.1 h).1;omega)
def jI{α:Type}{l:List α}:decide (((bg l:Nat):Int)<(bg l:Nat))=bd:=df ab
def Ah{α:Type}{l:List α}{i:Nat}{x:α}(h:l[i]?=bc x):i<l.length:=(bw.1 h).1
def Vc:Int⊕ak->ak
 |.inl n=>if n<0 then 45::32::Lib.decDigits n.natAbs else Lib.decDigits n.toNat
 |.inr s=>s
def zsj(s:ak):ak:=bif s.isEmpty||decide (s.getLast?=bc 10)then s else s++[32]
def zkx(s:ak)(x:Int⊕ak):ak:=zsj s++Vc x
def spT(l:List (Int⊕ak)):ak:=l.flatMap λx=>32::Vc x
def ye:List (Int⊕ak)->ak
 |[]=>[59,10]
 |x::l=>Vc x++spT l++[32,59,10]
def Good(t:ak):Prop:=t≠[]/\t.getLast?≠bc 10
def zJ5{s:ak}(h:Good s):zsj s=s++[32]:=by
 unfold zsj
 have h1:s.isEmpty=bd:=by cases s with
  |nil=>exact aU rfl h.1
  |cons=>rfl
 rw[h1,df h.2];rfl
def xk{s t:ak}(h:Good t):Good (s++t):=by
 obtain⟨h1,h2⟩:=h;refine⟨by simp[h1],?_⟩;rw[List.getLast?_append]
 cases ht:t.getLast? with
 |none=>exact aU (List.getLast?_eq_none_iff.1 ht) h1
 |some a=>rw[ht]at h2;simpa using h2
def zeg:∀{l:List (Int⊕ak)}{s:ak},Good s->(∀x∈l,Good (Vc x))->l.foldl zkx s=s++spT l/\Good (s++spT l)
 |[],s,h,_=>by simp only[gJ,spT,List.flatMap_nil,bI,true_and];exact h
 |x::l,s,h,hl=>by
  have e:zkx s x=s++32::Vc x:=by rw[zkx,zJ5 h];simp
  have hg:Good (s++32::Vc x):=by
   have:=xk (s:=s++[32]) (hl x al);simpa using this
  have:=zeg (l:=l) hg (λy hy=>hl y (mcQ _ hy));rw[dx,e];simp only[spT,List.flatMap_cons]at this ⊢;simpa using this
def zRj{o:Option (Bool⊕Unit)}{g r:Bool}{f:Unit->Option Bool}(h:o=bc (bif g then br ()else bo bd))(hr:g=bf->f ()=bc r):o.bind (wq bc f)=bc (g&&r):=by
 subst h
 cases g with
 |false=>rfl
 |true=>rw[ctQ,bsQ,wq,hr rfl,cA]
def zJ6{o:Option Bool}{f:Option Bool}{g r:Bool}(h:o=bc g)(hr:g=bf->f=bc (!r)):(o.bind λx=>bif (!x)then bc bf else f)=bc (!(g&&r)):=by
 subst h
 cases g with
 |false=>rfl
 |true=>rw[bsQ,bW,cf,hr rfl,cA]
def zky{α:Type}(l:List α)(g:α->Bool)(L:Nat->Int->Option (Bool⊕Unit))(B:Int->Option Bool)(hs:l.length<=9223372036854775807)
  (hL:∀K q,L (K+1) q=(bif (decide (q<((bg l:Nat):Int)))then(B q).bind λr=>(bif r then bc (bo bd)else L K (w64 (q+1)))else bc (br ())))
  (hB:∀(i:Nat) x,l[i]?=bc x->B (i:Int)=bc (!(g x))):L KK 0=bc (bif l.all g then br ()else bo bd):=by
 have:=zkw l g (bc (br ())) (bc (bo bd)) L hs (λK i x h=>?_) (λK=>by rw[hL,jI];rfl)
 ·rw[this];cases l.all g<;>rfl
 ·have hi:=Ah h
  rw[hL,A5 h,ctQ,hB i x h,bsQ,xE ab];cases g x<;>rfl
mutual
def kT:Expr->Bool
 |⟨_,_,s,k,az⟩=>HK az&&(decide (s.length<=30)&&decide (k.length<=30))
def HK:List Expr->Bool
 |[]=>bf
 |e::r=>kT e&&HK r
end
def zh0:∀l:List Expr,HK l=l.all kT
 |[]=>by rw[HK];rfl
 |e::r=>by rw[HK,zh0 r,cP]
def zo8(e:Expr):Bool:=decide (kY e<=5000)&&kT e
def zT4(l:List ak):Bool:=l.all (λx=>decide (x.length<=30))&&decide (l.length<=3000)
def zD4(r:zX):Bool:=decide (r.aL.length<=30)&&(zT4 r.aB&&(zT4 r.Except&&zo8 r.Test))
def zNs{τ:Type}(n lo:Nat)(g:Nat->Bool)(ok bad:τ)(L:Nat->Int->τ)(hL:∀K (i:Nat),lo<=i->i<n->L (K+1) (i:Int)=bif g i then L K ((i+1:Nat):Int)else bad)(hE:∀K (i:Nat),n<=i->L (K+1) (i:Int)=ok):
  ∀(m a K:Nat),lo<=a->n-a<=m->m<K->L K (a:Int)=bif pd (∀k,a<=k->k<n->g k=bf)then ok else bad
 |0,a,K,hlo,h,hK=>by
  obtain⟨K,rfl⟩:∃k,K=k+1:=⟨K-1,ab⟩
  rw[hE K a ab,vU.2 (λk h1 h2=>ab)];rfl
 |m+1,a,K,hlo,h,hK=>by
  obtain⟨K,rfl⟩:∃k,K=k+1:=⟨K-1,ab⟩
  by_cases ha:n<=a
  ·rw[hE K a ha,vU.2 (λk h1 h2=>ab)];rfl
  ·rw[hL K a hlo ab]
   cases hg:g a with
   |false =>
    have:pd (∀k,a<=k->k<n->g k=bf)=bd:=by
     cases hp:pd (∀k,a<=k->k<n->g k=bf)with
     |false=>rfl
     |true=>rw[vU.1 hp a aq ab]at hg;cases hg
    rw[this];rfl
   |true =>
    rw[ctQ,zNs n lo g ok bad L hL hE m (a+1) K ab ab ab]
    have:pd (∀k,a+1<=k->k<n->g k=bf)=pd (∀k,a<=k->k<n->g k=bf):=JF ⟨λh k h1 h2=>by
     by_cases hk:k=a
     ·rw[hk];exact hg
     ·exact h k ab h2,λh k h1 h2=>h k ab h2⟩
    rw[this]
def ptA(p:List zU)(i:Nat):zU:=p.getD (i % p.length) default
def zyx(a b c:zU):Bool :=
 (decide (0<=a.X)&&(decide (a.X<=1048576)&&(decide (0<=a.Y)&&decide (a.Y<=1048576)))) &&
 (!(decide (a.X=b.X)==decide (a.Y=b.Y))&&!(decide (a.X=b.X)==decide (b.X=c.X)))
def zyy(p:List zU)(i:Nat):Bool:=zyx (ptA p i) (ptA p (i+1)) (ptA p (i+2))
def zRk{α β:Type}{o:Option α}{v:α}{f:α->Option β}{r:Option β}(h:o=bc v)(h2:f v=r):o.bind f=r:=by rw[h,bsQ,h2]
def zD5(a b c:zU):(aN (YZ a) λx5=>(bif (!x5)then bc bf else(bif ((decide (a.X=b.X))==(decide (a.Y=b.Y)))then bc bf else(xA ⟨a,b⟩).bind λx6=>aN (xA ⟨b,c⟩) λx7=>bc (x6==x7))))=bc (!(zyx a b c)):=by
 show(aN (bif (decide (0<=a.X))then(bif (decide (a.X<=1048576))then(bif (decide (0<=a.Y))then bc (decide (a.Y<=1048576))else bc bd)else bc bd)else bc bd) λx5=>(bif (!x5)then bc bf else(bif ((decide (a.X=b.X))==(decide (a.Y=b.Y)))then bc bf else(bc ((decide (a.X=b.X))==(decide (b.X=c.X)))))))=_
 unfold zyx;cases decide (0<=a.X)
 ·rfl
 cases decide (a.X<=1048576)
 ·rfl
 cases decide (0<=a.Y)
 ·rfl
 cases decide (a.Y<=1048576)
 ·rfl
 cases (decide (a.X=b.X)==decide (a.Y=b.Y))<;>cases (decide (a.X=b.X)==decide (b.X=c.X))<;>rfl
def zJ7(a b:zU):Bool:=decide (a.X<b.X)||(decide (a.X=b.X)&&decide (a.Y<b.Y))
def z0d(p:List zU)(i:Nat):Bool:=!(decide (0<i))||zJ7 (ptA p 0) (ptA p i)
def zXo(a b c d:zU):Bool:=decide (max (min a.X b.X) (min c.X d.X)<=min (max a.X b.X) (max c.X d.X))&&decide (max (min a.Y b.Y) (min c.Y d.Y)<=min (max a.Y b.Y) (max c.Y d.Y))
def zT5(p:List zU)(i k:Nat):Bool:=decide ((k+1) % p.length=i)||!(zXo (ptA p i) (ptA p (i+1)) (ptA p k) (ptA p (k+1)))
def Aw(p:List zU):Prop:=(4<=p.length/\p.length<=60)/\(∀i,0<=i->i<p.length->(zyy p i&&z0d p i)=bf)/\(∀i,0<=i->i<p.length->pd (∀k,i+2<=k->k<p.length->zT5 p i k=bf)=bf)/\¬(ptA p 0).X=(ptA p 1).X
def zNt{p:List zU}{i:Nat}(h:0<p.length):idx p (((i % p.length:Nat)):Int)=bc (ptA p i):=zNh (gY _ h)
def zD6{p:List zU}{i:Nat}(h:i<p.length):idx p ((i:Nat):Int)=bc (ptA p i):=by
 have:=zNt (p:=p) (i:=i) ab
 rwa [eF h]at this
def zvs{i n:Nat}:Int.tmod (i:Int) (n:Int)=((i % n:Nat):Int):=rfl
def zXp{p:List zU}{i:Nat}:ptA p (i % p.length)=ptA p i:=by unfold ptA;rw[Nat.mod_mod]
def zRl{p:List zU}{i:Nat}:ptA p (i % p.length+1)=ptA p (i+1):=by unfold ptA;rw[Nat.mod_add_mod]
def zo9(p:List zU)(i:Nat):zI:=⟨ptA p i,ptA p (i+1)⟩
def zD7{p:List zU}(h0:0<p.length)(h1:p.length<=60):∃l,QU p=bc l/\l.length=p.length/\∀j<p.length,l[j]?=bc (zo9 p j):=by
 have hr:(cQ p.length).length=p.length:=List.length_range
 have key:=Yi (cQ p.length) (λs i=>List.set s i (zo9 p i)) (λs=>bc s) (λi s=>s.length=p.length/\∀j<i,s[j]?=bc (zo9 p j)) (λK q s=>vd p ((bg p:Nat):Int) K (q,s))
  (List.replicate (cg ((bg p:Nat):Int)) (zI.mk (zU.mk 0 0) (zU.mk 0 0))) ab ⟨af,λj hj=>ab⟩ (λK i x s hx hs=>?_) (λK s hs=>?_)
 ·refine⟨_,?_,key.2.1,λj hj=>key.2.2 j ab⟩
  unfold QU;rw[zE ab,bsQ,key.1];rfl
 ·have hi:=Ah hx
  rw[hr]at hi
  have hxi:x=i:=by simpa[List.getElem?_range,hi]using hx.symm
  subst hxi;obtain⟨s1,s2⟩:=hs;refine⟨?_,by rw[List.length_set];exact s1,λj hj=>?_⟩
  ·show vd p ((bg p:Nat):Int) (K+1) ((x:Int),s)=_
   rw[vd];simp only[dt (show(x:Int)<((bg p:Nat):Int) by omega),ctQ,zD6 hi,bsQ];rw[zE ab,bsQ,xE ab,zvs,zNt h0,bsQ,zE ab,bsQ];simp only[dQ];rw[bA ab,bsQ];rfl
  ·by_cases hjx:j=x
   ·subst hjx
    rw[List.getElem?_set_self ab]
   ·rw[List.getElem?_set_ne (Ne.symm hjx)]
    exact s2 j ab
 ·rw[hr,vd]
  simp only[jI,cf]
def zyz(a b:zU):(Jk a b).bind (λx=>bc (decide (x>=0)))=bc (!(zJ7 a b)):=by
 have hc:∀x y:Int,kI x y=bc (if x<y then -1 else if x>y then 1 else 0):=λx y=>by
  unfold kI Jj;simp only[bsQ,decide_true,bW,cf];by_cases h:x<y
  ·rw[dt h,aP h];rfl
  ·rw[df h,aO h]
   by_cases h2:x>y
   ·rw[dt h2,aP h2];rfl
   ·rw[df h2,aO h2];rfl
 have ho:∀x y:Int,za1 [x,y]=bc (if x=0 then y else x):=λx y=>by
  unfold za1
  have e:KK=(KK-3)+3:=by have:=j5 (n:=10) ab;omega
  rw[e,qk];simp only[show decide ((0:Int)<((bg [x,y]:Nat):Int))=bf from rfl,ctQ,show idx [x,y] 0=bc x from rfl,bsQ];by_cases h:x=0
  ·rw[dt h,aP h]
   simp only[bW,cf];rw[show w64 (0+1)=1 from rfl,qk];simp only[show decide ((1:Int)<((bg [x,y]:Nat):Int))=bf from rfl,ctQ,show idx [x,y] 1=bc y from rfl,bsQ];by_cases h2:y=0
   ·rw[dt h2,h2]
    simp only[bW,cf];rw[show w64 (1+1)=2 from rfl,qk];rfl
   ·rw[df h2];rfl
  ·rw[df h,aO h];rfl
 unfold Jk;simp only[hc,ho,bsQ];unfold zJ7;refine aQ bc ?_;by_cases h1:a.X<b.X
 ·simp[h1]
 ·by_cases h2:a.X>b.X
  ·have:¬a.X=b.X:=ab
   simp[h1,h2,this]
  ·have:a.X=b.X:=ab
   by_cases h3:a.Y<b.Y
   ·simp[this,h3]
   ·by_cases h4:a.Y>b.Y
    ·simp[this,h3,h4]
    ·simp[this,h3,h4]
def zJ8{p:Prop}(h:¬p):pd p=bd:=(Ae (b:=bd) ⟨λh=>(by cases h),λh2=>aU h2 h⟩).symm
def zsk(n:Nat)(g:Nat->Bool)(L:Nat->Int->Option (Bool⊕Unit))(a:Nat)(hn:n<4611686018427387904)(hL:∀K (i:Nat),a<=i->i<n->L (K+1) (i:Int)=bif g i then L K ((i+1:Nat):Int)else bc (bo bd))(hE:∀K (i:Nat),n<=i->L (K+1) (i:Int)=bc (br ())):
  L KK (a:Int)=bc (bif pd (∀k,a<=k->k<n->g k=bf)then br ()else bo bd):=by
 rw[zNs n a g _ _ L hL hE n a KK aq ab (j5 ab)];cases pd (∀k,a<=k->k<n->g k=bf)<;>rfl
def Yj{o:Option (Bool⊕Unit)}{g r:Prop}{f:Unit->Option Bool}(h:o=bc (bif pd g then br ()else bo bd))(hr:g->f ()=bc (pd r)):o.bind (wq bc f)=bc (pd (g/\r)):=by
 rw[Ag]
 exact zRj h λhg=>hr (vU.1 hg)
def zeh{p:List zU}:ve p=bc (pd (Aw p)):=by
 unfold ve zcz;by_cases hh:4<=p.length/\p.length<=60
 ·obtain⟨h4,h60⟩:=hh
  obtain⟨l,e1,e2,e3⟩:=zD7 (p:=p) ab h60
  have hl:∀j<p.length,idx l (j:Int)=bc (zo9 p j):=λj hj=>yx (e3 j hj)
  rw[df (show ¬((bg p:Nat):Int)<4 by omega),df (show ¬((bg p:Nat):Int)>60 by omega),cf,bsQ,cf,e1,bsQ,zd6];have hp:pd (Aw p)=pd ((∀i,0<=i->i<p.length->(zyy p i&&z0d p i)=bf)/\(∀i,0<=i->i<p.length->pd (∀k,i+2<=k->k<p.length->zT5 p i k=bf)=bf)/\¬(ptA p 0).X=(ptA p 1).X):=JF ⟨λh=>h.2,λh=>⟨⟨h4,h60⟩,h⟩⟩;rw[hp,e2]
  refine Yj ?_ λ_=>Yj ?_ λ_=>?_
  ·refine zsk p.length (λi=>zyy p i&&z0d p i) (kf p l (bg p:Nat)) 0 ab (λK i _ hi=>?_) (λK i hi=>?_)
   ·rw[kf]
    simp only[dt (show(i:Int)<((bg p:Nat):Int) by omega),ctQ,hl i hi,bsQ,e2];rw[zE ab,bsQ,xE ab,zvs,hl _ (gY _ ab)];rw[show zo9 p ((i+1) % p.length)=zo9 p (i+1) by unfold zo9;rw[zXp,zRl],bsQ];have h0:idx p 0=bc (ptA p 0):=zD6 (p:=p) (i:=0) ab;refine zRk (zD5 (ptA p i) (ptA p (i+1)) (ptA p (i+2))) ?_;unfold zyy z0d;cases zyx (ptA p i) (ptA p (i+1)) (ptA p (i+2))
    ·rfl
    simp only[bW,cf,cA];by_cases hi0:0<i
    ·rw[dt (show(i:Int)>0 by omega),dt hi0,ctQ,h0,zD6 hi]
     simp only[bsQ,zyz,bW,fe];cases zJ7 (ptA p 0) (ptA p i)<;>rfl
    ·rw[df (show ¬(i:Int)>0 by omega),df hi0];rfl
   ·rw[kf,df ab];rfl
  ·refine zsk p.length (λi=>pd (∀k,i+2<=k->k<p.length->zT5 p i k=bf)) (kh l (bg p:Nat)) 0 ab (λK i _ hi=>?_) (λK i hi=>?_)
   ·rw[kh,dt (show(i:Int)<((bg p:Nat):Int) by omega),ctQ,wL ab ab,show((i:Int)+2)=((i+2:Nat):Int) by omega]
    rw[zsk p.length (λk=>zT5 p i k) (kg l (i:Int) (bg p:Nat)) (i+2) ab (λK k hlo hk=>?_) (λK k hk=>?_),xE ab]
    ·cases pd (∀k,i+2<=k->k<p.length->zT5 p i k=bf)<;>rfl
    ·rw[kg,e2,dt (show(k:Int)<((bg p:Nat):Int) by omega),ctQ,wL (n:=(i:Int)+_) ab ab,wL ab ab,hl i hi,hl k hk]
     have hm:decide ((i:Int)+((bg p:Nat):Int)-(k:Int)>1)=!(decide ((k+1) % p.length=i)):=by
      by_cases hk1:k+1=p.length
      ·rw[hk1,Nat.mod_self]
       by_cases hi0:0=i
       ·rw[dt hi0,df ab];rfl
       ·rw[df hi0,dt ab];rfl
      ·rw[eF ab]
       rw[df (show ¬k+1=i by omega),dt ab];rfl
     rw[hm];unfold zT5;cases decide ((k+1) % p.length=i)
     ·simp only[cC,ctQ,bsQ,fe]
      show(aN (bif (decide (max (min (ptA p i).X (ptA p (i+1)).X) (min (ptA p k).X (ptA p (k+1)).X)<=min (max (ptA p i).X (ptA p (i+1)).X) (max (ptA p k).X (ptA p (k+1)).X)))then bc (decide (max (min (ptA p i).Y (ptA p (i+1)).Y) (min (ptA p k).Y (ptA p (k+1)).Y)<=min (max (ptA p i).Y (ptA p (i+1)).Y) (max (ptA p k).Y (ptA p (k+1)).Y)))else bc bd) λx4=>bc x4).bind _=_
      rw[zsd,bsQ,bsQ,xE ab];unfold zXo;cases (decide (max (min (ptA p i).X (ptA p (i+1)).X) (min (ptA p k).X (ptA p (k+1)).X)<=min (max (ptA p i).X (ptA p (i+1)).X) (max (ptA p k).X (ptA p (k+1)).X))&&decide (max (min (ptA p i).Y (ptA p (i+1)).Y) (min (ptA p k).Y (ptA p (k+1)).Y)<=min (max (ptA p i).Y (ptA p (i+1)).Y) (max (ptA p k).Y (ptA p (k+1)).Y)))<;>rfl
     ·rw[xE ab];rfl
    ·rw[kg,e2,df ab];rfl
   ·rw[kh,df ab];rfl
  ·have:=hl 0 ab
   rw[show((0:Nat):Int)=0 from rfl]at this;rw[this,bsQ,xA,bsQ];exact aQ bc (Ae (by simp[zo9]))
 ·rw[zJ8 (λh=>hh h.1)]
  by_cases h4:p.length<4
  ·rw[dt (show((bg p:Nat):Int)<4 by omega)];rfl
  ·rw[df (show ¬((bg p:Nat):Int)<4 by omega),dt (show((bg p:Nat):Int)>60 by omega)];rfl
def jJ(u:Bool):List ak->List ak->Bool
 |_,[]=>bf
 |seen,s::r=>zD s&&(!(u&&decide (s∈seen))&&jJ u (seen++[s]) r)
def ZY:∀(l seen:List ak),jJ bd seen l=l.all zD
 |[],_=>rfl
 |s::r,seen=>by rw[jJ,ZY r,cP,eP,cC,cA]
def HM:∀(l seen:List ak),jJ bf seen l=bf->l.all zD=bf
 |[],_,_=>rfl
 |s::r,seen,h=>by
  simp only[jJ,bn]at h;rw[cP,h.1,HM r _ h.2.2];rfl
def KM(m:List (ak×Bool))(L:List ak):Prop:=∀x,(xj x m).getD bd=decide (x∈L)
def zpa{α β:Type}[DecidableEq α](a x:α)(b:β):∀l:List (α×β),xj x (u9 a b l)=if x=a then bc b else xj x l
 |[]=>by simp[u9,xj]
 |(k,c)::r=>by
  have ih:=zpa a x b r;simp only[u9];by_cases h:a=k
  ·rw[aP h]
   subst h;by_cases h2:x=a
   ·simp[xj,h2]
   ·simp[xj,h2]
  ·rw[aO h]
   simp only[xj,ih];by_cases h2:x=k
   ·subst h2
    simp[Ne.symm h]
   ·simp[h2]
def KM.add{m:List (ak×Bool)}{L:List ak}(h:KM m L)(s:ak):KM (u9 s bf m) (L++[s]):=λx=>by
 rw[zpa];by_cases hx:x=s
 ·rw[aP hx];simp[hx]
 ·rw[aO hx,h x]
  exact yI (by simp[hx])
def zD8(u:Bool)(l:List ak)(hs:l.length<4611686018427387904)(hn:∀s∈l,s.length<4611686018427387904):
  ∀(r:List ak)(i K:Nat)(m:List (ak×Bool))(seen:List ak),l.drop i=r->i<=l.length->r.length<K->KM m seen ->
   oy u l (l.length:Nat) K ((i:Int),m)=bc (bif jJ u seen r then .inr ()else .inl bd)
 |[],i,K,m,seen,hr,hi,hK,hm=>by
  obtain⟨K,rfl⟩:∃k,K=k+1:=⟨K-1,by simp at hK;omega⟩
  have:=drop_nil hr hi;subst this;rw[oy,jI];rfl
 |x::r,i,K,m,seen,hr,hi,hK,hm=>by
  obtain⟨K,rfl⟩:∃k,K=k+1:=⟨K-1,by simp at hK;omega⟩
  obtain⟨h1,h2,h3⟩:=xW hr;simp only[lc]at hK;rw[oy,A5 h1,ctQ,jJ];simp only[yx h1,bsQ,xf (hn x (bP h1)),hm x]
  cases zD x with
  |false=>rfl
  |true =>
   simp only[bW,cf,cA]
   cases hu:(u&&decide (x∈seen))with
   |true =>
    simp only[bn]at hu;rw[hu.1,hu.2];rfl
   |false =>
    have:(bif u then bc (decide (x∈seen))else bc bd)=bc bd:=by
     cases u
     ·rfl
     ·simpa using hu
    rw[this];simp only[bsQ,cf,cC,cA];rw[xE ab];exact zD8 u l hs hn r (i+1) K _ _ h2 ab ab (hm.add x)
def zkz{u:Bool}{l:List ak}(hs:l.length<4611686018427387904)(hn:∀s∈l,s.length<4611686018427387904):qn l u=bc (jJ u [] l):=by
 unfold qn;rw[show(0:Int)=((0:Nat):Int) from rfl,zD8 u l hs hn l 0 KK [] [] rfl (cj _) (j5 ab) (λx=>by simp[xj])];cases jJ u [] l<;>rfl
def zh1{α β:Type}(g:α->β):∀(l:List α)(s:List β),l.foldl (λs x=>s++[g x]) s=s++l.map g
 |[],s=>af
 |x::l,s=>by rw[dx,zh1 g l];simp
def zy0{α τ:Type}(l:List α)(g:α->ak)(L:Nat->(Int×List ak)->τ)(fin:List ak->τ)(hs:l.length<=1000)
  (hL:∀K (i:Nat) x s,l[i]?=bc x->bg s<=1000->L (K+1) ((i:Int),s)=L K (((i+1:Nat):Int),s++[g x])) (hE:∀K s,L (K+1) ((l.length:Int),s)=fin s):L KK (0,[])=fin (l.map g):=by
 have:=(Yi l (λs x=>s++[g x]) fin (λi s=>s.length=i/\i<=l.length) (λK q s=>L K (q,s)) [] ab ⟨rfl,cj _⟩ (λK i x s h hi=>⟨hL K i x s h ab,by have:=Ah h;simp;omega⟩) (λK s _=>hE K s)).1;rw[zh1]at this;simpa using this
def qy{α:Type}[Inhabited α](l:List α)(g:α->ak)(m:Nat)(L:Nat->(Int×List ak)->Option (List ak))(B:α->Option ak)(hs:l.length<=1000)(hn:∀x∈l,(g x).length<4611686018427387904)
  (hL:∀K q,L (K+1) q=(bif (decide (q.1<((bg l:Nat):Int)))then(idx l q.1).bind λx1=>aN (B x1) λx2=>aN (grd (bg (q.2++([x2]:List ak))*16<=140737488355328)) λ_=>L K ((w64 (q.1+1)),(q.2++([x2]:List ak)))else bc q.2))
  (hB:∀x,B x=bc (g x)):(L KK (0,[])).bind (λx1=>(bif (decide (((bg l:Nat):Int)<=(m:Int)))then(qn x1 bf).bind λx2=>bc x2 else bc bd))=bc (decide (l.length<=m)&&jJ bf [] (l.map g)):=by
 rw[zy0 l g L bc hs (λK i x s h h2=>?_) (λK s=>by rw[hL];simp only[jI,cf]),bsQ,zkz (by simp;omega) (λs h=>?_),zDm _ m rfl]
 ·cases decide (l.length<=m)<;>rfl
 ·obtain⟨x,h1,rfl⟩:=List.mem_map.1 h
  exact hn x h1
 ·have:=Ah h
  rw[hL];simp only[A5 h,ctQ,yx h,bsQ,hB];rw[zE (by rw[la,ez];omega),bsQ,xE ab]
-- expressions
def jx(op:Int):Int:=if op<=3 then 0 else if op=9∨op=15 then 1 else if op=16 then 3 else 2
def xB(e:Expr):Bool:=decide (0<=e.Op/\e.Op<17/\((e.Args.length:Nat):Int)=jx e.Op)&&(decide (if e.Op=0 then 0<=e.N/\e.N<=1099511627776 else e.N=0) &&
 ((if e.Op=1∨e.Op=2∨e.Op=3 then zD e.S else decide (e.S=[]))&&(if e.Op=2 then zD e.Key else decide (e.Key=[]))))
def okE:Nat->Expr->Bool
 |0,_=>bd
 |d+1,e=>xB e&&e.Args.all (okE d)
def zJ9{n:Int}(h0:0<=n)(h1:n<17):n=0∨n=1∨n=2∨n=3∨n=9∨n=15∨n=16∨(¬n=0/\¬n=1/\¬n=2/\¬n=3/\¬n=9/\¬n=15/\¬n=16/\¬n<=3):=ab
def Qn{n:Int}:decide ((min (max n 0) 1099511627776)=n)=decide (0<=n/\n<=1099511627776):=yI ab
def AM{s:ak}:decide ([]=s)=decide (s=[]):=yI ⟨Eq.symm,Eq.symm⟩
def kU{n:Int}:decide (0=n)=decide (n=0):=yI ⟨Eq.symm,Eq.symm⟩
def zXq{n:Int}{s k:ak}{az:List Expr} :xB ⟨0,n,s,k,az⟩=(decide (((az.length:Nat):Int)=0)&&(decide (0<=n/\n<=1099511627776)&&(decide (s=[])&&decide (k=[])))):=by
 simp[xB,jx]
def r_0{RK:Nat}{d n:Int}{s k:ak}{az:List Expr}{r:Bool}(hd:¬d=0)(hS:s.length<4611686018427387904)(hK:k.length<4611686018427387904)(h:xB ⟨0,n,s,k,az⟩=bf->xN (yp RK) d az ((bg az:Nat):Int) KK 0=bc (bif r then br ()else bo bd)):yp (RK+1) ⟨0,n,s,k,az⟩ d=bc (xB ⟨0,n,s,k,az⟩&&r):=by
 rw[zXq ]at h ⊢;rw[yp];simp only[df hd,Qn,AM,kU,xf hS,xf hK,bW,cC,cf,ctQ,bsQ,wq,Int.reduceEq,Int.reduceLT,Int.reduceGE,Int.reduceLE,decide_true,decide_false,ge_iff_le]
 cases ha:decide (((az.length:Nat):Int)=0)<;>cases hb:decide (0<=n/\n<=1099511627776)<;>cases hc:decide (s=[])<;>cases he:decide (k=[])<;>(first|rfl|(rw[ha,hb,hc,he]at h;rw[h rfl];cases r<;>rfl))
def zXr{n:Int}{s k:ak}{az:List Expr} :xB ⟨1,n,s,k,az⟩=(decide (((az.length:Nat):Int)=0)&&(decide (n=0)&&(zD s&&decide (k=[])))):=by
 simp[xB,jx]
def r_1{RK:Nat}{d n:Int}{s k:ak}{az:List Expr}{r:Bool}(hd:¬d=0)(hS:s.length<4611686018427387904)(hK:k.length<4611686018427387904)(h:xB ⟨1,n,s,k,az⟩=bf->xN (yp RK) d az ((bg az:Nat):Int) KK 0=bc (bif r then br ()else bo bd)):yp (RK+1) ⟨1,n,s,k,az⟩ d=bc (xB ⟨1,n,s,k,az⟩&&r):=by
 rw[zXr ]at h ⊢;rw[yp];simp only[df hd,Qn,AM,kU,xf hS,xf hK,bW,cC,cf,ctQ,bsQ,wq,Int.reduceEq,Int.reduceLT,Int.reduceGE,Int.reduceLE,decide_true,decide_false,ge_iff_le]
 cases ha:decide (((az.length:Nat):Int)=0)<;>cases hb:decide (n=0)<;>cases hc:zD s<;>cases he:decide (k=[])<;>(first|rfl|(rw[ha,hb,hc,he]at h;rw[h rfl];cases r<;>rfl))
def zXs{n:Int}{s k:ak}{az:List Expr} :xB ⟨2,n,s,k,az⟩=(decide (((az.length:Nat):Int)=0)&&(decide (n=0)&&(zD s&&zD k))):=by
 simp[xB,jx]
def r_2{RK:Nat}{d n:Int}{s k:ak}{az:List Expr}{r:Bool}(hd:¬d=0)(hS:s.length<4611686018427387904)(hK:k.length<4611686018427387904)(h:xB ⟨2,n,s,k,az⟩=bf->xN (yp RK) d az ((bg az:Nat):Int) KK 0=bc (bif r then br ()else bo bd)):yp (RK+1) ⟨2,n,s,k,az⟩ d=bc (xB ⟨2,n,s,k,az⟩&&r):=by
 rw[zXs ]at h ⊢;rw[yp];simp only[df hd,Qn,AM,kU,xf hS,xf hK,bW,cC,cf,ctQ,bsQ,wq,Int.reduceEq,Int.reduceLT,Int.reduceGE,Int.reduceLE,decide_true,decide_false,ge_iff_le]
 cases he:zD k with
 |false=>simp only[eB,eP];rfl
 |true =>
  simp only[bW,cf,bsQ,wq,kU,decide_true]
  cases ha:decide (((az.length:Nat):Int)=0)<;>cases hb:decide (n=0)<;>cases hc:zD s<;>(first|rfl|(rw[ha,hb,hc,he]at h;rw[h rfl];cases r<;>rfl))
def zXt{n:Int}{s k:ak}{az:List Expr} :xB ⟨3,n,s,k,az⟩=(decide (((az.length:Nat):Int)=0)&&(decide (n=0)&&(zD s&&decide (k=[])))):=by
 simp[xB,jx]
def r_3{RK:Nat}{d n:Int}{s k:ak}{az:List Expr}{r:Bool}(hd:¬d=0)(hS:s.length<4611686018427387904)(hK:k.length<4611686018427387904)(h:xB ⟨3,n,s,k,az⟩=bf->xN (yp RK) d az ((bg az:Nat):Int) KK 0=bc (bif r then br ()else bo bd)):yp (RK+1) ⟨3,n,s,k,az⟩ d=bc (xB ⟨3,n,s,k,az⟩&&r):=by
 rw[zXt ]at h ⊢;rw[yp];simp only[df hd,Qn,AM,kU,xf hS,xf hK,bW,cC,cf,ctQ,bsQ,wq,Int.reduceEq,Int.reduceLT,Int.reduceGE,Int.reduceLE,decide_true,decide_false,ge_iff_le]
 cases ha:decide (((az.length:Nat):Int)=0)<;>cases hb:decide (n=0)<;>cases hc:zD s<;>cases he:decide (k=[])<;>(first|rfl|(rw[ha,hb,hc,he]at h;rw[h rfl];cases r<;>rfl))
def zXu{n:Int}{s k:ak}{az:List Expr} :xB ⟨9,n,s,k,az⟩=(decide (((az.length:Nat):Int)=1)&&(decide (n=0)&&(decide (s=[])&&decide (k=[])))):=by
 simp[xB,jx]
def r_9{RK:Nat}{d n:Int}{s k:ak}{az:List Expr}{r:Bool}(hd:¬d=0)(hS:s.length<4611686018427387904)(hK:k.length<4611686018427387904)(h:xB ⟨9,n,s,k,az⟩=bf->xN (yp RK) d az ((bg az:Nat):Int) KK 0=bc (bif r then br ()else bo bd)):yp (RK+1) ⟨9,n,s,k,az⟩ d=bc (xB ⟨9,n,s,k,az⟩&&r):=by
 rw[zXu ]at h ⊢;rw[yp];simp only[df hd,Qn,AM,kU,xf hS,xf hK,bW,cC,cf,ctQ,bsQ,wq,Int.reduceEq,Int.reduceLT,Int.reduceGE,Int.reduceLE,decide_true,decide_false,ge_iff_le]
 cases ha:decide (((az.length:Nat):Int)=1)<;>cases hb:decide (n=0)<;>cases hc:decide (s=[])<;>cases he:decide (k=[])<;>(first|rfl|(rw[ha,hb,hc,he]at h;rw[h rfl];cases r<;>rfl))
def zRm{n:Int}{s k:ak}{az:List Expr} :xB ⟨15,n,s,k,az⟩=(decide (((az.length:Nat):Int)=1)&&(decide (n=0)&&(decide (s=[])&&decide (k=[])))):=by
 simp[xB,jx]
def r_15{RK:Nat}{d n:Int}{s k:ak}{az:List Expr}{r:Bool}(hd:¬d=0)(hS:s.length<4611686018427387904)(hK:k.length<4611686018427387904)(h:xB ⟨15,n,s,k,az⟩=bf->xN (yp RK) d az ((bg az:Nat):Int) KK 0=bc (bif r then br ()else bo bd)):yp (RK+1) ⟨15,n,s,k,az⟩ d=bc (xB ⟨15,n,s,k,az⟩&&r):=by
 rw[zRm ]at h ⊢;rw[yp];simp only[df hd,Qn,AM,kU,xf hS,xf hK,bW,cC,cf,ctQ,bsQ,wq,Int.reduceEq,Int.reduceLT,Int.reduceGE,Int.reduceLE,decide_true,decide_false,ge_iff_le]
 cases ha:decide (((az.length:Nat):Int)=1)<;>cases hb:decide (n=0)<;>cases hc:decide (s=[])<;>cases he:decide (k=[])<;>(first|rfl|(rw[ha,hb,hc,he]at h;rw[h rfl];cases r<;>rfl))
def zRn{n:Int}{s k:ak}{az:List Expr} :xB ⟨16,n,s,k,az⟩=(decide (((az.length:Nat):Int)=3)&&(decide (n=0)&&(decide (s=[])&&decide (k=[])))):=by
 simp[xB,jx]
def r_16{RK:Nat}{d n:Int}{s k:ak}{az:List Expr}{r:Bool}(hd:¬d=0)(hS:s.length<4611686018427387904)(hK:k.length<4611686018427387904)(h:xB ⟨16,n,s,k,az⟩=bf->xN (yp RK) d az ((bg az:Nat):Int) KK 0=bc (bif r then br ()else bo bd)):yp (RK+1) ⟨16,n,s,k,az⟩ d=bc (xB ⟨16,n,s,k,az⟩&&r):=by
 rw[zRn ]at h ⊢;rw[yp];simp only[df hd,Qn,AM,kU,xf hS,xf hK,bW,cC,cf,ctQ,bsQ,wq,Int.reduceEq,Int.reduceLT,Int.reduceGE,Int.reduceLE,decide_true,decide_false,ge_iff_le]
 cases ha:decide (((az.length:Nat):Int)=3)<;>cases hb:decide (n=0)<;>cases hc:decide (s=[])<;>cases he:decide (k=[])<;>(first|rfl|(rw[ha,hb,hc,he]at h;rw[h rfl];cases r<;>rfl))
def zXv{op n:Int}{s k:ak}{az:List Expr}(hlo:0<=op)(hhi:op<17)(h0:¬op=0)(h1:¬op=1)(h2:¬op=2)(h3:¬op=3)(h9:¬op=9)(h15:¬op=15)(h16:¬op=16)(h3l:¬op<=3):xB ⟨op,n,s,k,az⟩=(decide (((az.length:Nat):Int)=2)&&(decide (n=0)&&(decide (s=[])&&decide (k=[])))):=by
 simp[xB,jx,h0,h1,h2,h3,h9,h15,h16,h3l,hlo,hhi]
def r_b{RK:Nat}{op d n:Int}{s k:ak}{az:List Expr}{r:Bool}(hlo:0<=op)(hhi:op<17)(h0:¬op=0)(h1:¬op=1)(h2:¬op=2)(h3:¬op=3)(h9:¬op=9)(h15:¬op=15)(h16:¬op=16)(h3l:¬op<=3)(hd:¬d=0)(hS:s.length<4611686018427387904)(hK:k.length<4611686018427387904)(h:xB ⟨op,n,s,k,az⟩=bf->xN (yp RK) d az ((bg az:Nat):Int) KK 0=bc (bif r then br ()else bo bd)):yp (RK+1) ⟨op,n,s,k,az⟩ d=bc (xB ⟨op,n,s,k,az⟩&&r):=by
 rw[zXv hlo hhi h0 h1 h2 h3 h9 h15 h16 h3l]at h ⊢;rw[yp];simp only[df h0,df h1,df h2,df h3,df h9,df h15,df h16,df h3l,df (Int.not_lt.2 hlo),df (Int.not_le.2 hhi),df hd,Qn,AM,kU,xf hS,xf hK,bW,cC,cf,ctQ,bsQ,wq,Int.reduceEq,Int.reduceLT,Int.reduceGE,Int.reduceLE,decide_true,decide_false,ge_iff_le]
 cases ha:decide (((az.length:Nat):Int)=2)<;>cases hb:decide (n=0)<;>cases hc:decide (s=[])<;>cases he:decide (k=[])<;>(first|rfl|(rw[ha,hb,hc,he]at h;rw[h rfl];cases r<;>rfl))
def zXw{RK:Nat}{d:Int}{e:Expr}{r:Bool}(hd:¬d=0)(hS:e.S.length<4611686018427387904)(hK:e.Key.length<4611686018427387904)(h:xB e=bf->xN (yp RK) d e.Args ((bg e.Args:Nat):Int) KK 0=bc (bif r then br ()else bo bd)):yp (RK+1) e d=bc (xB e&&r):=by
 obtain⟨op,n,s,k,az⟩:=e;by_cases hlo:0<=op
 ·by_cases hhi:op<17
  ·obtain rfl|rfl|rfl|rfl|rfl|rfl|rfl|⟨h0,h1,h2,h3,h9,h15,h16,h3l⟩:=zJ9 hlo hhi
   ·exact r_0 hd hS hK h
   ·exact r_1 hd hS hK h
   ·exact r_2 hd hS hK h
   ·exact r_3 hd hS hK h
   ·exact r_9 hd hS hK h
   ·exact r_15 hd hS hK h
   ·exact r_16 hd hS hK h
   ·exact r_b hlo hhi h0 h1 h2 h3 h9 h15 h16 h3l hd hS hK h
  ·have:xB ⟨op,n,s,k,az⟩=bd:=by simp[xB,hhi]
   rw[this,yp];simp only[df hd,df (show ¬op<0 by omega),dt (show op>=17 by omega)];rfl
 ·have:xB ⟨op,n,s,k,az⟩=bd:=by simp[xB,hlo]
  rw[this,yp];simp only[df hd,dt (show op<0 by omega)];rfl
def zRo{e:Expr}(h:kT e=bf):e.S.length<=30/\e.Key.length<=30:=by
 obtain⟨op,n,s,k,az⟩:=e;rw[kT]at h;simp only[bn,aW]at h;exact h.2
def zy1{e x:Expr}(h:kT e=bf)(hx:x∈e.Args):kT x=bf:=by
 obtain⟨op,n,s,k,az⟩:=e;rw[kT,zh0]at h;simp only[bn]at h;exact bj.1 h.1 x hx
def zKa{e:Expr}{n:Nat}(h:kY e<=n):e.Args.length<n:=by
 obtain⟨op,m,s,k,az⟩:=e;rw[kY]at h;have:=Yh az
 show az.length<n
 omega
def zKb{e x:Expr}{n:Nat}(h:kY e<=n)(hx:x∈e.Args):kY x<=n:=by
 obtain⟨op,m,s,k,az⟩:=e;rw[kY]at h;have:=zkv (show x∈az from hx);omega
def zKc:∀(d:Nat)(e:Expr)(K:Nat),d<K->d<=1000->kY e<=5000->kT e=bf->yp K e (d:Int)=bc (okE d e):=by
 intro d
 induction d with
 |zero =>
  intro e K hK _ _ _
  obtain⟨K,rfl⟩:∃k,K=k+1:=⟨K-1,ab⟩
  rw[yp];rfl
 |succ d ih =>
  intro e K hK hd hn hs
  obtain⟨K,rfl⟩:∃k,K=k+1:=⟨K-1,ab⟩
  have h1:=zRo hs;have hz:=zKa hn;rw[okE]
  refine zXw ab ab ab λ_=>?_
  refine zky e.Args (okE d) _ (λq=>aN (idx e.Args q) λx1=>aN (yp K (Expr.mk x1.Op x1.N x1.S x1.Key x1.Args) (w64 (((d+1:Nat):Int)-1))) λx2=>bc (!x2)) ab (λK q=>?_) λi x hx=>?_
  ·rw[xN]
   simp only[cL,bsQ]
  ·have hx':=bP hx
   rw[yx hx,bsQ,xv,wL ab ab,show(((d+1:Nat):Int)-1)=(d:Int) by omega,ih x K ab ab (zKb hn hx') (zy1 hs hx')];rfl
def Yk{e:Expr}(h:zo8 e=bf):kY e<=5000/\kT e=bf:=by
 unfold zo8 at h;simp only[bn,aW]at h;exact h
def ZZ{e:Expr}(h:zo8 e=bf):jV e=bc (okE 12 e):=by
 unfold jV;obtain⟨h1,h2⟩:=Yk h;rw[xv,show(12:Int)=((12:Nat):Int) from rfl,zKc 12 e KK (j5 ab) ab ab h2];rfl
def zei{a b:Int}{l:List Int}(h:l.length<1000):yd a b l=bc (l.all λn=>decide (a<=n)&&decide (n<=b)):=by
 unfold yd;rw[zky l (λn=>decide (a<=n)&&decide (n<=b)) (Ab a b l (bg l:Nat)) (λq=>aN (idx l q) λx1=>(bif (decide (x1<a))then bc bf else bc (decide (x1>b)))) ab (λK q=>?_) λi x hx=>?_]
 ·cases l.all λn=>decide (a<=n)&&decide (n<=b)<;>rfl
 ·rw[Ab]
  simp only[cL]
 ·rw[yx hx,bsQ]
  by_cases h1:a<=x
  ·rw[df (show ¬x<a by omega),dt h1,cf,cA]
   by_cases h2:x<=b
   ·rw[dt h2,df (show ¬x>b by omega)];rfl
   ·rw[df h2,dt (show x>b by omega)];rfl
  ·rw[dt (show x<a by omega),df h1];rfl
def Ai{a b x:Int}:yd a b [x]=bc (pd (a<=x/\x<=b)):=by
 rw[zei af];exact aQ bc (Ae af)
def Zh{a b x y:Int}:yd a b [x,y]=bc (pd ((a<=x/\x<=b)/\(a<=y/\y<=b))):=by
 rw[zei af];exact aQ bc (Ae af)
def zRp{a b x y z:Int}:yd a b [x,y,z]=bc (pd ((a<=x/\x<=b)/\(a<=y/\y<=b)/\(a<=z/\z<=b))):=by
 rw[zei af];exact aQ bc (Ae af)
def zD9:Expr:=⟨0,0,[],[],[]⟩
def Vd(r:zX):Prop :=
 (0<=r.aM/\r.aM<=3)/\(r.aM=0->okE 12 r.Test=bf)/\(¬r.aM=0->r.Test=zD9) /\
 (r.aM=1->(0<=r.zx.Side/\r.zx.Side<=3)/\(0<=r.zx.Base/\r.zx.Base<=4096)/\(0<=r.zx.Num/\r.zx.Num<=4096)/\(1<=r.zx.Den/\r.zx.Den<=4096))/\(¬r.aM=1->r.zx=⟨0,0,0,0⟩) /\
 (r.aM=2->1<=r.Uses/\r.Uses<=63)/\(r.aM=3->(0<=r.Uses/\r.Uses<=5)/\(0<=r.Other/\r.Other<=5)/\(0<=r.N/\r.N<=1048576)) /\
 (¬r.aM=2->¬r.aM=3->r.Uses=0)/\(¬r.aM=3->r.Other=0/\r.N=0)
def zXx(r:zX):Prop:=(0<=r.From/\r.From<=1073741824)/\(0<=r.Grace/\r.Grace<=1073741824)/\(0<=r.Until/\r.Until<=1073741824)/\(r.Until=0∨r.From<r.Until)
def VX(r:zX):Prop:=((r.aB.all zD=bf/\r.Except.all zD=bf)/\zXx r)/\Vd r
def zpb{l:List ak}(h:zT4 l=bf):l.length<=3000/\∀s∈l,s.length<=30:=by
 unfold zT4 at h;simp only[bn,aW,bj]at h;exact⟨h.2,h.1⟩
def Yl{r:zX}(h:zD4 r=bf):r.aL.length<=30/\(r.aB.length<=3000/\∀s∈r.aB,s.length<=30)/\(r.Except.length<=3000/\∀s∈r.Except,s.length<=30)/\zo8 r.Test=bf:=by
 unfold zD4 at h;simp only[bn,aW]at h;exact⟨h.1,zpb h.2.1,zpb h.2.2.1,h.2.2.2⟩
def zy2{e:Expr}(h:zo8 e=bf):Af e:=by
 have:=(Yk h).1;unfold Af;omega
def zEa{A B C:Bool}{un fr:Int}:((bif (!A)then bc bf else(bif (!B)then bc bf else(bif (!C)then bc bf else(bif (!(decide (un=0)))then bc (decide (un<=fr))else bc bd)))):Option Bool)=bc (!(A&&(B&&(C&&pd (un=0∨fr<un))))):=by
 have:pd (un=0∨fr<un)=(decide (un=0)||decide (fr<un)):=(Ae af).symm;rw[this]
 have lt:decide (un<=fr)=!(decide (fr<un)):=by
  by_cases h:un<=fr
  ·rw[dt h,df ab];rfl
  ·rw[df h,dt ab];rfl
 rw[lt];cases A<;>cases B<;>cases C<;>cases decide (un=0)<;>rfl
def VY{p:Prop}(h:p):pd p=bf:=vU.2 h
def zEb{r:zX}(h:zD4 r=bf):Ac r=bc (pd (VX r)):=by
 obtain⟨_,⟨z1,z2⟩,⟨x1,x2⟩,te⟩:=Yl h;obtain⟨nm,zs,ex,fr,un,gr,va,ki,t,⟨ps,pb,pn,pdn⟩,us,ot,n⟩:=r;simp only at z1 z2 x1 x2 te;have n1:=zkz (u:=bd) (l:=zs) ab (λs hs=>by have:=z2 s hs;omega);have n2:=zkz (u:=bd) (l:=ex) ab (λs hs=>by have:=x2 s hs;omega);rw[ZY]at n1 n2
 have sm:∀x,qp ⟨nm,zs,ex,fr,un,gr,va,ki,t,⟨ps,pb,pn,pdn⟩,us,ot,n⟩ x=bc (pd ((⟨nm,zs,ex,fr,un,gr,va,ki,t,⟨ps,pb,pn,pdn⟩,us,ot,n⟩:zX)=x)):=λx=>zo6 (a:=⟨nm,zs,ex,fr,un,gr,va,ki,t,⟨ps,pb,pn,pdn⟩,us,ot,n⟩) (by show zs.length<_;omega) (by show ex.length<_;omega) (zy2 te)
 have hp:pd (VX ⟨nm,zs,ex,fr,un,gr,va,ki,t,⟨ps,pb,pn,pdn⟩,us,ot,n⟩)=((zs.all zD&&(ex.all zD&&(pd ((0<=fr/\fr<=1073741824)/\(0<=gr/\gr<=1073741824)/\(0<=un/\un<=1073741824))&&pd (un=0∨fr<un))))&&pd (Vd ⟨nm,zs,ex,fr,un,gr,va,ki,t,⟨ps,pb,pn,pdn⟩,us,ot,n⟩)):=by
  refine(Ae ?_).symm;simp only[bn,vU,VX,zXx];constructor
  ·rintro⟨⟨a,b,⟨c,d,e⟩,f⟩,g⟩;exact⟨⟨⟨a,b⟩,c,d,e,f⟩,g⟩
  ·rintro⟨⟨⟨a,b⟩,c,d,e,f⟩,g⟩;exact⟨⟨a,b,⟨c,d,e⟩,f⟩,g⟩
 rw[hp];unfold Ac;simp only[n1,n2,zRp,bsQ];rw[zEa,bsQ];cases hh:(zs.all zD&&(ex.all zD&&(pd ((0<=fr/\fr<=1073741824)/\(0<=gr/\gr<=1073741824)/\(0<=un/\un<=1073741824))&&pd (un=0∨fr<un))))
 ·rfl
 simp only[bW,cf,cA];by_cases k0:ki=0
 ·subst k0
  simp only[decide_true,ctQ,xv,ZZ te,bsQ]
  have hb:pd (Vd ⟨nm,zs,ex,fr,un,gr,va,0,t,⟨ps,pb,pn,pdn⟩,us,ot,n⟩)=(okE 12 t&&pd ((⟨nm,zs,ex,fr,un,gr,va,0,t,⟨ps,pb,pn,pdn⟩,us,ot,n⟩:zX)=⟨nm,zs,ex,fr,un,gr,va,0,t,⟨0,0,0,0⟩,0,0,0⟩)):=by
   refine(Ae ?_).symm;simp only[bn,vU,Vd,zX.mk.injEq,zx.mk.injEq];simp
  rw[hb,sm];cases okE 12 t<;>rfl
 ·by_cases k1:ki=1
  ·subst k1
   simp only[df k0,decide_true,ctQ,cf,xv,Ai,Zh,bsQ]
   have hb:pd (Vd ⟨nm,zs,ex,fr,un,gr,va,1,t,⟨ps,pb,pn,pdn⟩,us,ot,n⟩)=(pd (0<=ps/\ps<=3)&&(pd ((0<=pb/\pb<=4096)/\(0<=pn/\pn<=4096))&&(pd (1<=pdn/\pdn<=4096)&&pd ((⟨nm,zs,ex,fr,un,gr,va,1,t,⟨ps,pb,pn,pdn⟩,us,ot,n⟩:zX)=⟨nm,zs,ex,fr,un,gr,va,1,⟨0,0,[],[],[]⟩,⟨ps,pb,pn,pdn⟩,0,0,0⟩)))):=by
    refine(Ae ?_).symm;simp only[bn,vU,Vd,zX.mk.injEq,zx.mk.injEq,zD9];simp
    grind
   rw[hb];cases pd (0<=ps/\ps<=3)
   ·rfl
   cases pd ((0<=pb/\pb<=4096)/\(0<=pn/\pn<=4096))
   ·rfl
   cases pd (1<=pdn/\pdn<=4096)
   ·rfl
   simp only[ctQ,bsQ,sm,cA]
  ·by_cases k2:ki=2
   ·subst k2
    simp only[df k0,df k1,decide_true,ctQ,cf,xv,Ai,Zh,bsQ]
    have hb:pd (Vd ⟨nm,zs,ex,fr,un,gr,va,2,t,⟨ps,pb,pn,pdn⟩,us,ot,n⟩)=(pd (1<=us/\us<=63)&&pd ((⟨nm,zs,ex,fr,un,gr,va,2,t,⟨ps,pb,pn,pdn⟩,us,ot,n⟩:zX)=⟨nm,zs,ex,fr,un,gr,va,2,⟨0,0,[],[],[]⟩,⟨0,0,0,0⟩,us,0,0⟩)):=by
     refine(Ae ?_).symm;simp only[bn,vU,Vd,zX.mk.injEq,zx.mk.injEq,zD9];simp
     grind
    rw[hb];cases pd (1<=us/\us<=63)
    ·rfl
    simp only[ctQ,bsQ,sm,cA]
   ·by_cases k3:ki=3
    ·subst k3
     simp only[df k0,df k1,df k2,decide_true,ctQ,cf,xv,Ai,Zh,bsQ]
     have hb:pd (Vd ⟨nm,zs,ex,fr,un,gr,va,3,t,⟨ps,pb,pn,pdn⟩,us,ot,n⟩)=(pd ((0<=us/\us<=5)/\(0<=ot/\ot<=5))&&(pd (0<=n/\n<=1048576)&&pd ((⟨nm,zs,ex,fr,un,gr,va,3,t,⟨ps,pb,pn,pdn⟩,us,ot,n⟩:zX)=⟨nm,zs,ex,fr,un,gr,va,3,⟨0,0,[],[],[]⟩,⟨0,0,0,0⟩,us,ot,n⟩))):=by
      refine(Ae ?_).symm;simp only[bn,vU,Vd,zX.mk.injEq,zx.mk.injEq,zD9];simp
      grind
     rw[hb];cases pd ((0<=us/\us<=5)/\(0<=ot/\ot<=5))
     ·rfl
     cases pd (0<=n/\n<=1048576)
     ·rfl
     simp only[ctQ,bsQ,sm,cA]
    ·simp only[df k0,df k1,df k2,df k3,cf,bsQ]
     have hb:pd (Vd ⟨nm,zs,ex,fr,un,gr,va,ki,t,⟨ps,pb,pn,pdn⟩,us,ot,n⟩)=bd:=by
      refine(Ae (b:=bd) ⟨λh=>(by cases h),λh=>?_⟩).symm;obtain⟨⟨h1,h2⟩,_⟩:=h;simp only at h1 h2;omega
     rw[hb]
def VZ{α:Type}(l:List α)(P:α->Prop)(L:Nat->Int->Option (Bool⊕Unit))(B:Int->Option Bool)(hs:l.length<4611686018427387904)
  (hL:∀K q,L (K+1) q=(bif (decide (q<((bg l:Nat):Int)))then(B q).bind λr=>(bif r then bc (bo bd)else L K (w64 (q+1)))else bc (br ())))
  (hB:∀(i:Nat) x,l[i]?=bc x->B (i:Int)=bc (!(pd (P x)))):L KK 0=bc (bif pd (∀x∈l,P x)then br ()else bo bd):=by
 rw[zky l (λx=>pd (P x)) L B ab hL hB];have:l.all (λx=>pd (P x))=pd (∀x∈l,P x):=Ae (by simp only[bj,vU]);rw[this]
def Qo(p:zg):Prop:=(0<=p.X/\p.X<=1048576)/\(0<=p.Y/\p.Y<=1048576)/\(0<=p.Z_/\p.Z_<=4096)
def zy3(p:zg):Prop:=(-4096<=p.X/\p.X<=4096)/\(-4096<=p.Y/\p.Y<=4096)/\(1<=p.Z_/\p.Z_<=4096)
def Aj(t:au):Prop:=(t.Rows.length<=60/\jJ bf [] (t.Rows.map aw.aL)=bf)/\(-1099511627776<=t.Else/\t.Else<=1099511627776)/\∀x∈t.Rows,-1099511627776<=x.N/\x.N<=1099511627776
def zGv(c:Cap):Prop:=(0<=c.Load/\c.Load<=2)/\(0<=c.Limit/\c.Limit<=1099511627776)/\Aw c.aA
def Ym(v:av):Prop:=(0<=v.Least/\v.Least<=20)/\(1<=((v.Targets.length:Nat):Int)/\((v.Targets.length:Nat):Int)<=20)/\Qo v.Eye/\∀x∈v.Targets,Qo x
def vW{α:Type}(l:List α)(g:α->ak)(m:Nat):Prop:=l.length<=m/\jJ bf [] (l.map g)=bf
def zRq(p:yJ):Prop:=(∀d∈p.aF,okE 12 d.Body=bf)/\(∀t∈p.Tables,Aj t)/\(∀z∈p.aB,Aw z.aA)/\(∀r∈p.aE,VX r)/\(∀c∈p.aJ,zGv c)/\(∀v∈p.aG,Ym v)/\(∀d∈p.aK,zy3 d)
def uH(p:yJ):Prop :=
 (vW p.aF Def.aL 60/\vW p.Tables au.aL 60/\vW p.aB yD.aL 60/\vW p.aE zX.aL 200/\vW p.aJ Cap.aL 30/\vW p.aG av.aL 60)/\zRq p/\(0<=p.aI/\p.aI<=24)/\p.aK.length<=24
def V0{α:Type}{l:List α}{g:α->ak}{m:Nat}:(decide (l.length<=m)&&jJ bf [] (l.map g))=pd (vW l g m):=Ae (by simp[vW])
def zRr{l:List Def}(hs:l.length<=1000)(hn:∀x∈l,x.aL.length<4611686018427387904):za2 l 60=bc (pd (vW l Def.aL 60)):=by
 rw[<- V0];unfold za2
 exact qy l Def.aL 60 (Jv l 60 (bg l:Nat)) (λx=>bc x.aL) hs hn (λK q=>rfl) λx=>rfl
def zRs{l:List au}(hs:l.length<=1000)(hn:∀x∈l,x.aL.length<4611686018427387904):QW l 60=bc (pd (vW l au.aL 60)):=by
 rw[<- V0];unfold QW
 exact qy l au.aL 60 (uO l 60 (bg l:Nat)) (λx=>bc x.aL) hs hn (λK q=>rfl) λx=>rfl
def zRt{l:List yD}(hs:l.length<=1000)(hn:∀x∈l,x.aL.length<4611686018427387904):QX l 60=bc (pd (vW l yD.aL 60)):=by
 rw[<- V0];unfold QX
 exact qy l yD.aL 60 (uP l 60 (bg l:Nat)) (λx=>bc x.aL) hs hn (λK q=>rfl) λx=>rfl
def zRu{l:List zX}(hs:l.length<=1000)(hn:∀x∈l,x.aL.length<4611686018427387904):QY l 200=bc (pd (vW l zX.aL 200)):=by
 rw[<- V0];unfold QY
 exact qy l zX.aL 200 (uQ l 200 (bg l:Nat)) (λx=>bc x.aL) hs hn (λK q=>rfl) λx=>rfl
def zRv{l:List Cap}(hs:l.length<=1000)(hn:∀x∈l,x.aL.length<4611686018427387904):QZ l 30=bc (pd (vW l Cap.aL 30)):=by
 rw[<- V0];unfold QZ
 exact qy l Cap.aL 30 (uR l 30 (bg l:Nat)) (λx=>bc x.aL) hs hn (λK q=>rfl) λx=>rfl
def zRw{l:List av}(hs:l.length<=1000)(hn:∀x∈l,x.aL.length<4611686018427387904):Q0 l 60=bc (pd (vW l av.aL 60)):=by
 rw[<- V0];unfold Q0
 exact qy l av.aL 60 (uS l 60 (bg l:Nat)) (λx=>bc x.aL) hs hn (λK q=>rfl) λx=>rfl
def zRx{l:List aw}(hs:l.length<=1000)(hn:∀x∈l,x.aL.length<4611686018427387904):Q1 l 60=bc (pd (vW l aw.aL 60)):=by
 rw[<- V0];unfold Q1
 exact qy l aw.aL 60 (uT l 60 (bg l:Nat)) (λx=>bc x.aL) hs hn (λK q=>rfl) λx=>rfl
structure zXy(p:yJ):Prop where
 d:p.aF.length<=300
 t:p.Tables.length<=300
 z:p.aB.length<=300
 r:p.aE.length<=300
 c:p.aJ.length<=300
 v:p.aG.length<=300
 s:p.aK.length<=64
 ds:∀x∈p.aF,x.aL.length<=30/\zo8 x.Body=bf
 ts:∀x∈p.Tables,x.aL.length<=30/\x.Rows.length<=64/\∀y∈x.Rows,y.aL.length<=30
 zs:∀x∈p.aB,x.aL.length<=30/\x.aA.length<=64
 rs:∀x∈p.aE,zD4 x=bf
 cs:∀x∈p.aJ,x.aL.length<=30/\x.aA.length<=64
 vs:∀x∈p.aG,x.aL.length<=30/\x.Targets.length<=64
def Qp{o:Option Bool}{f:Option Bool}{g r:Prop}(h:o=bc (pd g))(hr:g->f=bc (!(pd r))):(o.bind λx=>bif (!x)then bc bf else f)=bc (!(pd (g/\r))):=by
 rw[Ag]
 exact zJ6 h λhg=>hr (vU.1 hg)
def qJ{o:Option Bool}{g:Prop}(h:o=bc (pd g)):(o.bind λx=>bc (!x))=bc (!(pd g)):=by rw[h];rfl
def pdb{b:Bool}:bc b=bc (pd (b=bf)):=aQ bc (Ae Iff.rfl)
section code
variable{c0:List Def}{c1:Int}{c2:List au}{c3:List yD}{c4:List zX}{c5:List Cap}{c6:List av}{c7:List zg}{c8:Int}
def Rt_L1(hl:c0.length<=300)(h:∀x∈c0,x.aL.length<=30/\zo8 x.Body=bf):oz c0 (bg c0:Nat) c2 c3 c4 c5 c6 c7 c8 KK 0=bc (bif pd (∀d∈c0,okE 12 d.Body=bf)then .inr ()else .inl bd):=by
 refine VZ c0 (λd=>okE 12 d.Body=bf) (oz c0 (bg c0:Nat) c2 c3 c4 c5 c6 c7 c8) (λq=>aN (idx c0 q) λx1=>aN (jV (Expr.mk x1.Body.Op x1.Body.N x1.Body.S x1.Body.Key x1.Body.Args)) λx2=>bc (!x2)) ab (λK q=>?_) λi x hx=>?_
 ·rw[oz]
  simp only[cL,bsQ]
 ·rw[yx hx,bsQ,xv]
  exact qJ ((ZZ (h x (bP hx)).2).trans pdb)
def Rt_L2{c0:List au}{c2:List Def}(hl:c0.length<=300)(h:∀x∈c0,x.aL.length<=30/\x.Rows.length<=64/\∀y∈x.Rows,y.aL.length<=30):qq c0 (bg c0:Nat) c2 c3 c4 c5 c6 c7 c8 KK 0=bc (bif pd (∀d∈c0,Aj d)then .inr ()else .inl bd):=by
 have key:=zkw c0 (λx=>pd (Aj x)) (bc (br ())) (bc (bo bd)) (qq c0 (bg c0:Nat) c2 c3 c4 c5 c6 c7 c8) ab (λK i x hx=>?_) (λK=>by rw[qq,jI];rfl)
 ·have:c0.all (λx=>pd (Aj x))=pd (∀x∈c0,Aj x):=Ae (by simp only[bj,vU])
  rw[key,this];cases pd (∀x∈c0,Aj x)<;>rfl
 ·have hi:=Ah hx
  obtain⟨_,h2,h3⟩:=h x (bP hx);rw[qq,A5 hx,ctQ,yx hx,bsQ,xE ab];rw[Qp (zRx (l:=x.Rows) ab (λy hy=>by have:=h3 y hy;omega)) (λ_=>qJ Ai),bsQ]
  have hp:pd (Aj x)=(pd (vW x.Rows aw.aL 60/\-1099511627776<=x.Else/\x.Else<=1099511627776)&&pd (∀y∈x.Rows,-1099511627776<=y.N/\y.N<=1099511627776)):=by
   rw[<- Ag];exact JF ⟨λ⟨a,b,c⟩=>⟨⟨a,b⟩,c⟩,λ⟨⟨a,b⟩,c⟩=>⟨a,b,c⟩⟩
  simp only[hp];cases pd (vW x.Rows aw.aL 60/\-1099511627776<=x.Else/\x.Else<=1099511627776)
  ·rfl
  rw[bW,cf,cA];rw[VZ x.Rows (λy=>-1099511627776<=y.N/\y.N<=1099511627776) (Hr c0 (bg c0:Nat) (i:Int) x.Rows (bg x.Rows:Nat) c2 c3 c4 c5 c6 c7 c8) (λq=>aN (idx x.Rows q) λx1=>aN (yd (-1099511627776) 1099511627776 ([x1.N]:List Int)) λx2=>bc (!x2)) ab (λK q=>?_) λj y hy=>?_]
  ·cases pd (∀y∈x.Rows,-1099511627776<=y.N/\y.N<=1099511627776)<;>rfl
  ·rw[Hr]
   simp only[cL,bsQ]
  ·rw[yx hy,bsQ]
   exact qJ Ai
def Rt_L4{c0:List yD}{c2:List Def}{c3:List au}(hl:c0.length<=300):oA c0 (bg c0:Nat) c2 c3 c4 c5 c6 c7 c8 KK 0=bc (bif pd (∀d∈c0,Aw d.aA)then .inr ()else .inl bd):=by
 refine VZ c0 (λd=>Aw d.aA) (oA c0 (bg c0:Nat) c2 c3 c4 c5 c6 c7 c8) (λq=>aN (idx c0 q) λx1=>aN (ve x1.aA) λx2=>bc (!x2)) ab (λK q=>?_) λi x hx=>?_
 ·rw[oA]
  simp only[cL,bsQ]
 ·rw[yx hx,bsQ]
  exact qJ zeh
def Rt_L5{c0:List zX}{c2:List Def}{c3:List au}{c4:List yD}(hl:c0.length<=300)(h:∀x∈c0,zD4 x=bf):oB c0 (bg c0:Nat) c2 c3 c4 c5 c6 c7 c8 KK 0=bc (bif pd (∀d∈c0,VX d)then .inr ()else .inl bd):=by
 refine VZ c0 VX (oB c0 (bg c0:Nat) c2 c3 c4 c5 c6 c7 c8) (λq=>aN (idx c0 q) λx1=>aN (Ac (zX.mk x1.aL x1.aB x1.Except x1.From x1.Until x1.Grace x1.Vary x1.aM (Expr.mk x1.Test.Op x1.Test.N x1.Test.S x1.Test.Key x1.Test.Args) x1.zx x1.Uses x1.Other x1.N)) λx2=>bc (!x2)) ab (λK q=>?_) λi x hx=>?_
 ·rw[oB]
  simp only[cL,bsQ]
 ·rw[yx hx,bsQ,xv]
  exact qJ (zEb (h x (bP hx)))
def Rt_L6{c0:List Cap}{c2:List Def}{c3:List au}{c4:List yD}{c5:List zX}(hl:c0.length<=300):oC c0 (bg c0:Nat) c2 c3 c4 c5 c6 c7 c8 KK 0=bc (bif pd (∀d∈c0,zGv d)then .inr ()else .inl bd):=by
 refine VZ c0 zGv (oC c0 (bg c0:Nat) c2 c3 c4 c5 c6 c7 c8) (λq=>aN (idx c0 q) λx1=>(aN (yd 0 2 ([x1.Load]:List Int)) λx3=>(bif (!x3)then bc bf else(yd 0 1099511627776 ([x1.Limit]:List Int)).bind λx4=>(bif (!x4)then bc bf else(ve x1.aA).bind λx5=>bc (!x5))))) ab (λK q=>?_) λi x hx=>?_
 ·rw[oC]
  simp only[cL]
 ·rw[yx hx,bsQ]
  exact Qp Ai λ_=>Qp Ai λ_=>qJ zeh
def Rt_L7{c0:List av}{c2:List Def}{c3:List au}{c4:List yD}{c5:List zX}{c6:List Cap}(hl:c0.length<=300)(h:∀x∈c0,x.aL.length<=30/\x.Targets.length<=64):qs c0 (bg c0:Nat) c2 c3 c4 c5 c6 c7 c8 KK 0=bc (bif pd (∀d∈c0,Ym d)then .inr ()else .inl bd):=by
 have key:=zkw c0 (λx=>pd (Ym x)) (bc (br ())) (bc (bo bd)) (qs c0 (bg c0:Nat) c2 c3 c4 c5 c6 c7 c8) ab (λK i x hx=>?_) (λK=>by rw[qs,jI];rfl)
 ·have:c0.all (λx=>pd (Ym x))=pd (∀x∈c0,Ym x):=Ae (by simp only[bj,vU])
  rw[key,this];cases pd (∀x∈c0,Ym x)<;>rfl
 ·have hi:=Ah hx
  obtain⟨_,h2⟩:=h x (bP hx);rw[qs,A5 hx,ctQ,yx hx,bsQ,xE ab];rw[Qp Ai (λ_=>qJ Ai),bsQ]
  have hp:pd (Ym x)=(pd ((0<=x.Least/\x.Least<=20)/\(1<=((x.Targets.length:Nat):Int)/\((x.Targets.length:Nat):Int)<=20))&&pd (∀y∈([x.Eye]++x.Targets),Qo y)):=by
   rw[<- Ag]
   exact JF ⟨λ⟨a,b,c,d⟩=>⟨⟨a,b⟩,λy hy=>by
    rcases bz.1 hy with h1|h1
    ·rw[msQ.1 h1];exact c
    ·exact d y h1⟩,λ⟨⟨a,b⟩,c⟩=>⟨a,b,c _ af,λy hy=>c y (by simp[hy])⟩⟩
  simp only[hp];cases pd ((0<=x.Least/\x.Least<=20)/\(1<=((x.Targets.length:Nat):Int)/\((x.Targets.length:Nat):Int)<=20))
  ·rfl
  have hlen:([x.Eye]++x.Targets).length<=65:=by simp;omega
  rw[bW,cf,cA,zE ab,bsQ];rw[VZ ([x.Eye]++x.Targets) Qo (Hs c0 (bg c0:Nat) (i:Int) (bg ([x.Eye]++x.Targets):Nat) c2 c3 c4 c5 c6 c7 c8 ([x.Eye]++x.Targets)) (λq=>aN (grd (0<=q/\q<(((bg ([x.Eye]++x.Targets)):Nat):Int))) λ_=>aN ((([x.Eye]++x.Targets))[(cg q)]?) λx2=>(aN (yd 0 1048576 ([x2.X,x2.Y]:List Int)) λx4=>(bif (!x4)then bc bf else(yd 0 4096 ([x2.Z_]:List Int)).bind λx5=>bc (!x5)))) ab (λK q=>?_) λj y hy=>?_]
  ·cases pd (∀y∈([x.Eye]++x.Targets),Qo y)<;>rfl
  ·rw[Hs]
   simp only[cL]
  ·have hj:=Ah hy
   rw[zE ab,bsQ,dQ,hy,bsQ,Qp Zh (λ_=>qJ Ai)];exact aQ (λb=>bc (!b)) (JF ⟨λ⟨⟨a,b⟩,c⟩=>⟨a,b,c⟩,λ⟨a,b,c⟩=>⟨⟨a,b⟩,c⟩⟩)
def Rt_L9{c0:List zg}{c2:List Def}{c3:List au}{c4:List yD}{c5:List zX}{c6:List Cap}{c7:List av}(hl:c0.length<=64):oD c0 (bg c0:Nat) c2 c3 c4 c5 c6 c7 c8 KK 0=bc (bif pd (∀d∈c0,zy3 d)then .inr ()else .inl bd):=by
 refine VZ c0 zy3 (oD c0 (bg c0:Nat) c2 c3 c4 c5 c6 c7 c8) (λq=>aN (idx c0 q) λx1=>(aN (yd (-4096) 4096 ([x1.X,x1.Y]:List Int)) λx3=>(bif (!x3)then bc bf else(yd 1 4096 ([x1.Z_]:List Int)).bind λx4=>bc (!x4)))) ab (λK q=>?_) λi x hx=>?_
 ·rw[oD]
  simp only[cL]
 ·rw[yx hx,bsQ,Qp Zh (λ_=>qJ Ai)]
  exact aQ (λb=>bc (!b)) (JF ⟨λ⟨⟨a,b⟩,c⟩=>⟨a,b,c⟩,λ⟨a,b,c⟩=>⟨⟨a,b⟩,c⟩⟩)
end code
def zvt{p:yJ}(h:zXy p):VI p=bc (pd (uH p)):=by
 unfold VI;have hd:=h.d;have ht:=h.t;have hz:=h.z;have hr:=h.r;have hc:=h.c;have hv:=h.v;have hs:=h.s;rw[Qp (zRr (l:=p.aF) ab (λx hx=>by have:=(h.ds x hx).1;omega)) λ_=>Qp (zRs (l:=p.Tables) ab (λx hx=>by have:=(h.ts x hx).1;omega)) λ_=>Qp (zRt (l:=p.aB) ab (λx hx=>by have:=(h.zs x hx).1;omega)) λ_=>Qp (zRu (l:=p.aE) ab (λx hx=>by have:=(Yl (h.rs x hx)).1;omega)) λ_=>Qp (zRv (l:=p.aJ) ab (λx hx=>by have:=(h.cs x hx).1;omega)) λ_=>qJ (zRw (l:=p.aG) ab (λx hx=>by have:=(h.vs x hx).1;omega)),bsQ]
 have hp:pd (uH p)=(pd (vW p.aF Def.aL 60/\vW p.Tables au.aL 60/\vW p.aB yD.aL 60/\vW p.aE zX.aL 200/\vW p.aJ Cap.aL 30/\vW p.aG av.aL 60)&&pd ((∀d∈p.aF,okE 12 d.Body=bf)/\(∀t∈p.Tables,Aj t)/\(∀z∈p.aB,Aw z.aA)/\(∀r∈p.aE,VX r)/\(∀c∈p.aJ,zGv c)/\(∀v∈p.aG,Ym v)/\(∀d∈p.aK,zy3 d)/\(0<=p.aI/\p.aI<=24)/\(0<=((p.aK.length:Nat):Int)/\((p.aK.length:Nat):Int)<=24))):=by
  rw[<- Ag];exact JF ⟨λ⟨a,⟨b1,b2,b3,b4,b5,b6,b7⟩,c,d⟩=>⟨a,b1,b2,b3,b4,b5,b6,b7,c,ab⟩,λ⟨a,b1,b2,b3,b4,b5,b6,b7,c,d⟩=>⟨a,⟨b1,b2,b3,b4,b5,b6,b7⟩,c,ab⟩⟩
 rw[hp];cases pd (vW p.aF Def.aL 60/\vW p.Tables au.aL 60/\vW p.aB yD.aL 60/\vW p.aE zX.aL 200/\vW p.aJ Cap.aL 30/\vW p.aG av.aL 60)
 ·rfl
 rw[bW,cf,cA]
 exact Yj (Rt_L1 hd h.ds) λ_=>Yj (Rt_L2 ht h.ts) λ_=>Yj (Rt_L4 hz) λ_=>Yj (Rt_L5 hr h.rs) λ_=>Yj (Rt_L6 hc) λ_=>Yj (Rt_L7 hv h.vs) λ_=>Yj (Rt_L9 hs) λ_=>by rw[Zh];rfl
section ref
variable{c0:List Def}{c1:List au}{c2:List yD}{c3:List zX}{c4:List Cap}{c5:List av}{c6:List zg}{c7:Int}
end ref
def zvu:∀(k n:Nat),n<10 ^ (k+1)->(Lib.decDigits n).length<=k+1
 |k,n,h=>by
  rw[Lib.decDigits];by_cases h10:n<10
  ·rw[dif_pos h10,ez];omega
  ·cases k with
   |zero=>omega
   |succ k =>
    have:=zvu k (n / 10) (by rw[gh]at h;omega);rw[dif_neg h10,la,ez];omega
def zej{n:Nat}(h:n<=9223372036854775807):(Lib.decDigits n).length<=21:=by
 have:=zvu 19 n ab;omega
def Ak(n:Int):Prop:=-9223372036854775807<=n/\n<=9223372036854775807
def V1{n:Int}:Vc (.inl n)=if n<0 then 45::32::Lib.decDigits n.natAbs else Lib.decDigits n.toNat:=rfl
def zRy{n:Int}(h:Ak n):(Vc (.inl n)).length<=23:=by
 obtain⟨h0,h1⟩:=h;rw[V1];split
 ·have:=zej (n:=n.natAbs) ab
  simp only[lc];omega
 ·have:=zej (n:=n.toNat) ab
  omega
def zk0{n:Int}(h0:0<=n)(h1:n<=9223372036854775807):ZD n=bc (Lib.decDigits n.toNat):=by
 unfold ZD zuh;rw[zE ab,bsQ,Lib.itoa,aO ab]
def yo{a b:ak}(h:a.length+b.length<=140737488355328):yX a b=bc (((b.length:Nat):Int),a++b):=by
 unfold yX;rw[zE h];rfl
def zbi{a b:ak}(h:a.length+b.length<=140737488355328):Ad a b=bc (((b.length:Nat):Int),a++b):=by
 unfold Ad;rw[zE h];rfl
def Qq{a:ak}(h:a.length+2<=140737488355328):zzp a=bc (a++[32,41]):=by
 unfold zzp;rw[zE h];rfl
-- forms
def lvO(op:Int):Int:=if op=16 then 0 else if op=14 then 1 else if op=13 then 2 else if op=15 then 3 else if op=10∨op=11∨op=12 then 4 else if op=4∨op=5 then 5 else if op=6∨op=7∨op=8 then 6 else if op=9 then 7 else 8
def sgO(op:Int):ak:=if op=14 then zVx else if op=13 then zCv else if op=10 then qG else if op=11 then zfq else if op=12 then qF else if op=4 then zfo else if op=5 then yU else if op=6 then zfn else if op=7 then zfp else zfm
def op17{n:Int}(h0:0<=n)(h1:n<17):n=0∨n=1∨n=2∨n=3∨n=4∨n=5∨n=6∨n=7∨n=8∨n=9∨n=10∨n=11∨n=12∨n=13∨n=14∨n=15∨n=16:=ab
def zlw(op:Int):Bool:=decide (4<=op/\op<=14/\¬op=9)
def zKd(k:Nat){c2 n:Int}{s ky:ak}{az:List Expr}(h0:0<=c2)(h1:c2<17):((Ji ([(zd.mk zVx 14 1),(zd.mk zCv 13 2),(zd.mk qG 10 4),(zd.mk zfq 11 4),(zd.mk qF 12 4),(zd.mk zfo 4 5),(zd.mk yU 5 5),(zd.mk zfn 6 6),(zd.mk zfp 7 6),(zd.mk zfm 8 6)]:List zd) (10:Nat) c2 n s ky az (k+11) 0).bind (wq bc λ_=>(bif (decide (c2=16))then bc (0,([]:ak))else(bif (decide (c2=15))then bc (3,([]:ak))else(bif (decide (c2=9))then bc (7,([]:ak))else bc (8,([]:ak)))))))=bc (lvO c2,bif zlw c2 then sgO c2 else[]):=by
 obtain rfl|rfl|rfl|rfl|rfl|rfl|rfl|rfl|rfl|rfl|rfl|rfl|rfl|rfl|rfl|rfl|rfl:=op17 h0 h1<;>rfl
def zEc{e:Expr}(h0:0<=e.Op)(h1:e.Op<17):za0 e=bc (lvO e.Op,bif zlw e.Op then sgO e.Op else[]):=by
 unfold za0 vc
 obtain⟨k,hk⟩:∃k,KK=k+11:=⟨KK-11,by have:=j5 (n:=100) ab;omega⟩
 rw[bsQ,hk];exact zKd k h0 h1
def zy4(op:Int):0<=lvO op/\lvO op<=8:=by unfold lvO;(repeat' split)<;>omega
def zEd(op:Int):(sgO op).length<=3:=by unfold sgO;(repeat' split)<;>decide
def atS(t:ak)(lv form:Int):ak:=if lv<form then zgy++(t++zgx)else t
def xD(e:Expr)(i:Nat):Expr:=e.Args.getD i zD9
def zO:Nat->Expr->ak
 |0,_=>[]
 |d+1,e =>
  if e.Op=0 then Lib.decDigits e.N.toNat else if e.Op=1 then e.S else if e.Op=2 then vb++(e.S++(t__++e.Key))else if e.Op=3 then oU++e.S
  else if e.Op=16 then oS++(atS (zO d (xD e 0)) (lvO (xD e 0).Op) 0++(yN++(atS (zO d (xD e 1)) (lvO (xD e 1).Op) 0++(yM++atS (zO d (xD e 2)) (lvO (xD e 2).Op) 0))))
  else if e.Op=15 then WT++atS (zO d (xD e 0)) (lvO (xD e 0).Op) 3
  else if e.Op=9 then JV++atS (zO d (xD e 0)) (lvO (xD e 0).Op) 7
  else atS (zO d (xD e 0)) (lvO (xD e 0).Op) (if lvO e.Op=4 then 5 else lvO e.Op)++(t__++(sgO e.Op++(t__++atS (zO d (xD e 1)) (lvO (xD e 1).Op) (lvO e.Op+1))))
def AN(t:ak)(a b:Int):(atS t a b).length<=t.length+4:=by
 unfold atS;split
 ·simp only[la,show zgy.length=2 from rfl,show zgx.length=2 from rfl];omega
 ·omega
def uY{s:ak}(h:zD s=bf):s.length<=20/\s≠[]:=by
 unfold zD at h;simp only[bn]at h;exact zvg h.1
def Zi{e:Expr}(h:xB e=bf):(0<=e.Op/\e.Op<17/\((e.Args.length:Nat):Int)=jx e.Op)/\(0<=e.N/\e.N<=1099511627776)/\e.S.length<=20/\e.Key.length<=20/\((e.Op=1∨e.Op=2∨e.Op=3)->zD e.S=bf)/\(e.Op=2->zD e.Key=bf):=by
 unfold xB at h;simp only[bn,aW]at h;obtain⟨h1,h2,h3,h4⟩:=h;refine⟨h1,?_,?_,?_,λho=>by rwa [aP ho]at h3,λho=>by rwa [aP ho]at h4⟩
 ·split at h2
  ·exact h2
  ·omega
 ·split at h3
  ·exact(uY h3).1
  ·rw[aY h3];decide
 ·split at h4
  ·exact(uY h4).1
  ·rw[aY h4];decide
def zvv:∀(d:Nat)(e:Expr),okE d e=bf->(zO d e).length<=100*4 ^ d
 |0,e,h=>by cases h
 |d+1,e,h=>by
  rw[okE,bn]at h;obtain⟨hh,ha⟩:=h;obtain⟨⟨h0,h1,hl⟩,⟨n0,n1⟩,hs,hk,_⟩:=Zi hh;have hp:0<4 ^ d:=Nat.pow_pos ab
  have arg:∀i,i<e.Args.length->(zO d (xD e i)).length<=100*4 ^ d:=λi hi=>by
   refine zvv d _ (bj.1 ha _ ?_);unfold xD;rw[ca,bA hi];exact List.getElem_mem hi
  rw[gh,zO];by_cases o0:e.Op=0
  ·rw[aP o0];have:=zej (n:=e.N.toNat) ab;omega
  rw[aO o0];by_cases o1:e.Op=1
  ·rw[aP o1];omega
  rw[aO o1];by_cases o2:e.Op=2
  ·rw[aP o2];simp only[la,show vb.length=6 from rfl,show t__.length=1 from rfl];omega
  rw[aO o2];by_cases o3:e.Op=3
  ·rw[aP o3];simp only[la,show oU.length=5 from rfl];omega
  rw[aO o3];by_cases o16:e.Op=16
  ·rw[aP o16]
   have:e.Args.length=3:=by rw[o16]at hl;have:jx 16=3:=rfl;omega
   have a0:=arg 0 ab;have a1:=arg 1 ab;have a2:=arg 2 ab;have b0:=AN (zO d (xD e 0)) (lvO (xD e 0).Op) 0;have b1:=AN (zO d (xD e 1)) (lvO (xD e 1).Op) 0;have b2:=AN (zO d (xD e 2)) (lvO (xD e 2).Op) 0;simp only[la,show oS.length=3 from rfl,show yN.length=6 from rfl,show yM.length=6 from rfl];omega
  rw[aO o16];by_cases o15:e.Op=15
  ·rw[aP o15]
   have:e.Args.length=1:=by rw[o15]at hl;have:jx 15=1:=rfl;omega
   have a0:=arg 0 ab;have b0:=AN (zO d (xD e 0)) (lvO (xD e 0).Op) 3;simp only[la,show WT.length=4 from rfl];omega
  rw[aO o15];by_cases o9:e.Op=9
  ·rw[aP o9]
   have:e.Args.length=1:=by rw[o9]at hl;have:jx 9=1:=rfl;omega
   have a0:=arg 0 ab;have b0:=AN (zO d (xD e 0)) (lvO (xD e 0).Op) 7;simp only[la,show JV.length=2 from rfl];omega
  rw[aO o9]
  have:e.Args.length=2:=by
   have:jx e.Op=2:=by unfold jx;rw[aO ab,aO ab,aO o16]
   omega
  have a0:=arg 0 ab;have a1:=arg 1 ab;have b0:=AN (zO d (xD e 0)) (lvO (xD e 0).Op) (if lvO e.Op=4 then 5 else lvO e.Op);have b1:=AN (zO d (xD e 1)) (lvO (xD e 1).Op) (lvO e.Op+1);have:=zEd e.Op;simp only[la,show t__.length=1 from rfl];omega
inductive OX:Nat->Expr->Prop
 |num {d:Nat} {n:Int}:0<=n->n<=1099511627776->OX (d+1) ⟨0,n,[],[],[]⟩
 |name {d:Nat} {s:ak}:zD s=bf->OX (d+1) ⟨1,0,s,[],[]⟩
 |table {d:Nat} {s k:ak}:zD s=bf->zD k=bf->OX (d+1) ⟨2,0,s,k,[]⟩
 |zone {d:Nat} {s:ak}:zD s=bf->OX (d+1) ⟨3,0,s,[],[]⟩
 |neg {d:Nat} {a:Expr}:OX d a->OX (d+1) ⟨9,0,[],[],[a]⟩
 |not {d:Nat} {a:Expr}:OX d a->OX (d+1) ⟨15,0,[],[],[a]⟩
 |cond {d:Nat} {a b c:Expr}:OX d a->OX d b->OX d c->OX (d+1) ⟨16,0,[],[],[a,b,c]⟩
 |bin {d:Nat} {op:Int} {a b:Expr}:zlw op=bf->OX d a->OX d b->OX (d+1) (Vr op a b)
def z0e{α:Type}{l:List α}(h:((l.length:Nat):Int)=0):l=[]:=List.length_eq_zero_iff.1 ab
def len1{α:Type}{l:List α}(h:((l.length:Nat):Int)=1):∃a,l=[a]:=List.length_eq_one_iff.1 ab
def len2{α:Type}{l:List α}(h:((l.length:Nat):Int)=2):∃a b,l=[a,b]:=by
 match l,h with
 |[a,b],_=>exact⟨a,b,rfl⟩
 |[],h=>simp at h
 |[a],h=>simp at h
 |a::b::c::r,h=>simp only[lc]at h;omega
def len3{α:Type}{l:List α}(h:((l.length:Nat):Int)=3):∃a b c,l=[a,b,c]:=by
 match l,h with
 |[a,b,c],_=>exact⟨a,b,c,rfl⟩
 |[],h=>simp at h
 |[a],h=>simp at h
 |[a,b],h=>simp at h
 |a::b::c::d::r,h=>simp only[lc]at h;omega
def zXz{op:Int}(h0:0<=op)(h1:op<17)(a0:¬op=0)(a1:¬op=1)(a2:¬op=2)(a3:¬op=3)(a9:¬op=9)(a15:¬op=15)(a16:¬op=16):zlw op=bf:=dt ab
def zpc{op:Int}(h:zlw op=bf):4<=op/\op<=14/\¬op=9:=aY h
def zpd{op:Int}(h:zlw op=bf):jx op=2:=by
 have:=zpc h;unfold jx;rw[aO ab,aO ab,aO ab]
def zEe:∀(d:Nat)(e:Expr),okE d e=bf->OX d e
 |0,e,h=>by cases h
 |d+1,e,h=>by
  rw[okE,bn]at h;obtain⟨hh,ha⟩:=h
  have ih:∀x∈e.Args,OX d x:=λx hx=>zEe d x (bj.1 ha x hx)
  obtain⟨op,n,s,k,az⟩:=e;simp only[xB,bn,aW]at hh;obtain⟨⟨h0,h1,hl⟩,hn,hs,hk⟩:=hh;dsimp only at ih;by_cases a0:op=0
  ·subst a0
   obtain rfl:=z0e hl;simp at hn hs hk
   obtain⟨rfl,rfl⟩:s=[]/\k=[]:=⟨hs,hk⟩
   exact .num hn.1 hn.2
  by_cases a1:op=1
  ·subst a1
   obtain rfl:=z0e hl;simp at hn hs hk;subst hn hk;exact .name hs
  by_cases a2:op=2
  ·subst a2
   obtain rfl:=z0e hl;simp at hn hs hk;subst hn;exact .table hs hk
  by_cases a3:op=3
  ·subst a3
   obtain rfl:=z0e hl;simp at hn hs hk;subst hn hk;exact .zone hs
  rw[aO a0]at hn;rw[aO ab,aW]at hs;rw[aO a2,aW]at hk;subst hn hs hk;by_cases a9:op=9
  ·subst a9
   obtain⟨a,rfl⟩:=len1 hl;exact .neg (ih a af)
  by_cases a15:op=15
  ·subst a15
   obtain⟨a,rfl⟩:=len1 hl;exact .not (ih a af)
  by_cases a16:op=16
  ·subst a16
   obtain⟨a,b,c,rfl⟩:=len3 hl;exact .cond (ih a af) (ih b af) (ih c af)
  have hb:=zXz h0 h1 a0 a1 a2 a3 a9 a15 a16;rw[zpd hb]at hl;obtain⟨a,b,rfl⟩:=len2 hl;exact .bin hb (ih a af) (ih b af)
def zX0{d:Nat}{e:Expr}(h:OX d e):okE d e=bf:=by
 induction h with
 |num h1 h2=>simp[okE,xB,jx,h1,h2]
 |name h=>simp[okE,xB,jx,h]
 |table h1 h2=>simp[okE,xB,jx,h1,h2]
 |zone h=>simp[okE,xB,jx,h]
 |neg _ ih=>simp[okE,xB,jx,ih]
 |not _ ih=>simp[okE,xB,jx,ih]
 |cond _ _ _ i1 i2 i3=>simp[okE,xB,jx,i1,i2,i3]
 |@bin d op a b hb _ _ i1 i2 =>
  have h3:=zpc hb
  have n0:¬op=0:=ab
  have n1:¬op=1:=ab
  have n2:¬op=2:=ab
  have n3:¬op=3:=ab
  simp[okE,xB,Vr,zpd hb,n0,n1,n2,n3,i1,i2];omega
-- tokens
def kwQ(w:ak):T3:=(0,w,0)
def sgQ(w:ak):T3:=(2,w,0)
def xV(n:Int):T3:=(1,Lib.decDigits n.toNat,n)
def opQ(op:Int):T3:=if op=13∨op=14 then kwQ (sgO op)else sgQ (sgO op)
def Yn(t:List T3)(lv form:Int):List T3:=if lv<form then sgQ Au::(t++[sgQ qg])else t
def zk1(op:Int):Int:=if lvO op=4 then 5 else lvO op
def xC:Nat->Expr->List T3
 |0,_=>[]
 |d+1,e =>
  if e.Op=0 then[xV e.N]else if e.Op=1 then[kwQ e.S]else if e.Op=2 then[kwQ yy,kwQ e.S,kwQ e.Key]else if e.Op=3 then[kwQ xm,kwQ e.S]
  else if e.Op=16 then kwQ WS::(xC d (xD e 0)++(kwQ uA::(xC d (xD e 1)++(kwQ xe::xC d (xD e 2)))))
  else if e.Op=15 then kwQ qS::Yn (xC d (xD e 0)) (lvO (xD e 0).Op) 3
  else if e.Op=9 then sgQ yU::Yn (xC d (xD e 0)) (lvO (xD e 0).Op) 7
  else Yn (xC d (xD e 0)) (lvO (xD e 0).Op) (zk1 e.Op)++(opQ e.Op::Yn (xC d (xD e 1)) (lvO (xD e 1).Op) (lvO e.Op+1))
def Yo{op:Int}(h:zlw op=bf)(d:Nat)(a b:Expr):xC (d+1) (Vr op a b)=Yn (xC d a) (lvO a.Op) (zk1 op)++(opQ op::Yn (xC d b) (lvO b.Op) (lvO op+1)):=by
 have h3:=zpc h;rw[xC];unfold Vr;dsimp only;rw[aO ab,aO ab,aO ab,aO ab,aO ab,aO ab,aO ab];rfl
def zpe{op:Int}(h:zlw op=bf)(d:Nat)(a b:Expr):zO (d+1) (Vr op a b)=atS (zO d a) (lvO a.Op) (zk1 op)++(t__++(sgO op++(t__++atS (zO d b) (lvO b.Op) (lvO op+1)))):=by
 have h3:=zpc h;rw[zO];unfold Vr;dsimp only;rw[aO ab,aO ab,aO ab,aO ab,aO ab,aO ab,aO ab];rfl
def zX1{t:List T3}{op:Int}:Yn t (lvO op) 0=t:=aO (by have:=zy4 op;omega)
def at0{t:ak}{op:Int}:atS t (lvO op) 0=t:=aO (by have:=zy4 op;omega)
def sq(ts:List T3):ak:=ts.flatMap λt=>32::t.2.1
def jq:List T3->ak
 |[]=>[]
 |t::ts=>t.2.1++sq ts
def zNu(a b:List T3):sq (a++b)=sq a++sq b:=List.flatMap_append
def zKe{a:List T3}(h:a≠[]):sq a=32::jq a:=by
 cases a with
 |nil=>exact aU rfl h
 |cons t ts=>rfl
def zX2{a b:List T3}(h:a≠[]):jq (a++b)=jq a++sq b:=by
 cases a with
 |nil=>exact aU rfl h
 |cons t ts=>rw[bU,jq,jq,zNu,asc]
def V2{t:T3}{b:List T3}(h:b≠[]):jq (t::b)=t.2.1++32::jq b:=by rw[jq,zKe h]
def zvw{a b:List T3}(ha:a≠[])(hb:b≠[]):jq (a++b)=jq a++32::jq b:=by rw[zX2 ha,zKe hb]
def zX3(a:List T3):BL (sq a):=by
 cases a with
 |nil=>exact zNn
 |cons t ts=>exact zkr rfl
def zX4:∀{ts:List T3},(∀t∈ts,okT t)->LX (sq ts) ts
 |[],_=>zNo
 |t::ts,h=>by
  have:=zDu (zvl (c:=32) rfl (zDt (h t al))) (zX4 λx hx=>h x (mcQ _ hx)) (zX3 ts);exact this
def zX5{ts:List T3}(h:∀t∈ts,okT t):LX (jq ts) ts:=by
 cases ts with
 |nil=>exact zNo
 |cons t ts=>exact zDu (zDt (h t al)) (zX4 λx hx=>h x (mcQ _ hx)) (zX3 ts)
def OKs(ts:List T3):Prop:=∀t∈ts,okT t
def ur:OKs []:=λ_ h=>by cases h
def xd{t:T3}{ts:List T3}(h:okT t)(hs:OKs ts):OKs (t::ts):=λx hx=>by
 rcases bp.1 hx with rfl|hx
 ·exact h
 ·exact hs x hx
def V3{a b:List T3}(ha:OKs a)(hb:OKs b):OKs (a++b):=λx hx=>by
 rcases bz.1 hx with hx|hx
 ·exact ha x hx
 ·exact hb x hx
def zbj{n:Int}(h0:0<=n)(h1:n<=1099511627776):okT (xV n):=by
 have:=zRi (n:=n.toNat) ab;rw[Int.toNat_of_nonneg h0]at this;exact this
def zNv{w:ak}(h:Qk w=bf):okT (kwQ w):=zvm h
def Yp{w:ak}(h:zD w=bf):okT (kwQ w):=zJ3 h
def zek{op:Int}(h:zlw op=bf):op=4∨op=5∨op=6∨op=7∨op=8∨op=10∨op=11∨op=12∨op=13∨op=14:=by
 have:=zpc h;omega
def zNw{op:Int}(h:zlw op=bf):okT (opQ op):=by
 rcases zek h with rfl|rfl|rfl|rfl|rfl|rfl|rfl|rfl|rfl|rfl<;>rfl
def zKf(op:Int):(opQ op).2.1=sgO op:=by
 unfold opQ;split<;>rfl
def zvx{t:List T3}{a b:Int}(h:t≠[]):Yn t a b≠[]:=by
 unfold Yn;split
 ·simp
 ·exact h
def Yq{t:List T3}{a b:Int}(h:OKs t):OKs (Yn t a b):=by
 unfold Yn;split
 ·exact xd rfl (V3 h (xd rfl ur))
 ·exact h
def zvy{t:List T3}{s:ak}{a b:Int}(hn:t≠[])(h:s=jq t):atS s a b=jq (Yn t a b):=by
 unfold atS Yn;split
 ·rw[V2 af,zvw hn af,<- h];rfl
 ·exact h
def uu{d:Nat}{e:Expr}(h:OX d e):xC d e≠[]/\OKs (xC d e)/\zO d e=jq (xC d e):=by
 induction h with
 |@num d n h1 h2 =>
  refine⟨by simp[xC],?_,?_⟩
  ·exact xd (zbj h1 h2) ur
  ·show Lib.decDigits n.toNat=Lib.decDigits n.toNat++[]
   rw[bI]
 |@name d s h =>
  refine⟨by simp[xC],xd (Yp h) ur,?_⟩
  show s=s++[]
  rw[bI]
 |@table d s k h1 h2 =>
  refine⟨by simp[xC],xd rfl (xd (Yp h1) (xd (Yp h2) ur)),?_⟩
  show vb++(s++(t__++k))=yy++((32::s)++((32::k)++[]))
  rw[bI];rfl
 |@zone d s h =>
  refine⟨by simp[xC],xd rfl (xd (Yp h) ur),?_⟩
  show oU++s=xm++((32::s)++[])
  rw[bI];rfl
 |@neg d a _ ih =>
  obtain⟨i1,i2,i3⟩:=ih;refine⟨by simp[xC],xd rfl (Yq i2),?_⟩
  show JV++atS (zO d a) (lvO a.Op) 7=jq (sgQ yU::Yn (xC d a) (lvO a.Op) 7)
  rw[V2 (zvx i1),zvy i1 i3];rfl
 |@not d a _ ih =>
  obtain⟨i1,i2,i3⟩:=ih;refine⟨by simp[xC],xd rfl (Yq i2),?_⟩
  show WT++atS (zO d a) (lvO a.Op) 3=jq (kwQ qS::Yn (xC d a) (lvO a.Op) 3)
  rw[V2 (zvx i1),zvy i1 i3];rfl
 |@cond d a b c _ _ _ ia ib ic =>
  obtain⟨a1,a2,a3⟩:=ia;obtain⟨b1,b2,b3⟩:=ib;obtain⟨c1,c2,c3⟩:=ic;refine⟨by simp[xC],xd rfl (V3 a2 (xd rfl (V3 b2 (xd rfl c2)))),?_⟩
  show oS++(atS (zO d a) (lvO a.Op) 0++(yN++(atS (zO d b) (lvO b.Op) 0++(yM++atS (zO d c) (lvO c.Op) 0))))=jq (kwQ WS::(xC d a++(kwQ uA::(xC d b++(kwQ xe::xC d c)))))
  rw[V2 af,zvw a1 af,V2 af,zvw b1 af,V2 c1,at0,at0,at0,a3,b3,c3];rfl
 |@bin d op a b hb _ _ ia ib =>
  obtain⟨a1,a2,a3⟩:=ia;obtain⟨b1,b2,b3⟩:=ib;rw[Yo hb,zpe hb];refine⟨af,V3 (Yq a2) (xd (zNw hb) (Yq b2)),?_⟩;rw[zvw (zvx a1) af,V2 (zvx b1),zvy a1 a3,zvy b1 b3,zKf];rfl
def PX(lv:Nat)(r:List ar):Except EE ((Nat×Expr)×List ar) :=
 if lv<=0/\isB WS r=bf then thn (ifS r) λe r=>.ok ((0,e),r)
 else if lv<=3/\isB qS r=bf then thn (DE 3 r.tail) λa r1=>.ok ((3,Expr.mk 15 0 [] [] [a]),r1)
 else if lv<=7/\isB yU r=bf then thn (DE 7 r.tail) λa r1=>.ok ((7,Expr.mk 9 0 [] [] [a]),r1)
 else thn (VV r) λe r=>.ok ((8,e),r)
def KL(lv:Nat):Nat->Expr->List ar->Except EE (Expr×List ar)
 |0,e,r=>.ok (e,r)
 |k+1,e,r=>thn (LP (lv+k) e r) λe r=>KL lv k e r
def zEf(lv:Nat):∀(k:Nat)(e:Expr)(r:List ar),KL lv (k+1) e r=thn (KL (lv+1) k e r) λe r=>LP lv e r
 |0,e,r=>by simp only[KL,dY,Yg];rfl
 |k+1,e,r=>by
  rw[KL,KL,zN,show lv+(k+1)=lv+1+k by omega]
  exact xU λa r1 _=>zEf lv k a r1
def Yr{o:zd}(h:o∈OPS):∃f:Nat,o.form=(f:Int)/\(f=1∨f=2∨f=4∨f=5∨f=6)/\o.text≠[]:=by
 simp only[OPS,bp,cR,or_false]at h
 rcases h with rfl|rfl|rfl|rfl|rfl|rfl|rfl|rfl|rfl|rfl
 ·exact⟨1,rfl,ab,ae⟩
 ·exact⟨2,rfl,ab,ae⟩
 ·exact⟨4,rfl,ab,ae⟩
 ·exact⟨4,rfl,ab,ae⟩
 ·exact⟨4,rfl,ab,ae⟩
 ·exact⟨5,rfl,ab,ae⟩
 ·exact⟨5,rfl,ab,ae⟩
 ·exact⟨6,rfl,ab,ae⟩
 ·exact⟨6,rfl,ab,ae⟩
 ·exact⟨6,rfl,ab,ae⟩
def zpf{lv:Nat}{r:List ar}(h:lv=0∨lv=3∨lv>=7):ze7 lv r=bh:=by
 cases ho:ze7 lv r with
 |none=>rfl
 |some op =>
  obtain⟨o,h1,h2,_⟩:=uf ho;obtain⟨f,h3,h4,_⟩:=Yr (vI h1).2.1;omega
def Zj{lv:Nat}{e:Expr}{r:List ar}(hr:TWF r)(h:ze7 lv r=bh):LP lv e r=.ok (e,r):=by
 rw[zo2 hr,h]
def zRz{lv:Nat}{r:List ar}(hl:lv<8)(h0:¬(lv=0/\isB WS r=bf))(h3:¬(lv=3/\isB qS r=bf))(h7:¬(lv=7/\isB yU r=bf)):PX lv r=PX (lv+1) r:=by
 unfold PX
 have e0:(lv<=0/\isB WS r=bf)=False:=by simp only[eq_iff_iff,iff_false];intro hh;exact h0 ⟨ab,hh.2⟩
 have e0':(lv+1<=0/\isB WS r=bf)=False:=by simp only[eq_iff_iff,iff_false];intro hh;omega
 have e3:(lv<=3/\isB qS r=bf)=(lv+1<=3/\isB qS r=bf):=by
  rw[eq_iff_iff];constructor
  ·intro hh
   refine⟨?_,hh.2⟩
   have:lv≠3:=λe=>h3 ⟨e,hh.2⟩
   omega
  ·intro hh;exact⟨ab,hh.2⟩
 have e7:(lv<=7/\isB yU r=bf)=(lv+1<=7/\isB yU r=bf):=by
  rw[eq_iff_iff];constructor
  ·intro hh
   refine⟨?_,hh.2⟩
   have:lv≠7:=λe=>h7 ⟨e,hh.2⟩
   omega
  ·intro hh;exact⟨ab,hh.2⟩
 simp only[e0,e0',e3,e7]
def zNx{lv:Nat}{r:List ar}{o:Nat}{e:Expr}{r1:List ar}(hl:lv<=8)(h:PX lv r=.ok ((o,e),r1)):lv<=o/\(o=0∨o=3∨o=7∨o=8):=by
 unfold PX at h;split at h
 ·obtain⟨a,r2,h1,h2⟩:=zG h;cases h2;rename_i hh;omega
 ·split at h
  ·obtain⟨a,r2,h1,h2⟩:=zG h;cases h2;rename_i hh;omega
  ·split at h
   ·obtain⟨a,r2,h1,h2⟩:=zG h;cases h2;rename_i hh;omega
   ·obtain⟨a,r2,h1,h2⟩:=zG h;cases h2;omega
def zEg{r r2:List ar}{e:Expr}(hr:TWF r)(hk:isB WS r=bf)(h:ifS r=.ok (e,r2)):Aft r r2:=by
 have:=Zg (lv:=0) ab hr;rw[aP ⟨rfl,hk⟩,h]at this;exact yW hr this
def zEh{lv:Nat}{r r2:List ar}{x:Nat×Expr}(hr:TWF r)(h:PX lv r=.ok (x,r2)):Aft r r2:=by
 unfold PX at h;split at h
 ·rename_i hb
  obtain⟨a,r1,h1,h2⟩:=zG h;cases h2;exact zEg hr hb.2 h1
 ·split at h
  ·rename_i hb
   obtain⟨a,r1,h1,h2⟩:=zG h;cases h2;have ht:=zB hr (zo hb.2);exact ht.trans (yW ht.wf h1).e
  ·split at h
   ·rename_i hb
    obtain⟨a,r1,h1,h2⟩:=zG h;cases h2;have ht:=zB hr (zo hb.2);exact ht.trans (yW ht.wf h1).e
   ·obtain⟨a,r1,h1,h2⟩:=zG h;cases h2
    rw[<- zyt hr]at h1;exact yW hr h1
def DE_PX:∀(k lv:Nat),8-lv=k->lv<=8->∀(r:List ar),TWF r->DE lv r=thn (PX lv r) λx r1=>KL lv (x.1+1-lv) x.2 r1:=by
 intro k
 induction k with
 |zero =>
  intro lv hk hl r hr
  obtain rfl:lv=8:=ab
  rw[zyt hr,PX,aO ab,aO ab,aO ab,zN]
  conv=>lhs;rw[<- Yg (x:=VV r)]
  refine xU λe r1 h1=>?_
  show _=KL 8 1 e r1
  rw[<- zyt hr]at h1;rw[KL,Zj (yW hr h1).wf (zpf ab)];rfl
 |succ k ih =>
  intro lv hk hl r hr;rw[Zg ab hr]
  have one:∀(e:Expr)(r1:List ar),(lv=0∨lv=3∨lv=7)->TWF r1->KL lv (lv+1-lv) e r1=.ok (e,r1):=λe r1 h h1=>by
   rw[show lv+1-lv=1 by omega,KL,dY,Zj h1 (zpf ab)];rfl
  by_cases h0:lv=0/\isB WS r=bf
  ·rw[aP h0,PX,aP ⟨ab,h0.2⟩,zN]
   conv=>lhs;rw[<- Yg (x:=ifS r)]
   refine xU λe r1 h1=>?_
   have:=one e r1 ab (zEg hr h0.2 h1).wf;rw[h0.1]at this ⊢;exact this.symm
  ·rw[aO h0]
   by_cases h3:lv=3/\isB qS r=bf
   ·rw[aP h3,PX,aO ab,aP ⟨ab,h3.2⟩,zN]
    refine xU λa r1 h1=>?_
    have ht:=zB hr (zo h3.2);have:=one (Expr.mk 15 0 [] [] [a]) r1 ab (yW ht.wf h1).wf;rw[h3.1]at this ⊢;exact this.symm
   ·rw[aO h3]
    by_cases h7:lv=7/\isB yU r=bf
    ·rw[aP h7,PX,aO ab,aO ab,aP ⟨ab,h7.2⟩,zN]
     refine xU λa r1 h1=>?_
     have ht:=zB hr (zo h7.2);have:=one (Expr.mk 9 0 [] [] [a]) r1 ab (yW ht.wf h1).wf;rw[h7.1]at this ⊢;exact this.symm
    ·rw[aO h7,ih (lv+1) ab ab r hr,zRz ab h0 h3 h7,zN]
     refine xU λx r1 h1=>?_
     have:=(zNx ab h1).1;rw[show x.1+1-lv=(x.1+1-(lv+1))+1 by omega,zEf]
def CL(lv own:Nat)(e:Expr)(r:List ar):Except EE (Expr×List ar):=match opR r with
 |none=>.ok (e,r)
 |some o=>if o.form<(lv:Int)∨(own:Int)<o.form∨(own=4/\o.form=4)then .ok (e,r)else
  if h:r.tail.length<r.length then thn (DE (o.form.toNat+1) r.tail) λe2 r2=>if h2:r2.length<r.length then CL lv o.form.toNat (Vr o.op e e2) r2 else oof else oof
termination_by r.length
def zsl{lv:Nat}{e:Expr}{r:List ar}(hr:TWF r):∀(k:Nat),(∀j,lv<=j->j<lv+k->ze7 j r=bh)->KL lv k e r=.ok (e,r)
 |0,_=>rfl
 |k+1,h=>by
  rw[KL,Zj hr (h (lv+k) ab ab)]
  exact zsl hr k λj h1 h2=>h j h1 ab
def zvz{lv:Nat}{e:Expr}{r:List ar}(hr:TWF r):∀(k j:Nat),(∀i,lv+j<=i->i<lv+j+k->ze7 i r=bh)->KL lv (j+k) e r=KL lv j e r
 |0,j,_=>rfl
 |k+1,j,h=>by
  rw[show j+(k+1)=(j+k)+1 by omega,KL,Zj hr (h (lv+(j+k)) ab ab)]
  exact zvz hr k j λi h1 h2=>h i h1 ab
def CL_KL(lv:Nat):∀(n:Nat)(r:List ar)(own:Nat)(e:Expr),r.length<n->TWF r->KL lv ((if own=4 then 3 else own)+1-lv) e r=CL lv own e r:=by
 intro n
 induction n with
 |zero=>intro r own e h;omega
 |succ n ih =>
  intro r own e hn hr;rw[CL]
  cases ho:opR r with
  |none=>exact zsl hr _ λj _ _=>by rw[ze7,ho]
  |some o =>
   dsimp only;obtain⟨hk,hmem,_⟩:=vI ho;obtain⟨f,hf,hf2,_⟩:=Yr hmem
   have hat:∀j,j≠f->ze7 j r=bh:=λj hj=>by
    rw[ze7,ho];dsimp only;rw[aO (by rw[hf];omega)]
   have hatf:ze7 f r=bc o.op:=by
    rw[ze7,ho];dsimp only;rw[aP hf]
   rw[hf];by_cases hc:(f:Int)<(lv:Int)∨(own:Int)<(f:Int)∨(own=4/\(f:Int)=4)
   ·rw[aP hc]
    refine zsl hr _ λj h1 h2=>hat j ?_
    rcases hc with hc|hc|hc
    ·omega
    ·split at h2<;>omega
    ·rw[aP hc.1]at h2;omega
   ·rw[aO hc]
    have ht:=zB hr hk;rw[dif_pos ht.lt,dQ]
    have hle:lv<=f/\f<=(if own=4 then 3 else own):=by
     refine⟨ab,?_⟩;split
     ·rename_i h4;subst h4;omega
     ·omega
    rw[show(if own=4 then 3 else own)+1-lv=(f-lv+1)+((if own=4 then 3 else own)-f) by omega,zvz hr _ _ (λi h1 h2=>hat i ab),KL,show lv+(f-lv)=f by omega,zo2 hr,hatf,zN]
    refine xU λe2 r2 h2=>?_
    have hq:=ht.trans (yW ht.wf h2).e;rw[dif_pos hq.lt,<- ih r2 f (Vr o.op e e2) (by have:=hq.lt;omega) hq.wf];by_cases h4:f=4
    ·subst h4
     rw[aP rfl,aP rfl]
     show KL lv (4-lv) _ r2=_
     rw[show 4-lv=3+1-lv by omega]
    ·rw[aO h4,aO h4,show f+1-lv=(f-lv)+1 by omega,KL,show lv+(f-lv)=f by omega]
def zX6{lv own:Nat}{e:Expr}{r:List ar}(hr:TWF r):CL lv own e r=match opR r with
 |none=>.ok (e,r)
 |some o=>if o.form<(lv:Int)∨(own:Int)<o.form∨(own=4/\o.form=4)then .ok (e,r)else thn (DE (o.form.toNat+1) r.tail) λe2 r2=>CL lv o.form.toNat (Vr o.op e e2) r2:=by
 rw[CL];split
 ·rfl
 ·rename_i o ho
  have ht:=zB hr (vI ho).1;rw[dif_pos ht.lt];split
  ·rfl
  ·refine xU λe2 r2 h2=>?_
   rw[dif_pos (ht.trans (yW ht.wf h2).e).lt]
def zX7{lv:Nat}{r:List ar}(hl:lv<=8)(hr:TWF r):DE lv r=thn (PX lv r) λx r1=>CL lv x.1 x.2 r1:=by
 rw[DE_PX _ lv rfl hl r hr]
 refine xU λx r1 h1=>?_
 have ho:=(zNx (o:=x.1) (e:=x.2) hl h1).2;have:=CL_KL lv (r1.length+1) r1 x.1 x.2 (ck _) (zEh hr h1).wf;rw[aO ab]at this;exact this
def tk(a:T3)(p:Int):ar:=ar.mk a.1 a.2.1 a.2.2 p
def map_nil{l:List ar}(h:l.map t3=[]):l=[]:=List.map_eq_nil_iff.1 h
def map_cons{l:List ar}{a:T3}{ts:List T3}(h:l.map t3=a::ts):∃p l',l=tk a p::l'/\l'.map t3=ts:=by
 obtain⟨t,l',rfl,rfl,h2⟩:=List.map_eq_cons_iff.1 h;exact⟨t.Pos,l',rfl,h2⟩
def wN{l:List ar}{a b:List T3}(h:l.map t3=a++b):∃l1 l2,l=l1++l2/\l1.map t3=a/\l2.map t3=b:=List.map_eq_append_iff.1 h
def zKg{t:T3}(h:okT t):t.1=0∨t.1=1∨t.1=2:=by
 obtain⟨k,x,n⟩:=t;unfold okT at h;dsimp only at h ⊢
 cases x with
 |nil=>cases h
 |cons c x =>
  rw[xT]at h;split at h
  ·split at h
   ·exact .inl (aQ (λy:T3=>y.1) (Except.ok.inj h)).symm
   ·cases h
  ·split at h
   ·split at h
    ·exact .inr (.inl (aQ (λy:T3=>y.1) (Except.ok.inj h)).symm)
    ·cases h
   ·split at h
    ·exact .inr (.inr (aQ (λy:T3=>y.1) (Except.ok.inj h)).symm)
    ·cases h
def TWF.cons{t:ar}{r:List ar}(h:t.aM≠3)(hr:TWF r):TWF (t::r):=by
 cases r with
 |nil=>exact hr.elim
 |cons u r=>exact⟨h,hr⟩
def zNy{t:T3}(h:okT t):t.1≠3:=by have:=zKg h;omega
def kl{a:T3}{p:Int}{r:List ar}(h:okT a)(hr:TWF r):TWF (tk a p::r):=TWF.cons (zNy h) hr
def qz:∀{ts:List T3}{l r:List ar},OKs ts->l.map t3=ts->TWF r->TWF (l++r)
 |[],l,r,_,h,hr=>by rw[map_nil h];exact hr
 |t::ts,l,r,ho,h,hr=>by
  obtain⟨p,l',rfl,h2⟩:=map_cons h;exact kl (ho t al) (qz (λx hx=>ho x (mcQ _ hx)) h2 hr)
def NO(lv:Nat)(r:List ar):Prop:=∀j,lv<=j->ze7 j r=bh
def NO.le{lv k:Nat}{r:List ar}(h:NO lv r)(hk:lv<=k):NO k r:=λj hj=>h j ab
def zEi{r:List ar}{lv:Nat}(h:opR r=bh):NO lv r:=λj _=>by rw[ze7,h]
def zF(s:ak)(a:T3)(p:Int)(r:List ar):isB s (tk a p::r)=((!(decide (a.1=3)))&&decide (a.2.1=s)):=rfl
def Al{n:Nat}{s:ak}(h:s.all yK=bd):Lib.decDigits n≠s:=λe=>by
 have:=zks n;rw[e,h]at this;cases this
def zsm{s w:ak}(h:zD s=bf)(hw:zD w=bd):s≠w:=λe=>by
 rw[e,hw]at h;cases h
def zEj{d:Nat}{e:Expr}(h:OX d e):∀t ts,xC d e=t::ts->(t.2.1=WS->lvO e.Op=0)/\(t.2.1=qS->lvO e.Op<=3)/\(t.2.1=yU->lvO e.Op<=7):=by
 induction h with
 |@num d n h1 h2 =>
  intro t ts e;obtain⟨rfl,rfl⟩:=List.cons.inj (show[xV n]=t::ts from e);exact⟨λe=>aU e (Al rfl),λe=>aU e (Al rfl),λe=>aU e (Al rfl)⟩
 |@name d s h =>
  intro t ts e;obtain⟨rfl,rfl⟩:=List.cons.inj (show[kwQ s]=t::ts from e);exact⟨λe=>aU e (zsm h ah),λe=>aU e (zsm h ah),λe=>aU e (zsm h ah)⟩
 |@table d s k h1 h2 =>
  intro t ts e;obtain⟨rfl,_⟩:=List.cons.inj (show[kwQ yy,kwQ s,kwQ k]=t::ts from e);exact⟨λe=>aU e ae,λe=>aU e ae,λe=>aU e ae⟩
 |@zone d s h =>
  intro t ts e;obtain⟨rfl,_⟩:=List.cons.inj (show[kwQ xm,kwQ s]=t::ts from e);exact⟨λe=>aU e ae,λe=>aU e ae,λe=>aU e ae⟩
 |@neg d a _ _ =>
  intro t ts e;obtain⟨rfl,_⟩:=List.cons.inj (show sgQ yU::_=t::ts from e);exact⟨λe=>aU e ae,λe=>aU e ae,λ_=>show lvO 9<=7 by decide⟩
 |@not d a _ _ =>
  intro t ts e;obtain⟨rfl,_⟩:=List.cons.inj (show kwQ qS::_=t::ts from e);exact⟨λe=>aU e ae,λ_=>show lvO 15<=3 by decide,λe=>aU e ae⟩
 |@cond d a b c _ _ _ _ _ _ =>
  intro t ts e;obtain⟨rfl,_⟩:=List.cons.inj (show kwQ WS::_=t::ts from e);exact⟨λ_=>show lvO 16=0 by decide,λe=>aU e ae,λe=>aU e ae⟩
 |@bin d op a b hb ha _ ia _ =>
  intro t ts e;rw[Yo hb]at e
  have hl:1<=lvO op/\lvO op<=zk1 op/\lvO op<=6:=by rcases zek hb with rfl|rfl|rfl|rfl|rfl|rfl|rfl|rfl|rfl|rfl<;>decide
  show(_->lvO op=0)/\(_->lvO op<=3)/\(_->lvO op<=7)
  by_cases hp:lvO a.Op<zk1 op
  ·rw[Yn,aP hp]at e
   obtain⟨rfl,_⟩:=List.cons.inj e;exact⟨λe=>aU e ae,λe=>aU e ae,λe=>aU e ae⟩
  ·rw[Yn,aO hp]at e
   cases hq:xC d a with
   |nil=>exact aU hq (uu ha).1
   |cons u us =>
    rw[hq]at e;obtain⟨rfl,_⟩:=List.cons.inj e;obtain⟨h1,h2,h3⟩:=ia _ _ hq;exact⟨λe=>by have:=h1 e;omega,λe=>by have:=h2 e;omega,λe=>by have:=h3 e;omega⟩
def zsn{x r:List ar}{e:Expr}(hx:TWF x)(hr:TWF r):∀(n lv k:Nat),lv+n=k->k<=8->(∀j,lv<=j->j<k->¬(j=0/\isB WS x=bf)/\¬(j=3/\isB qS x=bf)/\¬(j=7/\isB yU x=bf))->NO lv r->DE k x=.ok (e,r)->DE lv x=.ok (e,r)
 |0,lv,k,hk,_,_,_,h=>by
  obtain rfl:lv=k:=ab
  exact h
 |n+1,lv,k,hk,h8,hh,hn,h=>by
  have ih:=zsn hx hr n (lv+1) k ab h8 (λj hj=>hh j ab) (hn.le ab) h;obtain⟨h1,h2,h3⟩:=hh lv aq ab;rw[Zg ab hx,aO h1,aO h2,aO h3,ih];exact Zj hr (hn lv aq)
def zX8{l r:List ar}{e:Expr}{p q:Int}{ts:List T3}(ho:OKs ts)(hl:l.map t3=ts)(hr:TWF r)(h:DE 0 (l++(tk (sgQ qg) q::r))=.ok (e,tk (sgQ qg) q::r)):DE 8 (tk (sgQ Au) p::(l++(tk (sgQ qg) q::r)))=.ok (e,r):=by
 have hw:TWF (tk (sgQ Au) p::(l++(tk (sgQ qg) q::r))):=kl rfl (qz ho hl (kl rfl hr));rw[zyt hw,VV]
 show thn (DE 0 (l++(tk (sgQ qg) q::r))) _=_
 rw[h];rfl
def kZ{lo hi n p:Int}{r:List ar}(h1:lo<=n)(h2:n<=hi):jQ lo hi (tk (xV n) p::r)=.ok (n,r):=by
 unfold jQ;rw[aP (show HH (tk (xV n) p::r)=bf from rfl),aP (show lo<=(hdT (tk (xV n) p::r)).N/\(hdT (tk (xV n) p::r)).N<=hi from⟨h1,h2⟩)];rfl
def zv0{s:ak}{p:Int}{r:List ar}(h:zD s=bf):Ye (tk (kwQ s) p::r)=bf:=by rw[<- h];exact cA _
def Zk{s:ak}{p:Int}{r:List ar}(h:zD s=bf):kX (tk (kwQ s) p::r)=.ok (s,r):=by
 unfold kX;rw[aP (zv0 h)];rfl
def Qr{a:T3}{w:ak}{p:Int}{r:List ar}(h:isB w (tk a p::r)=bf):xH w (tk a p::r)=.ok ((),r):=by
 unfold xH;rw[aP h];rfl
def OwnP(e:Expr)(ts:List T3)(own:Nat):Prop:=(∀l r,l.map t3=ts->TWF r->NO own r->DE own (l++r)=.ok (e,r)) /\
 (own=1∨own=2∨own=5∨own=6->∀l r,l.map t3=ts->TWF r->NO (own+1) r->DE own (l++r)=LP own e r)
def AtP(e:Expr)(ts:List T3):Prop:=(∀(lv:Nat)(l r:List ar),lv<=8->l.map t3=Yn ts (lvO e.Op) lv->TWF r->NO lv r->DE lv (l++r)=.ok (e,r)) /\
 (∀(L:Nat)(l r:List ar),L=1∨L=2∨L=5∨L=6->l.map t3=Yn ts (lvO e.Op) L->TWF r->NO (L+1) r->DE L (l++r)=LP L e r)
def ug{d:Nat}{e:Expr}(h:OX d e){own:Nat}(he:lvO e.Op=own)(hp:OwnP e (xC d e) own):AtP e (xC d e):=by
 obtain⟨hne,hok,_⟩:=uu h;have hh:=zEj h
 have h8:own<=8:=by have:=zy4 e.Op;omega
 have hd:∀{x:List ar}{l r:List ar},l.map t3=xC d e->∀j,j<own->¬(j=0/\isB WS (l++r)=bf)/\¬(j=3/\isB qS (l++r)=bf)/\¬(j=7/\isB yU (l++r)=bf):=λ{x l r} hl j hj=>by
  cases hq:xC d e with
  |nil=>exact aU hq hne
  |cons t ts =>
   rw[hq]at hl;obtain⟨p,l',rfl,_⟩:=map_cons hl;obtain⟨h1,h2,h3⟩:=hh t ts hq
   have tx:∀s,isB s (tk t p::l'++r)=bf->t.2.1=s:=λs e=>by
    rw[bU,zF,bn]at e;exact aY e.2
   exact⟨λ⟨e1,e2⟩=>by have:=h1 (tx _ e2);omega,λ⟨e1,e2⟩=>by have:=h2 (tx _ e2);omega,λ⟨e1,e2⟩=>by have:=h3 (tx _ e2);omega⟩
 have plain:∀(lv:Nat)(l r:List ar),lv<=own->l.map t3=xC d e->TWF r->NO lv r->DE lv (l++r)=.ok (e,r):=λlv l r hl hm hr hn =>
  zsn (qz hok hm hr) hr (own-lv) lv own ab h8 (λj _ hj=>hd (x:=l) hm j hj) hn (hp.1 l r hm hr (hn.le hl))
 have all:∀(lv:Nat)(l r:List ar),lv<=8->l.map t3=Yn (xC d e) (lvO e.Op) lv->TWF r->NO lv r->DE lv (l++r)=.ok (e,r):=λlv l r hl hm hr hn=>by
  by_cases hlt:lvO e.Op<lv
  ·rw[Yn,aP hlt]at hm
   obtain⟨p,l1,rfl,hm2⟩:=map_cons hm;obtain⟨l2,l3,rfl,h2,h3⟩:=wN hm2;obtain⟨q,l4,rfl,h4⟩:=map_cons h3;obtain rfl:=map_nil h4
   have e1:tk (sgQ Au) p::(l2++[tk (sgQ qg) q])++r=tk (sgQ Au) p::(l2++(tk (sgQ qg) q::r)):=af
   rw[e1];have hin:=plain 0 l2 (tk (sgQ qg) q::r) (cj _) h2 (kl rfl hr) (zEi rfl)
   exact zsn (kl (a:=sgQ Au) rfl (qz hok h2 (kl (a:=sgQ qg) rfl hr))) hr (8-lv) lv 8 ab aq
    (λj _ _=>⟨λhh=>aU hh.2 (by rw[zF];decide),λhh=>aU hh.2 (by rw[zF];decide),λhh=>aU hh.2 (by rw[zF];decide)⟩) hn (zX8 hok h2 hr hin)
  ·rw[Yn,aO hlt]at hm
   exact plain lv l r ab hm hr hn
 refine⟨all,λL l r hL hm hr hn=>?_⟩;by_cases hlo:lvO e.Op=L
 ·have e1:own=L:=ab
  subst e1;rw[Yn,aO ab]at hm;exact hp.2 hL l r hm hr hn
 ·have e1:Yn (xC d e) (lvO e.Op) L=Yn (xC d e) (lvO e.Op) ((L+1:Nat):Int):=by
   unfold Yn;by_cases hlt:lvO e.Op<L
   ·rw[aP hlt,aP ab]
   ·rw[aO hlt,aO ab]
  have hx:TWF (l++r):=qz (Yq hok) hm hr;rw[Zg ab hx,aO ab,aO ab,aO ab,all (L+1) l r ab (by rw[hm,e1]) hr hn];rfl
def zNz{op:Int}(h:zlw op=bf){p:Int}{r:List ar}(j:Nat):ze7 j (tk (opQ op) p::r)=if lvO op=(j:Int)then bc op else bh:=by
 have:∃o,opR (tk (opQ op) p::r)=bc o/\o.form=lvO op/\o.op=op:=by
  rcases zek h with rfl|rfl|rfl|rfl|rfl|rfl|rfl|rfl|rfl|rfl<;>exact⟨_,rfl,rfl,rfl⟩
 obtain⟨o,h1,h2,h3⟩:=this;rw[ze7,h1];dsimp only;rw[h2,h3]
def zN0{op:Int}(h:zlw op=bf){p:Int}{r:List ar}{lv:Nat}(hl:lvO op<lv):NO lv (tk (opQ op) p::r):=λj hj=>by
 rw[zNz h,aO ab]
def zEk{d:Nat}{e:Expr}(h:OX d e):AtP e (xC d e):=by
 induction h with
 |@num d n h1 h2 =>
  refine ug (own:=8) (.num h1 h2) rfl ⟨λl r hm hr hn=>?_,λh=>ab⟩;obtain⟨p,l,rfl,h⟩:=map_cons (show l.map t3=[xV n] from hm);obtain rfl:=map_nil h
  show DE 8 (tk (xV n) p::r)=_
  rw[zyt (kl (zbj h1 h2) hr),VV,aP (show HH (tk (xV n) p::r)=bf from rfl)];rw[kZ h1 h2];rfl
 |@name d s hs =>
  refine ug (own:=8) (.name hs) rfl ⟨λl r hm hr hn=>?_,λh=>ab⟩;obtain⟨p,l,rfl,h⟩:=map_cons (show l.map t3=[kwQ s] from hm);obtain rfl:=map_nil h
  have no:∀w,zD w=bd->¬isB w (tk (kwQ s) p::r)=bf:=λw hw e=>by
   rw[zF,bn]at e;exact zsm hs hw (aY e.2)
  show DE 8 (tk (kwQ s) p::r)=_
  rw[zyt (kl (Yp hs) hr),VV,aO (show ¬HH (tk (kwQ s) p::r)=bf from λe=>by cases e),aO (no _ ah),aO (no _ ah),aO (no _ ah)];rw[Zk hs];rfl
 |@table d s k h1 h2 =>
  refine ug (own:=8) (.table h1 h2) rfl ⟨λl r hm hr hn=>?_,λh=>ab⟩;obtain⟨p,l,rfl,h⟩:=map_cons (show l.map t3=[kwQ yy,kwQ s,kwQ k] from hm);obtain⟨p2,l2,rfl,ha⟩:=map_cons h;obtain⟨p3,l3,rfl,hb⟩:=map_cons ha;obtain rfl:=map_nil hb
  show DE 8 (tk (kwQ yy) p::tk (kwQ s) p2::tk (kwQ k) p3::r)=_
  rw[zyt (kl (a:=kwQ yy) rfl (kl (Yp h1) (kl (Yp h2) hr))),VV,aO (show ¬HH (tk (kwQ yy) p::tk (kwQ s) p2::tk (kwQ k) p3::r)=bf from λe=>by cases e),aP (by rw[zF];decide)]
  show thn (kX (tk (kwQ s) p2::tk (kwQ k) p3::r)) _=_
  rw[Zk h1]
  show thn (kX (tk (kwQ k) p3::r)) _=_
  rw[Zk h2];rfl
 |@zone d s hs =>
  refine ug (own:=8) (.zone hs) rfl ⟨λl r hm hr hn=>?_,λh=>ab⟩;obtain⟨p,l,rfl,h⟩:=map_cons (show l.map t3=[kwQ xm,kwQ s] from hm);obtain⟨p2,l2,rfl,ha⟩:=map_cons h;obtain rfl:=map_nil ha
  show DE 8 (tk (kwQ xm) p::tk (kwQ s) p2::r)=_
  rw[zyt (kl (a:=kwQ xm) rfl (kl (Yp hs) hr)),VV,aO (show ¬HH (tk (kwQ xm) p::tk (kwQ s) p2::r)=bf from λe=>by cases e),aO (by rw[zF];decide),aP (by rw[zF];decide)]
  show thn (kX (tk (kwQ s) p2::r)) _=_
  rw[Zk hs];rfl
 |@neg d a ha ia =>
  refine ug (own:=7) (.neg ha) rfl ⟨λl r hm hr hn=>?_,λh=>ab⟩;obtain⟨p,l,rfl,h⟩:=map_cons (show l.map t3=sgQ yU::Yn (xC d a) (lvO a.Op) 7 from hm)
  show DE 7 (tk (sgQ yU) p::(l++r))=_
  have hw:=kl (a:=sgQ yU) (p:=p) rfl (qz (Yq (uu ha).2.1) h hr);rw[Zg ab hw,aO ab,aO ab,aP ⟨rfl,by rw[zF];decide⟩]
  show thn (DE 7 (l++r)) _=_
  rw[ia.1 7 l r ab h hr hn];rfl
 |@not d a ha ia =>
  refine ug (own:=3) (.not ha) rfl ⟨λl r hm hr hn=>?_,λh=>ab⟩;obtain⟨p,l,rfl,h⟩:=map_cons (show l.map t3=kwQ qS::Yn (xC d a) (lvO a.Op) 3 from hm)
  show DE 3 (tk (kwQ qS) p::(l++r))=_
  have hw:=kl (a:=kwQ qS) (p:=p) rfl (qz (Yq (uu ha).2.1) h hr);rw[Zg ab hw,aO ab,aP ⟨rfl,by rw[zF];decide⟩]
  show thn (DE 3 (l++r)) _=_
  rw[ia.1 3 l r ab h hr hn];rfl
 |@cond d a b c ha hb hc ia ib ic =>
  refine ug (own:=0) (.cond ha hb hc) rfl ⟨λl r hm hr hn=>?_,λh=>ab⟩;obtain⟨p,l,rfl,h⟩:=map_cons (show l.map t3=kwQ WS::(xC d a++(kwQ uA::(xC d b++(kwQ xe::xC d c)))) from hm);obtain⟨l1,m1,rfl,h1,q1⟩:=wN h;obtain⟨p2,m2,rfl,q2⟩:=map_cons q1;obtain⟨l2,m3,rfl,h2,q3⟩:=wN q2;obtain⟨p3,l,rfl,h3⟩:=map_cons q3
  have e1:tk (kwQ WS) p::(l1++tk (kwQ uA) p2::(l2++tk (kwQ xe) p3::l))++r=tk (kwQ WS) p::(l1++(tk (kwQ uA) p2::(l2++(tk (kwQ xe) p3::(l++r))))):=af
  rw[e1];have w3:=kl (a:=kwQ xe) (p:=p3) rfl (qz (uu hc).2.1 h3 hr);have w2:=kl (a:=kwQ uA) (p:=p2) rfl (qz (uu hb).2.1 h2 w3);have w1:=kl (a:=kwQ WS) (p:=p) rfl (qz (uu ha).2.1 h1 w2);rw[Zg ab w1,aP ⟨rfl,by rw[zF];decide⟩,ifS]
  show thn (DE 0 (l1++(tk (kwQ uA) p2::(l2++(tk (kwQ xe) p3::(l++r)))))) _=_
  rw[ia.1 0 l1 _ ab (by rw[h1];exact zX1.symm) w2 (zEi rfl)]
  show thn (DE 0 (l2++(tk (kwQ xe) p3::(l++r)))) _=_
  rw[ib.1 0 l2 _ ab (by rw[h2];exact zX1.symm) w3 (zEi rfl)]
  show thn (DE 0 (l++r)) _=_
  rw[ic.1 0 l r ab (by rw[h3];exact zX1.symm) hr hn];rfl
 |@bin d op a b ho ha hb ia ib =>
  have key:∀{own:Nat},lvO op=own->∀l r,l.map t3=xC (d+1) (Vr op a b)->TWF r->NO (own+1) r->(own=4->DE own (l++r)=.ok (Vr op a b,r))/\(own=1∨own=2∨own=5∨own=6->DE own (l++r)=LP own (Vr op a b) r):=λ{own} hw l r hm hr hn=>by
   rw[Yo ho]at hm;obtain⟨l1,l,rfl,h1,h⟩:=wN hm;obtain⟨p,l,rfl,h2⟩:=map_cons h
   have e1:l1++tk (opQ op) p::l++r=l1++(tk (opQ op) p::(l++r)):=af
   rw[e1];have w2:TWF (l++r):=qz (Yq (uu hb).2.1) h2 hr;have w1:TWF (tk (opQ op) p::(l++r)):=kl (zNw ho) w2;have w0:TWF (l1++(tk (opQ op) p::(l++r))):=qz (Yq (uu ha).2.1) h1 w1
   have h8:own<=6:=by
    have:lvO op<=6:=by rcases zek ho with rfl|rfl|rfl|rfl|rfl|rfl|rfl|rfl|rfl|rfl<;>decide
    omega
   have hB:DE (own+1) (l++r)=.ok (b,r):=ib.1 (own+1) l r ab (by rw[h2,hw];rfl) hr hn
   have hLP:LP own a (tk (opQ op) p::(l++r))=if own=4 then .ok (Vr op a b,r)else LP own (Vr op a b) r:=by
    rw[zo2 w1,zNz ho,aP hw]
    show thn (DE (own+1) (l++r)) _=_
    rw[hB];rfl
   constructor
   ·rintro rfl
    rw[Zg ab w0,aO ab,aO ab,aO ab,ia.1 5 l1 _ ab (by rw[h1,zk1,aP (show lvO op=4 from hw)];rfl) w1 (zN0 ho ab)]
    show LP 4 a _=_
    rw[hLP,aP rfl]
   ·intro hc
    rw[ia.2 own l1 _ hc (by rw[h1,zk1,aO ab,hw]) w1 (zN0 ho ab),hLP,aO ab]
  obtain⟨own,hw⟩:∃own:Nat,lvO op=own:=⟨(lvO op).toNat,by have:=zy4 op;omega⟩
  have hc:own=4∨own=1∨own=2∨own=5∨own=6:=by
   have:lvO op=4∨lvO op=1∨lvO op=2∨lvO op=5∨lvO op=6:=by rcases zek ho with rfl|rfl|rfl|rfl|rfl|rfl|rfl|rfl|rfl|rfl<;>decide
   omega
  refine ug (own:=own) (.bin ho ha hb) hw ⟨λl r hm hr hn=>?_,λh l r hm hr hn=>(key hw l r hm hr hn).2 h⟩;obtain⟨k1,k2⟩:=key hw l r hm hr (hn.le (Nat.le_succ _))
  rcases hc with h|h
  ·exact k1 h
  ·rw[k2 h]
   exact Zj hr (hn own aq)
def SR{α β:Type}(l:List ar)(x:Except EE (α×List ar))(s:Option β)(f:α->Int->β):Prop:=match x with
 |.ok (v,r)=>s=bc (f v (zS l r))/\St l r
 |.error _=>s=bh
def RT.sr{α β:Type}{l:List ar}{x:Except EE (α×List ar)}{s:Option β}{p:Option EE}{f:α->Int->β}(h:RT l x s p f):SR l x s f:=by
 match x,h with
 |.ok (v,r),h=>exact⟨h.1,h.2.2⟩
 |.error e,h=>exact h.1
def SR.bind{α β α' β':Type}{l:List ar}{x:Except EE (α×List ar)}{s:Option β}{f:α->Int->β}{g:α->List ar->Except EE (α'×List ar)}{s2:β->Option β'}{f2:α'->Int->β'}
  (h:SR l x s f) (h2:∀v r,x=.ok (v,r)->St l r->SR l (g v r) (s2 (f v (zS l r))) f2):SR l (thn x g) (s.bind s2) f2:=by
 match x,h,h2 with
 |.error e,h,_=>show _=bh;rw[show s=bh from h];rfl
 |.ok (v,r),⟨h,hs⟩,h2 =>
  have:=h2 v r rfl hs;rw[h];exact this
def RTS{α β γ δ:Type}(l:List ar)(x:Except EE (α×List ar))(s:Option (β⊕γ))(p:Option (EE⊕δ))(f:α->Int->β):Prop:=match x with
 |.ok (v,r)=>s=bc (.inl (f v (zS l r)))/\p=bh/\St l r
 |.error e=>s=bh/\p=bc (.inl e)
def fE(e:Expr)(i:Int):Int×Int×Int×ak×ak×List Expr:=(i,e.Op,e.N,e.S,e.Key,e.Args)
def fP(x:Nat×Expr)(i:Int):Int×Int×Int×Int×ak×ak×List Expr:=((x.1:Int),i,x.2.Op,x.2.N,x.2.S,x.2.Key,x.2.Args)
section
variable{l r:List ar}
def Zl(h:St l r)(t:ak)(lv m:Nat):((bif (decide ((lv:Int)<=(m:Int)))then(xz l (zS l r) t).bind λx2=>bc (x2.2,x2.1)else bc (zS l r,bd)))=bc (if lv<=m/\isB t r=bf then(zS l r.tail,bf)else(zS l r,bd)):=by
 rw[zkt h];have e:decide ((lv:Int)<=(m:Int))=decide (lv<=m):=yI ab;rw[e];by_cases hm:lv<=m
 ·cases hb:isB t r<;>simp[hm]
 ·simp[hm]
def zX9{K:Nat}(h:St l r)(ihE:∀(lv:Nat)(r':List ar),lv<=8->r'.length<r.length->St l r'->SR l (DE lv r') (ya K l (zS l r') (lv:Int)) fE):
  SR l (thn (VV r) λe r=>.ok ((8,e),r)) (aN (xK l (zS l r)) λx14=>(bif x14 then(j9 l (zS l r) 0 1099511627776).bind λx15=>bc (8,x15.2,0,x15.1,([]:ak),([]:ak),[])else(xz l (zS l r) yy).bind λx16=>(bif x16.1 then(xq l x16.2).bind λx17=>aN (xq l x17.2) λx18=>bc (8,x18.2,2,0,x17.1,x18.1,[])else(xz l x16.2 xm).bind λx19=>(bif x19.1 then(xq l x19.2).bind λx20=>bc (8,x20.2,3,0,x20.1,([]:ak),[])else(xz l x19.2 Au).bind λx21=>(bif x21.1 then(ya K l x21.2 0).bind λx22=>aN (jN l x22.1 qg) λx23=>bc (8,x23,x22.2.1,x22.2.2.1,x22.2.2.2.1,x22.2.2.2.2.1,x22.2.2.2.2.2)else(xq l x21.2).bind λx24=>bc (8,x24.2,1,0,x24.1,([]:ak),[])))))) fP:=by
 unfold VV;rw[Q6 h,bsQ]
 cases hn:HH r with
 |true =>
  rw[aP rfl,ctQ,zN]
  exact(zbh h 0 1099511627776).sr.bind λv r1 _ hs=>⟨rfl,hs⟩
 |false =>
  rw[aO af,cf,zkt h,bsQ]
  cases hb:isB yy r with
  |true =>
   have ht:=h.tail (zo hb);simp only[if_true,ctQ,zN]
   exact(HJ ht).sr.bind λv r1 _ hs=>(HJ hs).sr.bind λv2 r2 _ hs2=>⟨rfl,hs2⟩
  |false =>
   simp only[aO (show ¬(bd=bf) by simp),cf];rw[zkt h,bsQ]
   cases hz:isB xm r with
   |true =>
    have ht:=h.tail (zo hz);simp only[if_true,ctQ,zN]
    exact(HJ ht).sr.bind λv r1 _ hs=>⟨rfl,hs⟩
   |false =>
    simp only[aO (show ¬(bd=bf) by simp),cf];rw[zkt h,bsQ]
    cases hp:isB Au r with
    |true =>
     have ht:=h.tail (zo hp);simp only[if_true,ctQ,zN]
     exact(ihE 0 r.tail ab (Zf h.wf) ht).bind λv r1 _ hs=>(Vq hs _).sr.bind λ_ r2 _ hs2=>⟨rfl,hs2⟩
    |false =>
     simp only[aO (show ¬(bd=bf) by simp),cf,zN]
     exact(HJ h).sr.bind λv r1 _ hs=>⟨rfl,hs⟩
def zv1{K lv:Nat}(h:St l r)(ihE:∀(lv:Nat)(r':List ar),lv<=8->r'.length<r.length->St l r'->SR l (DE lv r') (ya K l (zS l r') (lv:Int)) fE):
  SR l (PX lv r) (ka (K+1) l (zS l r) (lv:Int)) fP:=by
 rw[ka];have e0:=Zl h WS lv 0;rw[show((0:Nat):Int)=0 from rfl]at e0;rw[e0,bsQ];unfold PX;by_cases c0:lv<=0/\isB WS r=bf
 ·rw[aP c0,aP c0]
  have ht:=zB h.wf (zo c0.2);simp only[ctQ,ifS,zN]
  refine(ihE 0 r.tail ab ht.lt (h.aft ht.e)).bind λa r1 h1 hs1=>?_
  have q1:=ht.trans (yW ht.wf h1).e
  refine(Vq hs1 _).sr.bind λ_ r2 h2 hs2=>?_
  have q2:=q1.trans (yr q1.wf h2).e
  refine(ihE 0 r2 ab q2.lt hs2).bind λb r3 h3 hs3=>?_
  have q3:=q2.trans (yW q2.wf h3).e
  refine(Vq hs3 _).sr.bind λ_ r4 h4 hs4=>?_
  have q4:=q3.trans (yr q3.wf h4).e
  exact(ihE 0 r4 ab q4.lt hs4).bind λc r5 h5 hs5=>⟨by cases a;cases b;cases c;rfl,hs5⟩
 ·rw[aO c0,aO c0]
  simp only[cf];have e3:=Zl h qS lv 3;rw[show((3:Nat):Int)=3 from rfl]at e3;rw[e3,bsQ];by_cases c3:lv<=3/\isB qS r=bf
  ·rw[aP c3,aP c3]
   have ht:=zB h.wf (zo c3.2);simp only[ctQ]
   exact(ihE 3 r.tail ab ht.lt (h.aft ht.e)).bind λa r1 h1 hs1=>⟨by cases a;rfl,hs1⟩
  ·rw[aO c3,aO c3]
   simp only[cf];have e7:=Zl h yU lv 7;rw[show((7:Nat):Int)=7 from rfl]at e7;rw[e7,bsQ];by_cases c7:lv<=7/\isB yU r=bf
   ·rw[aP c7,aP c7]
    have ht:=zB h.wf (zo c7.2);simp only[ctQ]
    exact(ihE 7 r.tail ab ht.lt (h.aft ht.e)).bind λa r1 h1 hs1=>⟨by cases a;rfl,hs1⟩
   ·rw[aO c7,aO c7]
    simp only[cf];exact zX9 h ihE
end
-- the operator that comes next
def Z1(r:List ar)(a:ak×Int×Int)(o:zd):ak×Int×Int:=if isB o.text r then(o.text,o.op,o.form)else a
def op_L{l r:List ar}(h:St l r)(c2 c3 c6:Int)(c7:ak)(c8:List Expr)(c9 c10:Int)(c11 c12:ak)(c13:List Expr):∀(os:List zd)(i K:Nat)(a:ak×Int×Int),OPS.drop i=os->i<=10->os.length<K ->
  xS l (zS l r) c2 c3 OPS 10 c6 c7 c8 c9 c10 c11 c12 c13 K ((i:Int),a.1,a.2.1,a.2.2)=bc (os.foldl (Z1 r) a):=by
 intro os
 induction os with
 |nil =>
  intro i K a hr hi hK
  obtain⟨K,rfl⟩:∃k,K=k+1:=⟨K-1,ab⟩
  have:=drop_nil hr hi;have:i=10:=this;rw[xS,df (show ¬((i:Int)<10) by omega)];rfl
 |cons o os ih =>
  intro i K a hr hi hK
  obtain⟨K,rfl⟩:∃k,K=k+1:=⟨K-1,ab⟩
  obtain⟨h1,h2,h3⟩:=xW hr;have h3:i<10:=h3;simp only[lc]at hK
  have e:(bif isB o.text r then bc (o.text,o.op,o.form)else bc (a.1,a.2.1,a.2.2))=bc (Z1 r a o):=by
   unfold Z1;cases isB o.text r<;>rfl
  rw[xS,dt (show((i:Int)<10) by omega),ctQ,yx h1,bsQ,q_is h,bsQ];simp only;rw[e,bsQ,xE ab,ih (i+1) K (Z1 r a o) h2 ab ab];rfl
def zaf:Option zd->ak×Int×Int
 |some o=>(o.text,o.op,o.form)
 |none=>([],0,0)
def zel{r:List ar}:∀{os:List zd}{a:ak×Int×Int},(∀o∈os,isB o.text r=bd)->os.foldl (Z1 r) a=a
 |[],a,_=>rfl
 |o::os,a,h=>by
  rw[dx,Z1,h o al,aO af]
  exact zel λx hx=>h x (mcQ _ hx)
def zKh(r:List ar):OPS.foldl (Z1 r) ([],0,0)=zaf (opR r):=by
 by_cases hk:(hdT r).aM=3
 ·rw[opR,aP hk]
  exact zel λo _=>by rw[isB,dt hk];rfl
 ·rw[opR,aO hk]
  have hb:∀s,isB s r=decide ((hdT r).Text=s):=λs=>by rw[isB,df hk];rfl
  generalize (hdT r).Text=t at hb;by_cases hm:∃o∈OPS,t=o.text
  ·obtain⟨o,ho,rfl⟩:=hm
   simp only[OPS,bp,cR,or_false]at ho
   rcases ho with rfl|rfl|rfl|rfl|rfl|rfl|rfl|rfl|rfl|rfl<;>simp only[OPS,dx,gJ,Z1,hb]<;>rfl
  ·have hn:∀o∈OPS,t≠o.text:=λo ho e=>hm ⟨o,ho,e⟩
   rw[zel λo ho=>by rw[hb];exact df (hn o ho),eL.2 λo ho=>by simp[hn o ho]];rfl
def zEl{l r:List ar}(h:St l r)(c2 c3 c6:Int)(c7:ak)(c8:List Expr)(c9 c10:Int)(c11 c12:ak)(c13:List Expr):
  xS l (zS l r) c2 c3 OPS 10 c6 c7 c8 c9 c10 c11 c12 c13 KK (0,([]:ak),0,0)=bc (zaf (opR r)):=by
 rw[<- zKh];exact op_L h c2 c3 c6 c7 c8 c9 c10 c11 c12 c13 OPS 0 KK ([],0,0) rfl ab (j5 ae)
def zEm{l r:List ar}(h:St l r)(c2 c3 c6:Int)(c7:ak)(c8:List Expr)(c9 c10:Int)(c11 c12:ak)(c13:List Expr):
  vN l (zS l r) c2 c3 OPS 10 c6 c7 c8 c9 c10 c11 c12 c13 KK (0,([]:ak),0,0)=bc (zaf (opR r)):=by
 have:∀K q,vN l (zS l r) c2 c3 OPS 10 c6 c7 c8 c9 c10 c11 c12 c13 K q=xS l (zS l r) c2 c3 OPS 10 c6 c7 c8 c9 c10 c11 c12 c13 K q:=by
  intro K
  induction K with
  |zero=>intro q;rfl
  |succ K ih=>intro q;rw[vN,xS];simp only[ih]
 rw[this,zEl h]
def zT6(lv own:Nat):Option zd->Bool
 |none=>bf
 |some x=>decide (x.form<(lv:Int)∨(own:Int)<x.form∨(own=4/\x.form=4))
def zN1(lv own:Nat)(o:Option zd)(ho:∀x,o=bc x->x∈OPS):((bif (decide ((zaf o).1=([]:ak)))then bc bf else(bif (decide ((zaf o).2.2<(lv:Int)))then bc bf else(bif (decide ((own:Int)<(zaf o).2.2))then bc bf else(bif (decide ((own:Int)=4))then bc (decide ((zaf o).2.2=4))else bc bd)))))=bc (zT6 lv own o):=by
 cases o with
 |none=>rfl
 |some x =>
  obtain⟨f,h1,_,h3⟩:=Yr (ho x rfl);have e0:decide ((zaf (bc x)).1=([]:ak))=bd:=df h3;rw[e0,cf];unfold zT6;change (bif (decide (x.form<(lv:Int)))then bc bf else(bif (decide ((own:Int)<x.form))then bc bf else(bif (decide ((own:Int)=4))then bc (decide (x.form=4))else bc bd)))=_;by_cases a:x.form<(lv:Int)
  ·simp[a]
  ·by_cases b:(own:Int)<x.form
   ·simp[a,b]
   ·by_cases c:own=4
    ·subst c
     have b':¬((4:Int)<x.form):=b;simp[a,b']
    ·have:¬((own:Int)=4):=ab
     simp[a,b,c,this]
def zN2(l:List ar):∀(n K lv:Nat)(r:List ar),r.length<n->2*n<=K->lv<=8->St l r->SR l (DE lv r) (ya K l (zS l r) (lv:Int)) fE:=by
 intro n
 induction n with
 |zero=>intro K lv r h;omega
 |succ n ih =>
  intro K lv r hn hK hl h
  obtain⟨K,rfl⟩:∃k,K=k+2:=⟨K-2,ab⟩
  have ihE:∀(lv:Nat)(r':List ar),lv<=8->r'.length<r.length->St l r'->SR l (DE lv r') (ya K l (zS l r') (lv:Int)) fE:=λlv r' h1 h2 h3=>ih K lv r' ab ab h1 h3
  -- the loop
  have loop:∀(m:Nat)(r':List ar)(own:Nat)(e:Expr)(Q:Nat),r'.length<m->m<=Q->r'.length<r.length->St l r' ->
    SR l (CL lv own e r') ((jT (ya (K+1)) l (lv:Int) 0 ([]:ak) [] Q (zS l r',(own:Int),e.Op,e.N,e.S,e.Key,e.Args)).bind (wq bc λ_=>bh)) fE:=by
   intro m
   induction m with
   |zero=>intro r' own e Q h;omega
   |succ m ihm =>
    intro r' own e Q hm hQ hlt hs
    obtain⟨Q,rfl⟩:∃k,Q=k+1:=⟨Q-1,ab⟩
    rw[jT,show vc=bc OPS from rfl,bsQ,show((bg OPS:Nat):Int)=10 from rfl,zEl hs,bsQ];simp only;rw[zN1 lv own _ (λx hx=>(vI hx).2.1),bsQ,zX6 hs.wf]
    cases ho:opR r' with
    |none=>exact⟨rfl,hs⟩
    |some o =>
     obtain⟨hk,hmem,_⟩:=vI ho;obtain⟨f,hf,hf2,_⟩:=Yr hmem;dsimp only;by_cases hc:o.form<(lv:Int)∨(own:Int)<o.form∨(own=4/\o.form=4)
     ·rw[aP hc,zT6,dt hc]
      exact⟨rfl,hs⟩
     ·rw[aO hc,zT6,df hc,cf,hs.step]
      have ht:=zB hs.wf hk
      have e1:w64 ((zaf (bc o)).2.2+1)=((f+1:Nat):Int):=by
       show w64 (o.form+1)=_
       rw[hf,wL ab ab];rfl
      rw[e1,cL];have ih2:=ih (K+1) (f+1) r'.tail (by have:=ht.lt;omega) ab ab (hs.aft ht.e);rw[hf,dQ]
      refine ih2.bind λe2 r2 h2 hs2=>?_
      have hq:=ht.trans (yW ht.wf h2).e;have:=ihm r2 f (Vr o.op e e2) Q (by have:=hq.lt;omega) ab (by have:=hq.lt;omega) hs2;refine Eq.mp ?_ this
      congr 4
      simp only[fE,zaf,hf,Vr];cases e;cases e2;rfl
  rw[ya,zX7 hl h.wf]
  refine(zv1 h ihE).bind λx r1 h1 hs1=>?_
  have hq:=zEh h.wf h1;exact loop (r1.length+1) r1 x.1 x.2 KK ab (by have:=j5 (n:=r1.length+1) (by have:=hs1.lt;have:=hs1.len;omega);omega) hq.lt hs1
end Go.Proofs.YtffencjoddkghaaGreatDoor
namespace Go.Proofs.YtffencjoddkghaaGreatDoor
open Go Go.RowKit Go.Eng Go.EV Go.EQ
variable[Fuel]
def PR{α:Type}(x:Except EE (α×List ar))(p:Option EE):Prop:=match x with
 |.ok _=>p=bh
 |.error e=>p=bc e
def RT.pr{α β:Type}{l:List ar}{x:Except EE (α×List ar)}{s:Option β}{p:Option EE}{f:α->Int->β}(h:RT l x s p f):PR x p:=by
 match x,h with
 |.ok (v,r),h=>exact h.2.1
 |.error e,h=>exact h.2
def rt_of{α β:Type}{l:List ar}{x:Except EE (α×List ar)}{s:Option β}{p:Option EE}{f:α->Int->β}(h:SR l x s f)(k:PR x p):RT l x s p f:=by
 match x,h,k with
 |.ok (v,r),h,k=>exact⟨h.1,k,h.2⟩
 |.error e,h,k=>exact⟨h,k⟩
def PR.bind{α β α':Type}{l:List ar}{x:Except EE (α×List ar)}{s:Option β}{p:Option EE}{f:α->Int->β}{g:α->List ar->Except EE (α'×List ar)}{p2:β->Option EE}
  (hs:SR l x s f) (h:PR x p) (h2:∀v r,x=.ok (v,r)->St l r->PR (g v r) (p2 (f v (zS l r)))):PR (thn x g) (orC p (λq=>bc q) (s.bind p2)):=by
 match x,hs,h,h2 with
 |.error e,hs,h,_=>show _=bc e;rw[show p=bc e from h];rfl
 |.ok (v,r),⟨hs,hst⟩,h,h2 =>
  have:=h2 v r rfl hst;rw[show p=bh from h,hs];exact this
def PR.last{α β α':Type}{l:List ar}{x:Except EE (α×List ar)}{s:Option β}{p:Option EE}{f:α->Int->β}{g:α->List ar->α'}(hs:SR l x s f)(h:PR x p):PR (thn x λv r=>.ok (g v r,r)) (orC p (λq=>bc q) (s.bind λ_=>bh)):=PR.bind hs h λ_ _ _ _=>rfl
section
variable{l r:List ar}
def zYa{K:Nat}(h:St l r)(ihS:∀(lv:Nat)(r':List ar),lv<=8->r'.length<r.length->St l r'->SR l (DE lv r') (ya KK l (zS l r') (lv:Int)) fE)
  (ihE:∀(lv:Nat)(r':List ar),lv<=8->r'.length<r.length->St l r'->PR (DE lv r') (xa K l (zS l r') (lv:Int))):
  PR (thn (VV r) λe r=>.ok ((8,e),r)) (aN (xK l (zS l r)) λx21=>(bif x21 then(orC (oo l (zS l r) 0 1099511627776) (λx22=>bc x22) (aN (j9 l (zS l r) 0 1099511627776) λ_=>bh))else(xz l (zS l r) yy).bind λx24=>(bif x24.1 then(orC (jO l x24.2) (λx25=>bc x25) (aN (xq l x24.2) λx26=>(orC (jO l x26.2) (λx27=>bc x27) (aN (xq l x26.2) λ_=>bh))))else(xz l x24.2 xm).bind λx29=>(bif x29.1 then(orC (jO l x29.2) (λx30=>bc x30) (aN (xq l x29.2) λ_=>bh))else(xz l x29.2 Au).bind λx32=>(bif x32.1 then(orC (xa K l x32.2 0) (λx33=>bc x33) (aN (ya KK l x32.2 0) λx34=>(orC (AF l x34.1 qg) (λx35=>bc x35) (aN (jN l x34.1 qg) λ_=>bh))))else(orC (jO l x32.2) (λx37=>bc x37) (aN (xq l x32.2) λ_=>bh))))))):=by
 unfold VV;rw[Q6 h,bsQ]
 cases hn:HH r with
 |true =>
  rw[aP rfl,ctQ,zN];exact PR.last (zbh h 0 1099511627776).sr (zbh h 0 1099511627776).pr
 |false =>
  rw[aO af,cf,zkt h,bsQ]
  cases hb:isB yy r with
  |true =>
   have ht:=h.tail (zo hb);simp only[if_true,ctQ,zN]
   exact PR.bind (HJ ht).sr (HJ ht).pr λv r1 _ hs=>PR.last (HJ hs).sr (HJ hs).pr
  |false =>
   simp only[aO (show ¬(bd=bf) by simp),cf];rw[zkt h,bsQ]
   cases hz:isB xm r with
   |true =>
    have ht:=h.tail (zo hz);simp only[if_true,ctQ,zN];exact PR.last (HJ ht).sr (HJ ht).pr
   |false =>
    simp only[aO (show ¬(bd=bf) by simp),cf];rw[zkt h,bsQ]
    cases hp:isB Au r with
    |true =>
     have ht:=h.tail (zo hp);simp only[if_true,ctQ,zN]
     exact PR.bind (ihS 0 r.tail ab (Zf h.wf) ht) (ihE 0 r.tail ab (Zf h.wf) ht) λv r1 _ hs=>PR.last (Vq hs _).sr (Vq hs _).pr
    |false =>
     simp only[aO (show ¬(bd=bf) by simp),cf,zN];exact PR.last (HJ h).sr (HJ h).pr
def zKi{K lv:Nat}(h:St l r)(ihS:∀(lv:Nat)(r':List ar),lv<=8->r'.length<r.length->St l r'->SR l (DE lv r') (ya KK l (zS l r') (lv:Int)) fE)
  (ihE:∀(lv:Nat)(r':List ar),lv<=8->r'.length<r.length->St l r'->PR (DE lv r') (xa K l (zS l r') (lv:Int))):PR (PX lv r) (oq (K+1) l (zS l r) (lv:Int)):=by
 rw[oq];have e0:=Zl h WS lv 0;rw[show((0:Nat):Int)=0 from rfl]at e0;rw[e0,bsQ];unfold PX;by_cases c0:lv<=0/\isB WS r=bf
 ·rw[aP c0,aP c0]
  have ht:=zB h.wf (zo c0.2);have hst:=h.aft ht.e;simp only[ctQ,ifS,zN]
  refine PR.bind (ihS 0 r.tail ab ht.lt hst) (ihE 0 r.tail ab ht.lt hst) λa r1 h1 hs1=>?_
  have q1:=ht.trans (yW ht.wf h1).e
  refine PR.bind (Vq hs1 _).sr (Vq hs1 _).pr λ_ r2 h2 hs2=>?_
  have q2:=q1.trans (yr q1.wf h2).e
  refine PR.bind (ihS 0 r2 ab q2.lt hs2) (ihE 0 r2 ab q2.lt hs2) λb r3 h3 hs3=>?_
  have q3:=q2.trans (yW q2.wf h3).e
  refine PR.bind (Vq hs3 _).sr (Vq hs3 _).pr λ_ r4 h4 hs4=>?_
  have q4:=q3.trans (yr q3.wf h4).e;exact PR.last (ihS 0 r4 ab q4.lt hs4) (ihE 0 r4 ab q4.lt hs4)
 ·rw[aO c0,aO c0]
  simp only[cf];have e3:=Zl h qS lv 3;rw[show((3:Nat):Int)=3 from rfl]at e3;rw[e3,bsQ];by_cases c3:lv<=3/\isB qS r=bf
  ·rw[aP c3,aP c3]
   have ht:=zB h.wf (zo c3.2);have hst:=h.aft ht.e;simp only[ctQ];exact PR.last (ihS 3 r.tail ab ht.lt hst) (ihE 3 r.tail ab ht.lt hst)
  ·rw[aO c3,aO c3]
   simp only[cf];have e7:=Zl h yU lv 7;rw[show((7:Nat):Int)=7 from rfl]at e7;rw[e7,bsQ];by_cases c7:lv<=7/\isB yU r=bf
   ·rw[aP c7,aP c7]
    have ht:=zB h.wf (zo c7.2);have hst:=h.aft ht.e;simp only[ctQ];exact PR.last (ihS 7 r.tail ab ht.lt hst) (ihE 7 r.tail ab ht.lt hst)
   ·rw[aO c7,aO c7]
    simp only[cf];exact zYa h ihS ihE
end
def zh2:18446744073709551616<=KK:=Fuel.big
def zso{l r:List ar}{lv:Nat}(hl:lv<=8)(h:St l r):SR l (DE lv r) (ya KK l (zS l r) (lv:Int)) fE:=by
 have h1:=h.lt;have h2:=h.len;have h3:=zh2;exact zN2 l (r.length+1) KK lv r ab ab hl h
def zYb(l:List ar):∀(n K lv:Nat)(r:List ar),r.length<n->2*n<=K->lv<=8->St l r->PR (DE lv r) (xa K l (zS l r) (lv:Int)):=by
 intro n
 induction n with
 |zero=>intro K lv r h;omega
 |succ n ih =>
  intro K lv r hn hK hl h
  obtain⟨K,rfl⟩:∃k,K=k+2:=⟨K-2,ab⟩
  have ihE:∀(lv:Nat)(r':List ar),lv<=8->r'.length<r.length->St l r'->PR (DE lv r') (xa K l (zS l r') (lv:Int)):=λlv r' h1 h2 h3=>ih K lv r' ab ab h1 h3
  have loop:∀(m:Nat)(r':List ar)(own:Nat)(e:Expr)(Q:Nat),r'.length<m->m<=Q->r'.length<r.length->St l r' ->
    PR (CL lv own e r') ((jU (xa (K+1)) l (lv:Int) 0 ([]:ak) [] Q (zS l r',(own:Int),e.Op,e.N,e.S,e.Key,e.Args)).bind (wq bc λ_=>bh)):=by
   intro m
   induction m with
   |zero=>intro r' own e Q h;omega
   |succ m ihm =>
    intro r' own e Q hm hQ hlt hs
    obtain⟨Q,rfl⟩:∃k,Q=k+1:=⟨Q-1,ab⟩
    rw[jU,show vc=bc OPS from rfl,bsQ,show((bg OPS:Nat):Int)=10 from rfl,zEm hs,bsQ];simp only;rw[zN1 lv own _ (λx hx=>(vI hx).2.1),bsQ,zX6 hs.wf]
    cases ho:opR r' with
    |none=>exact rfl
    |some o =>
     obtain⟨hk,hmem,_⟩:=vI ho;obtain⟨f,hf,hf2,_⟩:=Yr hmem;dsimp only;by_cases hc:o.form<(lv:Int)∨(own:Int)<o.form∨(own=4/\o.form=4)
     ·rw[aP hc,zT6,dt hc]
      exact rfl
     ·rw[aO hc,zT6,df hc,cf,hs.step]
      have ht:=zB hs.wf hk
      have e1:w64 ((zaf (bc o)).2.2+1)=((f+1:Nat):Int):=by
       show w64 (o.form+1)=_
       rw[hf,wL ab ab];rfl
      rw[e1];have hst:=hs.aft ht.e;have hS:=zso (lv:=f+1) ab hst;have hP:=ih (K+1) (f+1) r'.tail (by have:=ht.lt;omega) ab ab hst;rw[hf,dQ]
      cases hx:DE (f+1) r'.tail with
      |error er =>
       rw[hx]at hP;rw[show xa (K+1) l (zS l r'.tail) ((f+1:Nat):Int)=bc er from hP];rfl
      |ok y =>
       obtain⟨e2,r2⟩:=y;rw[hx]at hP hS;have hq:=ht.trans (yW ht.wf hx).e;have hs2:=hS.2;rw[show xa (K+1) l (zS l r'.tail) ((f+1:Nat):Int)=bh from hP,hS.1];have:=ihm r2 f (Vr o.op e e2) Q (by have:=hq.lt;omega) ab (by have:=hq.lt;omega) hs2;refine Eq.mp ?_ this
       show _=PR (CL lv f (Vr o.op e e2) r2) _
       congr 4
       simp only[fE,zaf,hf,Vr];cases e;cases e2;rfl
  rw[xa,zX7 hl h.wf]
  have hS:SR l (PX lv r) (ka KK l (zS l r) (lv:Int)) fP:=by
   have h3:=zh2;have h1:=h.lt;have h2:=h.len
   obtain⟨k,hk⟩:∃k,KK=k+1:=⟨KK-1,ab⟩
   rw[hk]
   exact zv1 h λlv r' q1 q2 q3=>zN2 l (r'.length+1) k lv r' ab ab q1 q3
  refine PR.bind hS (zKi h (λlv r' q1 q2 q3=>zso q1 q3) ihE) λx r1 h1 hs1=>?_
  have hq:=zEh h.wf h1;exact loop (r1.length+1) r1 x.1 x.2 KK ab (by have:=j5 (n:=r1.length+1) (by have:=hs1.lt;have:=hs1.len;omega);omega) hq.lt hs1
def zYc{l r:List ar}{lv:Nat}(hl:lv<=8)(h:St l r):RT l (DE lv r) (ya KK l (zS l r) (lv:Int)) (xa KK l (zS l r) (lv:Int)) fE:=by
 have h1:=h.lt;have h2:=h.len;have h3:=zh2;exact rt_of (zso hl h) (zYb l (r.length+1) KK lv r ab ab hl h)
def Zm(b:BB):zn b=vE b.l b.i:=rfl
def is2(b:BB)(s:ak):vF b s=zcw b.l b.i s:=rfl
def has2(b:BB)(s:ak):zC b s=xz b.l b.i s:=rfl
def Am(b:BB)(c:Bool)(e:Int):zf b c e=yA b.l b.i c e:=rfl
def JG(b:BB)(c:Bool)(e:Int):zt b c e=we b.l b.i c e:=rfl
def zR0(b:BB)(s:ak):zy b s=jN b.l b.i s:=rfl
def zN3(b:BB)(s:ak):yh b s=AF b.l b.i s:=rfl
def zem(b:BB):yg b=xK b.l b.i:=rfl
def qA(b:BB):zJ b=oj b.l b.i:=rfl
def V4(b:BB):zL b=xq b.l b.i:=rfl
def Z5(b:BB):yS b=jO b.l b.i:=rfl
def zsp(b:BB)(x y:Int):zk b x y=j9 b.l b.i x y:=rfl
def zv2(b:BB)(x y:Int):zA b x y=oo b.l b.i x y:=rfl
def L2_2(b:BB)(c1:Int){c17 c18 c21 c24 c25 d2 d3 d6 d9 d10:Int}{ops:List zd}{n:Int}{c22 c26 c27 d7 d11 d12:ak}{c23 c28 d8 d13:List Expr}:∀(K:Nat)(q:Int×ak×Int×Int),
  kE b c1 c17 c18 ops n c21 c22 c23 c24 c25 c26 c27 c28 K q=xS b.l c1 d2 d3 ops n d6 d7 d8 d9 d10 d11 d12 d13 K q
 |0,q=>rfl
 |K+1,q=>by
  rw[kE,xS];simp only[is2,L2_2 b c1 (d2:=d2) (d3:=d3) (d6:=d6) (d7:=d7) (d8:=d8) (d9:=d9) (d10:=d10) (d11:=d11) (d12:=d12) (d13:=d13) K]
def zYd(b:BB)(c1:Int){c17 c18 c21 c24 c25 d2 d3 d6 d9 d10:Int}{ops:List zd}{n:Int}{c22 c26 c27 d7 d11 d12:ak}{c23 c28 d8 d13:List Expr}:∀(K:Nat)(q:Int×ak×Int×Int),
  kK b c1 c17 c18 ops n c21 c22 c23 c24 c25 c26 c27 c28 K q=vN b.l c1 d2 d3 ops n d6 d7 d8 d9 d10 d11 d12 d13 K q
 |0,q=>rfl
 |K+1,q=>by
  rw[kK,vN];simp only[is2,zYd b c1 (d2:=d2) (d3:=d3) (d6:=d6) (d7:=d7) (d8:=d8) (d9:=d9) (d10:=d10) (d11:=d11) (d12:=d12) (d13:=d13) K]
def L1_2{r1:BB->Int->Option (Int×Int×Int×ak×ak×(List Expr))}{r2:(List ar)->Int->Int->Option (Int×Int×Int×ak×ak×(List Expr))}(hr:∀b f,r1 b f=r2 b.l b.i f)(b:BB)(c1 c2:Int)(c3:ak)(c4:List Expr):∀(K:Nat) q,
  kG r1 b c1 c2 c3 c4 K q=jT r2 b.l c1 c2 c3 c4 K q
 |0,q=>rfl
 |K+1,q=>by
  rw[kG,jT];simp only[hr,L1_2 hr b c1 c2 c3 c4 K,L2_2 { b with i:=0 } q.1 (d2:=c1) (d3:=q.2.1) (d6:=c2) (d7:=c3) (d8:=c4) (d9:=q.2.2.1) (d10:=q.2.2.2.1) (d11:=q.2.2.2.2.1) (d12:=q.2.2.2.2.2.1) (d13:=q.2.2.2.2.2.2)]
def zpg:∀K:Nat,(∀b f,qX K b f=ka K b.l b.i f)/\(∀b f,z7 K b f=ya K b.l b.i f)
 |0=>⟨λ_ _=>rfl,λ_ _=>rfl⟩
 |K+1=>by
  have ih:=zpg K;refine⟨λb f=>?_,λb f=>?_⟩
  ·rw[qX,ka]
   simp only[has2,zR0,V4,zsp,zem,ih.2]
  ·rw[z7,ya]
   simp only[ih.1,L1_2 ih.2]
def zYe{r1:BB->Int->Option (Int×Int)}{r2:(List ar)->Int->Int->Option (Int×Int)}(hr:∀b f,r1 b f=r2 b.l b.i f)(b:BB)(c1 c2:Int)(c3:ak)(c4:List Expr):∀(K:Nat) q,
  kL r1 b c1 c2 c3 c4 K q=jU r2 b.l c1 c2 c3 c4 K q
 |0,q=>rfl
 |K+1,q=>by
  rw[kL,jU];simp only[hr,zYe hr b c1 c2 c3 c4 K,(zpg KK).2,zYd { b with i:=0 } q.1 (d2:=c1) (d3:=q.2.1) (d6:=c2) (d7:=c3) (d8:=c4) (d9:=q.2.2.1) (d10:=q.2.2.2.1) (d11:=q.2.2.2.2.1) (d12:=q.2.2.2.2.2.1) (d13:=q.2.2.2.2.2.2)]
def zN4:∀K:Nat,(∀b f,AI K b f=oq K b.l b.i f)/\(∀b f,xu K b f=xa K b.l b.i f)
 |0=>⟨λ_ _=>rfl,λ_ _=>rfl⟩
 |K+1=>by
  have ih:=zN4 K;refine⟨λb f=>?_,λb f=>?_⟩
  ·rw[AI,oq]
   simp only[has2,zR0,zN3,V4,Z5,zsp,zv2,zem,ih.2,(zpg KK).2]
  ·rw[xu,xa]
   simp only[ih.1,zYe ih.2,(zpg KK).1]
-- the builder at a place
structure At(b:BB)(r:List ar):Prop where
 st:St b.l r
 at_:b.i=zS b.l r
section
variable{b:BB}{r:List ar}
def At.next(h:At b r):zn b=bc ((hdT r).aM,(hdT r).Text,(hdT r).N,(hdT r).Pos):=by rw[Zm,h.at_,Yf h.st]
def At.is(h:At b r)(s:ak):vF b s=bc (isB s r):=by rw[is2,h.at_,q_is h.st]
def At.has(h:At b r)(s:ak):zC b s=bc (isB s r,if isB s r then zS b.l r.tail else zS b.l r):=by rw[has2,h.at_,zkt h.st]
def At.isNumber(h:At b r):yg b=bc (HH r):=by rw[zem,h.at_,Q6 h.st]
def At.isName(h:At b r):zJ b=bc (Ye r):=by rw[qA,h.at_,zvp h.st]
def At.check(h:At b r)(c:Bool)(e:Int):RT b.l (HI c e r) (zf b c e) (zt b c e) (λ_ _=>()):=by rw[Am,JG,h.at_];exact zsh h.st c e
def At.want(h:At b r)(s:ak):RT b.l (xH s r) (zy b s) (yh b s) (λ_ i=>i):=by rw[zR0,zN3,h.at_];exact Vq h.st s
def At.name(h:At b r):RT b.l (kX r) (zL b) (yS b) (λv i=>(v,i)):=by rw[V4,Z5,h.at_];exact HJ h.st
def At.number(h:At b r)(lo hi:Int):RT b.l (jQ lo hi r) (zk b lo hi) (zA b lo hi) (λv i=>(v,i)):=by rw[zsp,zv2,h.at_];exact zbh h.st lo hi
def At.expr(h:At b r):RT b.l (DE 0 r) (z7 KK b 0) (xu KK b 0) fE:=by rw[(zpg KK).2,(zN4 KK).2,h.at_];exact zYc (lv:=0) ab h.st
def At.step(h:At b r):w64 (b.i+1)=zS b.l r.tail:=by rw[h.at_,h.st.step]
end
def yl{b b2:BB}{r:List ar}(hl:b2.l=b.l)(hi:b2.i=zS b.l r)(h:St b.l r):At b2 r:=⟨by rw[hl];exact h,by rw[hi,hl]⟩
def RR{α β:Type}(l:List ar)(x:Except EE (α×List ar))(s:Option β)(p:Option EE)(S:α->Int->β->Prop):Prop:=match x with
 |.ok (v,r)=>(∃y,s=bc y/\S v (zS l r) y)/\p=bh/\St l r
 |.error e=>s=bh/\p=bc e
def RJ{α γ:Type}(l:List ar)(x:Except EE (α×List ar))(s:Option γ)(p:Option (EE⊕γ))(f:α->Int->γ):Prop:=match x with
 |.ok (v,r)=>s=bc (f v (zS l r))/\p=bc (.inr (f v (zS l r)))/\St l r
 |.error e=>s=bh/\p=bc (.inl e)
section
variable{α β α' β' γ δ:Type}{l:List ar}{x:Except EE (α×List ar)}{s:Option β}{p:Option EE}{f:α->Int->β}{g:α->List ar->Except EE (α'×List ar)}{s2:β->Option β'}{p2:β->Option EE}{f2:α'->Int->β'}
def RT.rr(h:RT l x s p f):RR l x s p (λv i y=>y=f v i):=by
 match x,h with
 |.ok (v,r),h=>exact⟨⟨_,h.1,rfl⟩,h.2.1,h.2.2⟩
 |.error e,h=>exact h
def RR.rt(h:RR l x s p (λv i y=>y=f v i)):RT l x s p f:=by
 match x,h with
 |.ok (v,r),⟨⟨y,h1,h2⟩,h3,h4⟩=>exact⟨by rw[h1,h2],h3,h4⟩
 |.error e,h=>exact h
def RR.bind{S:α->Int->β->Prop}{S2:α'->Int->β'->Prop}(h:RR l x s p S)(h2:∀v r y,x=.ok (v,r)->St l r->S v (zS l r) y->RR l (g v r) (s2 y) (p2 y) S2):RR l (thn x g) (s.bind s2) (orC p (λq=>bc q) (s.bind p2)) S2:=by
 match x,h,h2 with
 |.error e,⟨h,h'⟩,_=>exact⟨by rw[h];rfl,by rw[h'];rfl⟩
 |.ok (v,r),⟨⟨y,h,hy⟩,h',hs⟩,h2 =>
  have:=h2 v r y rfl hs hy;rw[h,h'];exact this
def RT.bindR{S2:α'->Int->β'->Prop}(h:RT l x s p f)(h2:∀v r,x=.ok (v,r)->St l r->RR l (g v r) (s2 (f v (zS l r))) (p2 (f v (zS l r))) S2):RR l (thn x g) (s.bind s2) (orC p (λq=>bc q) (s.bind p2)) S2 :=
 h.rr.bind λv r y h1 hs hy=>by subst hy;exact h2 v r h1 hs
def RJ.bindR{sj:Option γ}{pj:Option (EE⊕γ)}{fj:α->Int->γ}{s2:γ->Option β'}{p2:γ->Option EE}{S2:α'->Int->β'->Prop}(h:RJ l x sj pj fj)(h2:∀v r,x=.ok (v,r)->St l r->RR l (g v r) (s2 (fj v (zS l r))) (p2 (fj v (zS l r))) S2):RR l (thn x g) (sj.bind s2) (pj.bind (wq bc p2)) S2:=by
 match x,h,h2 with
 |.error e,⟨h,h'⟩,_=>exact⟨by rw[h];rfl,by rw[h'];rfl⟩
 |.ok (v,r),⟨h,h',hs⟩,h2 =>
  have:=h2 v r rfl hs;rw[h,h'];exact this
def RJ.bindT{sj:Option γ}{pj:Option (EE⊕γ)}{fj:α->Int->γ}{s2:γ->Option β'}{p2:γ->Option EE}(h:RJ l x sj pj fj)(h2:∀v r,x=.ok (v,r)->St l r->RT l (g v r) (s2 (fj v (zS l r))) (p2 (fj v (zS l r))) f2):RT l (thn x g) (sj.bind s2) (pj.bind (wq bc p2)) f2 :=
 (h.bindR λv r h1 hs=>(h2 v r h1 hs).rr).rt
def RT.bindJ{s2:β->Option γ}{p2:β->Option (EE⊕γ)}{fj:α'->Int->γ}(h:RT l x s p f)(h2:∀v r,x=.ok (v,r)->St l r->RJ l (g v r) (s2 (f v (zS l r))) (p2 (f v (zS l r))) fj):RJ l (thn x g) (s.bind s2) (orC p (λq=>bc (.inl q)) (s.bind p2)) fj:=by
 match x,h,h2 with
 |.error e,⟨h,h'⟩,_=>exact⟨by rw[h];rfl,by rw[h'];rfl⟩
 |.ok (v,r),⟨h,h',hs⟩,h2 =>
  have:=h2 v r rfl hs;rw[h,h'];exact this
def RR.ret{r:List ar}{v:α}{y:β}{S:α->Int->β->Prop}(hs:St l r)(hy:S v (zS l r) y):RR l (.ok (v,r)) (bc y) bh S:=⟨⟨y,rfl,hy⟩,rfl,hs⟩
def RTS.rt{sj:Option (β⊕γ)}{pj:Option (EE⊕δ)}{k:γ->Option β}{k2:δ->Option EE}(h:RTS l x sj pj f):RT l x (sj.bind (wq bc k)) (pj.bind (wq bc k2)) f:=by
 match x,h with
 |.ok (v,r),⟨h,h',hs⟩=>exact⟨by rw[h];rfl,by rw[h'];rfl,hs⟩
 |.error e,⟨h,h'⟩=>exact⟨by rw[h];rfl,by rw[h'];rfl⟩
def RT.bindS{s2:β->Option (β'⊕γ)}{p2:β->Option (EE⊕δ)}(h:RT l x s p f)(h2:∀v r,x=.ok (v,r)->St l r->RTS l (g v r) (s2 (f v (zS l r))) (p2 (f v (zS l r))) f2):RTS l (thn x g) (s.bind s2) (orC p (λq=>bc (.inl q)) (s.bind p2)) f2:=by
 match x,h,h2 with
 |.error e,⟨h,h'⟩,_=>exact⟨by rw[h];rfl,by rw[h'];rfl⟩
 |.ok (v,r),⟨h,h',hs⟩,h2 =>
  have:=h2 v r rfl hs;rw[h,h'];exact this
end
-- what is read
def xX(known:List ak)(r:List ar):Except EE (ak×List ar):=if Ye r then(if(hdT r).Text∈known then .error (zfu r 5)else .ok ((hdT r).Text,r.tail))else .error (zfu r 14)
def wo(most:Int)(r:List ar):Except EE (Int×List ar):=if isB yU r then thn (jQ 0 most r.tail) λn r=>.ok (0-n,r)else jQ 0 most r
def vm(w:List ak)(r:List ar):Except EE (Int×List ar):=if(hdT r).aM=0 then(match A4 (hdT r).Text w with|some i=>.ok ((i:Int),r.tail)|none=>.error (zfu r 14))else .error (zfu r 14)
def vA:Nat->List zU->List ar->Except EE (List zU×List ar)
 |0,_,_=>oof
 |n+1,acc,r=>thn (jQ 0 1048576 r) λx r=>thn (jQ 0 1048576 r) λy r=>if HH r then vA n (acc++[zU.mk x y]) r else .ok (acc++[zU.mk x y],r)
def uh(r:List ar):Except EE (zg×List ar):=thn (jQ 0 1048576 r) λx r=>thn (jQ 0 1048576 r) λy r=>thn (jQ 0 4096 r) λz r=>.ok (zg.mk x y z,r)
def zh3(c:Bool)(e:Int)(r:List ar):Except EE (Unit×List ar):=thn (HI (isB yf r) 14 r) λ_ r=>thn (HI c e r) λ_ r=>.ok ((),r.tail)
def Kt:Nat->List ak->List ar->Except EE (List ak×List ar)
 |0,_,_=>oof
 |n+1,acc,r=>if Ye r then thn (kX r) λs r=>Kt n (acc++[s]) r else .ok (acc,r)
def A6(r:List ar):Except EE (List ak×List ar):=thn (kX r) λs r1=>Kt (r1.length+1) [s] r1
def KN(m:List (ak×Bool))(L:List ak):Prop:=∀x,(xj x m).getD bd=decide (x∈L)
def MN(D:List (List (ak×Bool)))(L:List ak):Prop:=(D=[]/\L=[])∨∃m,D=[m]/\KN m L
def zN5:KN [] []:=λx=>by simp[xj]
def zh4{α β:Type}[DecidableEq α](a x:α)(b:β):∀l:List (α×β),xj x (u9 a b l)=if x=a then bc b else xj x l
 |[]=>by simp[u9,xj]
 |(k,c)::r=>by
  have ih:=zh4 a x b r;simp only[u9];by_cases h:a=k
  ·rw[aP h]
   subst h;by_cases h2:x=a
   ·simp[xj,h2]
   ·simp[xj,h2]
  ·rw[aO h]
   simp only[xj,ih];by_cases h2:x=k
   ·subst h2
    simp[Ne.symm h]
   ·simp[h2]
def KN.add{m:List (ak×Bool)}{L:List ak}(h:KN m L)(s:ak):KN (u9 s bf m) (L++[s]):=λx=>by
 rw[zh4];by_cases e:x=s
 ·simp[e]
 ·rw[aO e,h x]
  exact yI (by simp[e])
section
variable{b:BB}{r:List ar}
def zph{known:List (ak×Bool)}{L:List ak}(h:At b r)(hk:KN known L):RT b.l (xX L r) (yc b known) (yq b known) (λv i=>(v,i,u9 v bf known)):=by
 unfold yc yq xX;simp only[h.isName,bsQ,h.next,Am,JG,h.at_];have hc:=zsh h.st;have hn:=h.name;unfold kX at hn
 cases hb:Ye r with
 |false =>
  have:=hc bd 14;rw[show HI bd 14 r=.error (zfu r 14) from rfl]at this;rw[this.1,this.2];exact⟨rfl,rfl⟩
 |true =>
  rw[hb]at hn;have h1:=hc bf 14;rw[show HI bf 14 r=.ok ((),r) from rfl]at h1;rw[h1.1,h1.2.1];simp only[bsQ,orC,if_true];rw[hk (hdT r).Text];by_cases hm:(hdT r).Text∈L
  ·rw[aP hm,dt hm]
   have h2:=hc bd 5;rw[show HI bd 5 r=.error (zfu r 5) from rfl]at h2;rw[bW,h2.1,h2.2];exact⟨rfl,rfl⟩
  ·rw[aO hm,df hm]
   have h2:=hc bf 5;rw[show HI bf 5 r=.ok ((),r) from rfl]at h2;rw[cC,h2.1,h2.2.1];obtain⟨n1,n2,n3⟩:=hn;simp only[bsQ,orC];rw[n1,n2];exact⟨rfl,rfl,n3⟩
def Ys(h:At b r)(most:Int)(hm:most<=1099511627776):RT b.l (wo most r) (wI b most) (ql b most) (λv i=>(v,i)):=by
 unfold wI ql wo;rw[h.has,bsQ,bsQ]
 cases hb:isB yU r with
 |true =>
  simp only[if_true,ctQ];have h2:At { b with i:=zS b.l r.tail } r.tail:=yl rfl rfl (h.st.tail (zo hb))
  refine(h2.number 0 most).bind λv r1 h1 hs=>?_
  have hw:w64 (0-v)=0-v:=by
   unfold jQ at h1;split at h1
   ·split at h1
    ·cases h1;rename_i hh;exact wL ab ab
    ·cases h1
   ·cases h1
  show RT _ _ (bc (w64 (0-v),_)) _ _
  rw[hw];exact⟨rfl,rfl,hs⟩
 |false =>
  simp only[aO (show ¬(bd=bf) by simp),cf];have h2:At { b with i:=zS b.l r } r:=yl rfl rfl h.st
  have:=(h2.number 0 most).bind (g:=λv r=>.ok (v,r)) (s2:=λx3=>bc (x3.1,x3.2)) (p2:=λ_=>bh) (f2:=λv i=>(v,i)) λv r1 h1 hs=>⟨rfl,rfl,hs⟩
  rw[Yg]at this;exact this
def zR1(w:List ak)(s:ak)(hw:w.length<1000):∀(k:List ak)(i K:Nat),w.drop i=k->i<=w.length->k.length<K->xO w s (w.length:Int) K (i:Int)=bc (match A4 s k with|some j=>.inl ((i+j:Nat):Int)|none=>.inr ()):=by
 intro k
 induction k with
 |nil =>
  intro i K hr hi hK
  obtain⟨K,rfl⟩:∃k,K=k+1:=⟨K-1,ab⟩
  have:=drop_nil hr hi;rw[xO,df ab];rfl
 |cons c k ih =>
  intro i K hr hi hK
  obtain⟨K,rfl⟩:∃k,K=k+1:=⟨K-1,ab⟩
  obtain⟨h1,h2,h3⟩:=xW hr;simp only[lc]at hK;rw[xO,dt ab,ctQ,yx h1,bsQ,A4];by_cases hc:c=s
  ·rw[dt hc.symm,aP hc];rfl
  ·rw[df (λe=>hc e.symm),aO hc,cf,xE ab,ih (i+1) K h2 ab ab]
   cases A4 s k with
   |none=>rfl
   |some j=>simp only[Option.map_some];congr 3;omega
def zv3{t:ak}{w:List ak}(ht:vG t=bc w)(hw:w.length<1000)(s:ak):VG t s=bc (Ql (A4 s w)):=by
 unfold VG A1;have:=zR1 w s hw w 0 KK rfl ab (j5 ab);rw[show(((0:Nat):Int))=(0:Int) from rfl]at this;rw[ht,bsQ,this]
 cases A4 s w with
 |none=>rfl
 |some j=>simp[wq,Ql]
def USE:List ak:=[[104,111,109,101],[115,104,111,112],[119,111,114,107],[112,97,114,107],[112,108,97,110,116],[104,97,108,108]]
def LOAD:List ak:=[[104,111,109,101,115],[116,114,97,102,102,105,99],[114,117,110,111,102,102]]
def Q7:vG zi=bc USE:=by
 unfold vG Jb;rw[zE (by refine⟨ae,ae,ae,ae⟩)];rfl
def zsq:vG zV=bc LOAD:=by
 unfold vG Jb;rw[zE (by refine⟨ae,ae,ae,ae⟩)];rfl
def Yt(h:At b r){t:ak}{w:List ak}(ht:vG t=bc w)(hw:w.length<1000):RT b.l (vm w r) (xr b t) (jf b t) (λv i=>(v,i)):=by
 unfold xr jf vm;simp only[h.next,bsQ,zv3 ht hw,Am,JG,h.at_,h.st.step];have hc:=zsh h.st;have h0:=hc bd 14;rw[show HI bd 14 r=.error (zfu r 14) from rfl]at h0;by_cases hk:(hdT r).aM=0
 ·rw[aP hk,dt hk,ctQ,ctQ]
  cases hf:A4 (hdT r).Text w with
  |none =>
   rw[show decide (Ql bh>=0)=bd from rfl,h0.1,h0.2];exact⟨rfl,rfl⟩
  |some i =>
   have h1:=hc bf 14;rw[show HI bf 14 r=.ok ((),r) from rfl]at h1;have:decide (Ql (bc i)>=0)=bf:=dt (show((i:Int))>=0 by omega);rw[this,h1.1,h1.2.1];exact⟨rfl,rfl,h.st.tail ab⟩
 ·rw[aO hk,df hk,cf,cf,h0.1,h0.2]
  exact⟨rfl,rfl⟩
def zk2(h:At b r):RT b.l (uh r) (kJ b) (Hq b) (λv i=>(i,v.X,v.Y,v.Z_)):=by
 unfold kJ Hq uh
 refine(h.number 0 1048576).bind λx r1 h1 hs1=>?_
 have a1:At { b with i:=zS b.l r1 } r1:=yl rfl rfl hs1
 refine(a1.number 0 1048576).bind λy r2 h2 hs2=>?_
 have a2:At { b with i:=zS b.l r2 } r2:=yl rfl rfl hs2
 exact(a2.number 0 4096).bind λz r3 h3 hs3=>⟨rfl,rfl,hs3⟩
def V5(h:At b r)(n:Nat)(most:Nat)(hk:(hdT r).aM≠3):RT b.l (thn (HI (decide (n<most)) 6 r) λ_ r=>.ok ((),r.tail)) (yO b (n:Int) (most:Int)) (je b (n:Int) (most:Int)) (λ_ i=>i):=by
 unfold yO je;rw[h.step,show decide ((n:Int)<(most:Int))=decide (n<most) from yI ab]
 refine(h.check _ _).bind λu r1 h1 hs=>?_
 unfold HI at h1;split at h1
 ·cases h1;exact⟨rfl,rfl,hs.tail hk⟩
 ·cases h1
def zpi(h:At b r)(c:Bool)(e:Int):RT b.l (zh3 c e r) (jW b c e) (Jn b c e) (λ_ i=>i):=by
 unfold jW Jn zh3;rw[h.is,bsQ,bsQ,h.step]
 refine(h.check _ _).bind λu r1 h1 hs1=>?_
 unfold HI at h1;split at h1
 ·rename_i hb
  cases h1
  refine(h.check _ _).bind λu r1 h1 hs1=>?_
  unfold HI at h1;split at h1
  ·cases h1;exact⟨rfl,rfl,hs1.tail (zo hb)⟩
  ·cases h1
 ·cases h1
def zKj:∀(n:Nat)(r:List ar)(acc:List zU)(K:Nat),St b.l r->r.length<n->n<=K->acc.length+r.length<=2000000 ->
  RTS b.l (vA n acc r) (kH b K (zS b.l r,acc)) (kM b K (zS b.l r,acc)) (λv i=>(v,i)):=by
 intro n
 induction n with
 |zero=>intro r acc K hs hn;omega
 |succ n ih =>
  intro r acc K hs hn hK hacc
  obtain⟨K,rfl⟩:∃k,K=k+1:=⟨K-1,ab⟩
  rw[vA,kH,kM];have a0:At { b with i:=zS b.l r } r:=yl rfl rfl hs
  refine(a0.number 0 1048576).bindS λx r1 h1 hs1=>?_
  have q1:=kS hs.wf h1;have a1:At { b with i:=zS b.l r1 } r1:=yl rfl rfl hs1
  refine(a1.number 0 1048576).bindS λy r2 h2 hs2=>?_
  have q2:=kS hs1.wf h2;have a2:At { b with i:=zS b.l r2 } r2:=yl rfl rfl hs2;have g1:=q1.lt;have g2:=q2.lt;dsimp only;rw[zE (by simp only[la,lc,bF];omega),bsQ,bsQ,a2.isNumber,bsQ,bsQ]
  cases hk:HH r2 with
  |true =>
   simp only[if_true,bW,cf];exact ih r2 _ K hs2 ab ab (by simp only[la,lc,bF];omega)
  |false=>exact⟨rfl,rfl,hs2⟩
def zy5{l r:List ar}(h:St l r):r.length+1<=KK:=by
 have:=h.lt;have:=h.len;have:=zh2;omega
def zen(h:At b r):RT b.l (vA (r.length+1) [] r) (wJ b) (qm b) (λv i=>(v,i)):=by
 unfold wJ qm;rw[h.at_];have:=h.st.lt;have:=h.st.len;exact(zKj (b:={ b with i:=0 }) (r.length+1) r [] KK h.st (ck _) (zy5 h.st) (by simp;omega)).rt
def zYf:∀(n:Nat)(r:List ar)(acc:List ak)(K:Nat),St b.l r->r.length<n->n<=K->acc.length+r.length<=2000000 ->
  RJ b.l (Kt n acc r) (oZ b K (zS b.l r,acc)) (o8 b K (zS b.l r,acc)) (λv i=>(i,v)):=by
 intro n
 induction n with
 |zero=>intro r acc K hs hn;omega
 |succ n ih =>
  intro r acc K hs hn hK hacc
  obtain⟨K,rfl⟩:∃k,K=k+1:=⟨K-1,ab⟩
  rw[Kt,oZ,o8];have a0:At { b with i:=zS b.l r } r:=yl rfl rfl hs;rw[a0.isName,bsQ,bsQ]
  cases hk:Ye r with
  |true =>
   simp only[if_true,ctQ]
   refine a0.name.bindJ λs r1 h1 hs1=>?_
   have q1:=wM hs.wf h1;have g1:=q1.lt;dsimp only;rw[zE (by simp only[la,lc,bF];omega),bsQ,bsQ];exact ih r1 _ K hs1 ab ab (by simp only[la,lc,bF];omega)
  |false=>exact⟨rfl,rfl,hs⟩
def zEn(h:At b r):RT b.l (A6 r) (uN b) (Jr b) (λv i=>(v,i)):=by
 unfold uN Jr A6
 refine h.name.bind λs r1 h1 hs1=>?_
 have:=hs1.lt;have:=hs1.len;have hL:=zYf (b:={ b with i:=0 }) (r1.length+1) r1 [s] KK hs1 (ck _) (zy5 hs1) (by simp;omega)
 have:=hL.bindT (g:=λv r=>.ok (v,r)) (s2:=λx2=>bc (x2.2,x2.1)) (p2:=λ_=>bh) (f2:=λv i=>(v,i)) λv r2 h2 hs2=>⟨rfl,rfl,hs2⟩
 rw[Yg]at this;exact this
end
end Go.Proofs.YtffencjoddkghaaGreatDoor
namespace Go.Proofs.YtffencjoddkghaaGreatDoor
open Go Go.RowKit Go.Eng Go.EV Go.EQ
variable[Fuel]
def MN.get{D:List (List (ak×Bool))}{L:List ak}(h:MN D L):∃m,((bif (List.isEmpty D)then bc ([([]:List (ak×Bool))]:List (List (ak×Bool)))else bc D))=bc [m]/\KN m L:=by
 rcases h with⟨rfl,rfl⟩|⟨m,rfl,h⟩
 ·exact⟨[],rfl,zN5⟩
 ·exact⟨m,rfl,h⟩
def Zn{b:BB}{r:List ar}{m:List (ak×Bool)}{L:List ak}(h:At b r)(hk:KN m L):RR b.l (xX L r) (aN (aN (yc b m) λy=>bc (y.1,y.2.1,[y.2.2])) λx2=>bc (x2.1,x2.2.1,x2.2.2)) (orC (yq b m) (λx2=>bc x2) (aN (aN (yc b m) λy=>bc (y.1,y.2.1,[y.2.2])) λ_=>bh)) (λv i y=>y.1=v/\y.2.1=i/\MN y.2.2 (L++[v])):=by
 have:=(zph h hk).bindR (g:=λv r=>.ok (v,r)) (s2:=λy=>aN (bc (y.1,y.2.1,[y.2.2])) λx2=>bc (x2.1,x2.2.1,x2.2.2)) (p2:=λ_=>bh) (S2:=λv i y=>y.1=v/\y.2.1=i/\MN y.2.2 (L++[v])) λv r1 h1 hs=>RR.ret hs ⟨rfl,rfl,.inr ⟨_,rfl,hk.add v⟩⟩
 rw[Yg]at this;simp only[cL]at this ⊢;exact this
def zKk(b:BB)(m:List (ak×Bool)):K1 { b with n0:=[m] }=(yc b m).bind λy=>bc (y.1,y.2.1,[y.2.2]):=by
 unfold K1 yc;simp only[qA,Am,Zm,V4,HV,bsQ,cL]
def zKl(b:BB)(m:List (ak×Bool)):WX { b with n0:=[m] }=yq b m:=by
 unfold WX yq;simp only[qA,Am,JG,Zm,V4,Z5,HV,bsQ]
def zR2{b:BB}{r:List ar}{L:List ak}(h:At b r)(hm:MN b.n0 L):RR b.l (xX L r) (zcy b) (zjx b) (λv i y=>y.1=v/\y.2.1=i/\MN y.2.2 (L++[v])):=by
 obtain⟨m,hm1,hm2⟩:=hm.get;unfold zcy zjx;rw[hm1,bsQ,bsQ,zKk,zKl];exact Zn h hm2
def zKm(b:BB)(m:List (ak×Bool)):oV { b with n1:=[m] }=(yc b m).bind λy=>bc (y.1,y.2.1,[y.2.2]):=by
 unfold oV yc;simp only[qA,Am,Zm,V4,HV,bsQ,cL]
def zKn(b:BB)(m:List (ak×Bool)):Jo { b with n1:=[m] }=yq b m:=by
 unfold Jo yq;simp only[qA,Am,JG,Zm,V4,Z5,HV,bsQ]
def zR3{b:BB}{r:List ar}{L:List ak}(h:At b r)(hm:MN b.n1 L):RR b.l (xX L r) (K2 b) (WY b) (λv i y=>y.1=v/\y.2.1=i/\MN y.2.2 (L++[v])):=by
 obtain⟨m,hm1,hm2⟩:=hm.get;unfold K2 WY;rw[hm1,bsQ,bsQ,zKm,zKn];exact Zn h hm2
def zKo(b:BB)(m:List (ak×Bool)):oW { b with n2:=[m] }=(yc b m).bind λy=>bc (y.1,y.2.1,[y.2.2]):=by
 unfold oW yc;simp only[qA,Am,Zm,V4,HV,bsQ,cL]
def zKp(b:BB)(m:List (ak×Bool)):Jp { b with n2:=[m] }=yq b m:=by
 unfold Jp yq;simp only[qA,Am,JG,Zm,V4,Z5,HV,bsQ]
def zEo{b:BB}{r:List ar}{L:List ak}(h:At b r)(hm:MN b.n2 L):RR b.l (xX L r) (oX b) (K6 b) (λv i y=>y.1=v/\y.2.1=i/\MN y.2.2 (L++[v])):=by
 obtain⟨m,hm1,hm2⟩:=hm.get;unfold oX K6;rw[hm1,bsQ,bsQ,zKo,zKp];exact Zn h hm2
def zKq(b:BB)(m:List (ak×Bool)):oY { b with n3:=[m] }=(yc b m).bind λy=>bc (y.1,y.2.1,[y.2.2]):=by
 unfold oY yc;simp only[qA,Am,Zm,V4,HV,bsQ,cL]
def zKr(b:BB)(m:List (ak×Bool)):Jq { b with n3:=[m] }=yq b m:=by
 unfold Jq yq;simp only[qA,Am,JG,Zm,V4,Z5,HV,bsQ]
def zR4{b:BB}{r:List ar}{L:List ak}(h:At b r)(hm:MN b.n3 L):RR b.l (xX L r) (K4 b) (W1 b) (λv i y=>y.1=v/\y.2.1=i/\MN y.2.2 (L++[v])):=by
 obtain⟨m,hm1,hm2⟩:=hm.get;unfold K4 W1;rw[hm1,bsQ,bsQ,zKq,zKr];exact Zn h hm2
def zKs(b:BB)(m:List (ak×Bool)):o4 { b with n4:=[m] }=(yc b m).bind λy=>bc (y.1,y.2.1,[y.2.2]):=by
 unfold o4 yc;simp only[qA,Am,Zm,V4,HV,bsQ,cL]
def zKt(b:BB)(m:List (ak×Bool)):Js { b with n4:=[m] }=yq b m:=by
 unfold Js yq;simp only[qA,Am,JG,Zm,V4,Z5,HV,bsQ]
def zR5{b:BB}{r:List ar}{L:List ak}(h:At b r)(hm:MN b.n4 L):RR b.l (xX L r) (o5 b) (K7 b) (λv i y=>y.1=v/\y.2.1=i/\MN y.2.2 (L++[v])):=by
 obtain⟨m,hm1,hm2⟩:=hm.get;unfold o5 K7;rw[hm1,bsQ,bsQ,zKs,zKt];exact Zn h hm2
def zKu(b:BB)(m:List (ak×Bool)):o6 { b with n5:=[m] }=(yc b m).bind λy=>bc (y.1,y.2.1,[y.2.2]):=by
 unfold o6 yc;simp only[qA,Am,Zm,V4,HV,bsQ,cL]
def zKv(b:BB)(m:List (ak×Bool)):Jt { b with n5:=[m] }=yq b m:=by
 unfold Jt yq;simp only[qA,Am,JG,Zm,V4,Z5,HV,bsQ]
def zR6{b:BB}{r:List ar}{L:List ak}(h:At b r)(hm:MN b.n5 L):RR b.l (xX L r) (K5 b) (W3 b) (λv i y=>y.1=v/\y.2.1=i/\MN y.2.2 (L++[v])):=by
 obtain⟨m,hm1,hm2⟩:=hm.get;unfold K5 W3;rw[hm1,bsQ,bsQ,zKu,zKv];exact Zn h hm2
-- sets of uses
def zR7:∀s<64,∀k<6,decide ((IntKind.i64.wrap ((cM IntKind.i64.bits (Int.fdiv (s:Nat) (2 ^ (min (cg (k:Nat)) IntKind.i64.bits))) &&& cM IntKind.i64.bits 1).toNat:Int))=0)=!(dC s k):=ah
def zR8:∀s<64,∀k<6,(IntKind.i64.wrap ((cM IntKind.i64.bits (s:Nat) ||| cM IntKind.i64.bits (w64 (1*2 ^ (min (cg (k:Nat)) IntKind.i64.bits)))).toNat:Int))=((s ||| 2 ^ k:Nat):Int):=ah
def zYg:∀s<64,∀k<6,s ||| 2 ^ k<64/\0<s ||| 2 ^ k:=ah
def zfw:Nat->Nat->List ar->Except EE (Nat×List ar)
 |0,_,_=>oof
 |n+1,set,r=>match A4 (hdT r).Text USE with
  |none=>if 0<set then .ok (set,r)else .error (zfu r 14)
  | some k=>if 0<set/\(hdT r).aM≠0 then .ok (set,r)else if dC set k then .error (zfu r 5)else if(hdT r).aM=0 then zfw n (set ||| 2 ^ k) r.tail else .error (zfu r 14)
def zN6{t:ak}{k:Nat}(h:A4 t USE=bc k):k<6:=(bw.1 (zoz h)).1
def set_L{b:BB}:∀(n:Nat)(r:List ar)(set K:Nat),St b.l r->r.length<n->n<=K->set<64->RTS b.l (zfw n set r) (Hn b K (zS b.l r,(set:Int))) (Hp b K (zS b.l r,(set:Int))) (λv i=>((v:Int),i)):=by
 intro n
 induction n with
 |zero=>intro r set K hs hn;omega
 |succ n ih =>
  intro r set K hs hn hK h64
  obtain⟨K,rfl⟩:∃k,K=k+1:=⟨K-1,ab⟩
  have a0:At { b with i:=zS b.l r } r:=yl rfl rfl hs;have hch:=Yt a0 Q7 ae
  have hck:=λc e=>a0.check c e
  rw[zfw,Hn,Hp];simp only[a0.next,bsQ,zv3 Q7 (show USE.length<1000 by decide)]
  cases hf:A4 (hdT r).Text USE with
  |none =>
   dsimp only;rw[show decide (Ql bh<0)=bf from rfl];by_cases h0:0<set
   ·rw[aP h0,dt (show((set:Int))>0 by omega)]
    exact⟨rfl,rfl,hs⟩
   ·rw[aO h0,df (show ¬((set:Int))>0 by omega)]
    have h1:=hck bf 5;rw[show HI bf 5 r=.ok ((),r) from rfl]at h1;unfold vm at hch;rw[hf]at hch
    have h2:xr { b with i:=zS b.l r } zi=bh/\jf { b with i:=zS b.l r } zi=bc (zfu r 14):=by
     by_cases hk:(hdT r).aM=0
     ·rw[aP hk]at hch;exact hch
     ·rw[aO hk]at hch;exact hch
    simp only[ctQ,cf,bsQ];rw[h1.1,h1.2.1];simp only[bsQ,orC,wq,h2.1,h2.2];exact⟨rfl,rfl⟩
  |some k =>
   have hk6:=zN6 hf;dsimp only;have e0:decide (Ql (bc k)<0)=bd:=df (show ¬((k:Int))<0 by omega);have e1:(grd (0<=Ql (bc k)))=bc ():=zE (show(0:Int)<=(k:Int) by omega);rw[e0,e1];by_cases hq:0<set/\(hdT r).aM≠0
   ·rw[aP hq,dt (show((set:Int))>0 by omega),df hq.2]
    exact⟨rfl,rfl,hs⟩
   ·rw[aO hq]
    have e2:((bif decide ((set:Int)>0)then(bif bd then bc bf else bc (!(decide ((hdT r).aM=0))))else bc bd))=bc bd:=by
     by_cases h0:0<set
     ·have hk:(hdT r).aM=0:=Classical.byContradiction λhh=>hq ⟨h0,hh⟩
      rw[dt (show((set:Int))>0 by omega),dt hk];rfl
     ·rw[df (show ¬((set:Int))>0 by omega)];rfl
    rw[e2];simp only[bsQ,cf];have e3:Ql (bc k)=((k:Nat):Int):=rfl;rw[e3,zR7 set h64 k hk6]
    cases hb:dC set k with
    |true =>
     have h1:=hck bd 5;rw[show HI bd 5 r=.error (zfu r 5) from rfl]at h1;rw[bW,h1.1,h1.2];exact⟨rfl,rfl⟩
    |false =>
     have h1:=hck bf 5;rw[show HI bf 5 r=.ok ((),r) from rfl]at h1;rw[cC,h1.1,h1.2.1];simp only[bsQ,orC,wq,aO (show ¬(bd=bf) by simp)];unfold vm at hch;by_cases hk:(hdT r).aM=0
     ·rw[aP hk,hf]at hch
      rw[aP hk,hch.1,hch.2.1];have g:=zYg set h64 k hk6;simp only[bsQ,orC];rw[zE (show(0:Int)<=(k:Int) by omega),bsQ,bsQ,zR8 set h64 k hk6];have:=xb hs.wf;exact ih r.tail _ K (hs.tail ab) ab ab g.1
     ·rw[aO hk]at hch
      rw[aO hk,hch.1,hch.2];exact⟨rfl,rfl⟩
def zYh{b:BB}{r:List ar}(h:At b r):RT b.l (zfw (r.length+1) 0 r) (zc0 b) (zjy b) (λv i=>((v:Int),i)):=by
 unfold zc0 zjy;rw[h.at_];exact(set_L (b:={ b with i:=0 }) (r.length+1) r 0 KK h.st (ck _) (zy5 h.st) ae).rt
-- directions of the sun
def zlx:Nat->List zg->List ar->Except EE (List zg×List ar)
 |0,_,_=>oof
 | n+1,acc,r=>thn (HI (isB yU r||HH r) 14 r) λ_ r=>thn (HI (decide (acc.length<24)) 6 r) λ_ r=>thn (wo 4096 r) λx r=>thn (wo 4096 r) λy r=>thn (jQ 1 4096 r) λz r =>
  if isB kW r then zlx n (acc++[zg.mk x y z]) r.tail else .ok (acc++[zg.mk x y z],r)
def yY{c:Bool}{e:Int}{r r2:List ar}{u:Unit}(h:HI c e r=.ok (u,r2)):r2=r/\c=bf:=by
 unfold HI at h;split at h
 ·rename_i hc;cases h;exact⟨rfl,hc⟩
 ·cases h
def JH{r r2:List ar}{m n:Int}(hr:TWF r)(h:wo m r=.ok (n,r2)):Aft r r2:=by
 unfold wo at h;split at h
 ·rename_i hb
  obtain⟨a,r1,h1,h2⟩:=zG h;cases h2;have ht:=zB hr (zo hb);exact ht.trans (kS ht.wf h1).e
 ·exact kS hr h
def zYi{b:BB}:∀(n:Nat)(r:List ar)(acc:List zg)(K:Nat),St b.l r->r.length<n->n<K->RJ b.l (zlx n acc r) (ou b K (zS b.l r,acc,bf)) (ow b K (zS b.l r,acc,bf)) (λv i=>(i,v)):=by
 intro n
 induction n with
 |zero=>intro r acc K hs hn;omega
 |succ n ih =>
  intro r acc K hs hn hK
  obtain⟨K,rfl⟩:∃k,K=k+1:=⟨K-1,ab⟩
  have a0:At { b with i:=zS b.l r,S:=acc } r:=yl rfl rfl hs;rw[zlx,ou,ow];simp only[ctQ,a0.is,a0.isNumber,bsQ]
  have first:RJ b.l (HI (isB yU r||HH r) 14 r) (bif isB yU r then(zf { b with i:=zS b.l r,S:=acc } bf 14).bind λ_=>bc ()else(zf { b with i:=zS b.l r,S:=acc } (HH r) 14).bind λ_=>bc ())
    (bif isB yU r then(orC (zt { b with i:=zS b.l r,S:=acc } bf 14) (λx3=>bc (bo x3)) (aN (zf { b with i:=zS b.l r,S:=acc } bf 14) λ_=>bc (br ())))else(orC (zt { b with i:=zS b.l r,S:=acc } (HH r) 14) (λx6=>bc (bo x6)) (aN (zf { b with i:=zS b.l r,S:=acc } (HH r) 14) λ_=>bc (br ())))) (λ_ _=>()):=by
   cases isB yU r with
   |true =>
    have:=(a0.check bf 14).bindJ (g:=λv r=>.ok (v,r)) (s2:=λ_=>bc ()) (p2:=λ_=>bc (br ())) (fj:=λ_ _=>()) λv r1 h1 hs1=>⟨rfl,rfl,hs1⟩
    rw[Yg]at this;exact this
   |false =>
    have:=(a0.check (HH r) 14).bindJ (g:=λv r=>.ok (v,r)) (s2:=λ_=>bc ()) (p2:=λ_=>bc (br ())) (fj:=λ_ _=>()) λv r1 h1 hs1=>⟨rfl,rfl,hs1⟩
    rw[Yg]at this;exact this
  have bindJJ:∀{g:Unit->List ar->Except EE (List zg×List ar)}{sj:Option Unit}{pj:Option (EE⊕Unit)}{s2:Unit->Option (Int×List zg)}{p2:Unit->Option (EE⊕(Int×List zg))},RJ b.l (HI (isB yU r||HH r) 14 r) sj pj (λ_ _=>())->(∀u r1,HI (isB yU r||HH r) 14 r=.ok (u,r1)->RJ b.l (g u r1) (s2 ()) (p2 ()) (λv i=>(i,v)))->RJ b.l (thn (HI (isB yU r||HH r) 14 r) g) (sj.bind s2) (pj.bind (wq (λq=>bc (bo q)) p2)) (λv i=>(i,v)):=by
   intro g sj pj s2 p2 h h2
   cases hx:HI (isB yU r||HH r) 14 r with
   |error e=>rw[hx]at h;rw[h.1,h.2];exact⟨rfl,rfl⟩
   |ok y =>
    obtain⟨u,r1⟩:=y;rw[hx]at h;rw[h.1,h.2.1];exact h2 u r1 hx
  refine bindJJ first λu r0 h0=>?_
  obtain⟨rfl,hc0⟩:=yY h0;rw[show decide ((((bg acc):Nat):Int)<24)=decide (acc.length<24) from yI ab]
  refine(a0.check _ _).bindJ λu r1 h1 hs1=>?_
  obtain⟨rfl,hc1⟩:=yY h1;have hl:=aY hc1
  refine(Ys a0 4096 ab).bindJ λx r2 h2 hs2=>?_
  have q2:=JH hs.wf h2;have a2:At { b with i:=zS b.l r2,S:=acc } r2:=yl rfl rfl hs2
  refine(Ys a2 4096 ab).bindJ λy r3 h3 hs3=>?_
  have q3:=JH hs2.wf h3;have a3:At { b with i:=zS b.l r3,S:=acc } r3:=yl rfl rfl hs3
  refine(a3.number 1 4096).bindJ λz r4 h4 hs4=>?_
  have q4:=kS hs3.wf h4;dsimp only;rw[zE (by simp only[la,lc,bF];omega),bsQ,bsQ];have a4:At { b with i:=zS b.l r4,S:=acc++[zg.mk x y z] } r4:=yl rfl rfl hs4;have g2:=q2.lt;have g3:=q3.lt;have g4:=q4.lt;rw[a4.has,bsQ,bsQ]
  cases hb:isB kW r4 with
  |true =>
   simp only[if_true];have:=xb hs4.wf;exact ih r4.tail _ K (hs4.tail (zo hb)) ab ab
  |false =>
   simp only[aO (show ¬(bd=bf) by simp)]
   obtain⟨K,rfl⟩:∃k,K=k+1:=⟨K-1,ab⟩
   exact⟨by rw[ou];rfl,by rw[ow];rfl,hs4⟩
def zv4(acc:List zg)(r:List ar):Except EE (List zg×List ar):=thn (zlx (r.length+1) acc r) λout r=>thn (xH yf r) λ_ r=>.ok (out,r)
def zYj{b:BB}{r:List ar}(h:At b r):RT b.l (zv4 b.S r) (VH b) (zc1 b) (λv i=>(i,v)):=by
 unfold VH zc1 zv4;rw[h.at_];have h1:=h.st.lt;have h2:=h.st.len;have h3:=zh2
 refine(zYi (b:={ b with i:=0,S:=[] }) (r.length+1) r b.S KK h.st (ck _) ab).bindT λout r1 _ hs1=>?_
 have a1:At { b with i:=zS b.l r1,S:=out } r1:=yl rfl rfl hs1
 exact(a1.want yf).bind λu r2 _ hs2=>⟨rfl,rfl,hs2⟩
variable[Fuel]
-- an expression has no more nodes than what was read has tokens
def zEp{op:Int}{a b:Expr}:kY (Vr op a b)=kY a+kY b+1:=by unfold Vr;rw[kY,J1,J1,J1];omega
def zEq:∀(n:Nat),(∀(lv:Nat)(r:List ar),lv<=8->r.length<n->TWF r->∀e r2,DE lv r=.ok (e,r2)->kY e+r2.length<=r.length)/\(∀(lv:Nat)(e:Expr)(r:List ar),lv<8->r.length<n->TWF r->∀e2 r2,LP lv e r=.ok (e2,r2)->kY e2+r2.length<=kY e+r.length):=by
 intro n
 induction n with
 |zero=>exact⟨λ_ _ _ h=>ab,λ_ _ _ _ h=>ab⟩
 |succ n ih =>
  have hLP:∀(lv:Nat)(e:Expr)(r:List ar),lv<8->r.length<n+1->TWF r->∀e2 r2,LP lv e r=.ok (e2,r2)->kY e2+r2.length<=kY e+r.length:=by
   intro lv e r hlv hn hr e2 r2 h;rw[zo2 hr]at h;split at h
   ·cases h;omega
   ·rename_i op hop
    obtain⟨o,ho,_⟩:=uf hop;have ht:=zB hr (vI ho).1;obtain⟨a,r1,h1,h2⟩:=zG h;have g:=ht.lt;have ha:=yW ht.wf h1;have g1:=ha.lt;have k1:=ih.1 (lv+1) _ ab ab ht.wf _ _ h1;split at h2
    ·cases h2;rw[zEp];omega
    ·have:=ih.2 lv _ _ hlv ab ha.wf _ _ h2
     rw[zEp]at this;omega
  refine⟨λlv=>?_,hLP⟩
  have key:∀(k lv:Nat),8-lv=k->lv<=8->∀(r:List ar),r.length<n+1->TWF r->∀e r2,DE lv r=.ok (e,r2)->kY e+r2.length<=r.length:=by
   intro k
   induction k with
   |zero =>
    intro lv hk hl r hn hr e r2 h
    obtain rfl:lv=8:=ab
    rw[zyt hr]at h;unfold VV at h;split at h
    ·obtain⟨a,r1,h1,h2⟩:=zG h
     cases h2;have:=(kS hr h1).lt;rw[kY,J1];omega
    ·split at h
     ·rename_i hb
      have ht:=zB hr (zo hb);obtain⟨a,r1,h1,h2⟩:=zG h;obtain⟨b,r3,h3,h4⟩:=zG h2;cases h4;have q1:=wM ht.wf h1;have q2:=wM q1.wf h3;have:=ht.lt;have:=q1.lt;have:=q2.lt;rw[kY,J1];omega
     ·split at h
      ·rename_i hb
       have ht:=zB hr (zo hb);obtain⟨a,r1,h1,h2⟩:=zG h;cases h2;have:=ht.lt;have:=(wM ht.wf h1).lt;rw[kY,J1];omega
      ·split at h
       ·rename_i hb
        have ht:=zB hr (zo hb);obtain⟨a,r1,h1,h2⟩:=zG h;obtain⟨b,r3,h3,h4⟩:=zG h2;cases h4;have g:=ht.lt;have q1:=ih.1 0 _ ab ab ht.wf _ _ h1;have:=(yr (yW ht.wf h1).wf h3).lt;omega
       ·obtain⟨a,r1,h1,h2⟩:=zG h
        cases h2;have:=(wM hr h1).lt;rw[kY,J1];omega
   |succ k ihk =>
    intro lv hk hl r hn hr e r2 h;rw[Zg ab hr]at h;split at h
    ·rename_i hb
     unfold ifS at h;have ht:=zB hr (zo hb.2);have g:=ht.lt;obtain⟨a,r1,h1,h⟩:=zG h;obtain⟨u,r3,h3,h⟩:=zG h;obtain⟨b,r4,h4,h⟩:=zG h;obtain⟨u,r5,h5,h⟩:=zG h;obtain⟨c,r6,h6,h⟩:=zG h;cases h;have w1:=yW ht.wf h1;have w3:=yr w1.wf h3;have w4:=yW w3.wf h4;have w5:=yr w4.wf h5;have:=w1.lt;have:=w3.lt;have:=w4.lt;have:=w5.lt;have q1:=ih.1 0 _ ab ab ht.wf _ _ h1;have q4:=ih.1 0 _ ab ab w3.wf _ _ h4;have q6:=ih.1 0 _ ab ab w5.wf _ _ h6;rw[kY,J1,J1,J1,J1];omega
    ·split at h
     ·rename_i hb
      have ht:=zB hr (zo hb.2);have g:=ht.lt;obtain⟨a,r1,h1,h⟩:=zG h;cases h;have q1:=ih.1 3 _ ab ab ht.wf _ _ h1;rw[kY,J1,J1];omega
     ·split at h
      ·rename_i hb
       have ht:=zB hr (zo hb.2);have g:=ht.lt;obtain⟨a,r1,h1,h⟩:=zG h;cases h;have q1:=ih.1 7 _ ab ab ht.wf _ _ h1;rw[kY,J1,J1];omega
      ·obtain⟨a,r1,h1,h⟩:=zG h
       have q1:=ihk (lv+1) ab ab r hn hr _ _ h1;have w1:=yW hr h1;have:=w1.lt;have:=ih.2 lv a r1 ab ab w1.wf _ _ h;omega
  exact λr hl=>key _ lv rfl hl r
def zEr{lv:Nat}{r r2:List ar}{e:Expr}(hl:lv<=8)(hr:TWF r)(h:DE lv r=.ok (e,r2)):kY e+r2.length<=r.length:=(zEq (r.length+1)).1 lv r hl (ck _) hr e r2 h
def zpj{l r r2:List ar}{e:Expr}(hs:St l r)(h:DE 0 r=.ok (e,r2)):jd KK e=bc ((Vs e:Nat):Int):=by
 have h1:=zEr ab hs.wf h;have h2:=hs.lt;have h3:=hs.len;have h4:=zh2;exact zD0 1000000 e KK ab ab ab
def qB{r r2:List ar}{L:List ak}{s:ak}(h:TWF r)(e:xX L r=.ok (s,r2)):Aft r r2:=by
 unfold xX at e;split at e
 ·rename_i hk
  split at e
  ·cases e
  ·cases e;exact zB h (Qm hk)
 ·cases e
def Zo{r r2:List ar}{p:zg}(h:TWF r)(e:uh r=.ok (p,r2)):Aft r r2:=by
 obtain⟨a,r1,h1,e⟩:=zG e;obtain⟨b,r3,h3,e⟩:=zG e;obtain⟨c,r4,h4,e⟩:=zG e;cases e;have q1:=kS h h1;have q3:=kS q1.wf h3;exact q1.trans (q3.trans (kS q3.wf h4).e).e
-- definitions
def zv5(L:List ak)(r:List ar):Except EE (Def×List ar):=thn (xX L r) λs r=>thn (xH Av r) λ_ r=>thn (DE 0 r) λe r=>thn (zh3 (decide (Vs e<=12)) 6 r) λ_ r=>.ok (Def.mk s e,r)
section
variable{b:BB}{r:List ar}{L:List ak}
def zEs(h:At b r)(hm:MN b.n0 L)(hb:b.D.length<=1000):RR b.l (zv5 L r) (Hm b) (QV b) (λd i y=>y.1=i/\y.2.1=b.D++[d]/\MN y.2.2 (L++[d.aL])):=by
 unfold Hm QV zv5
 refine(zR2 h hm).bind λs r1 y h1 hs1 hy=>?_
 obtain⟨y1,y2,y3⟩:=y;obtain⟨rfl,rfl,hy⟩:=hy;dsimp only at hy ⊢;have a1:At { b with i:=zS b.l r1,n0:=y3 } r1:=yl rfl rfl hs1
 refine(a1.want Av).bindR λu r2 h2 hs2=>?_
 have a2:At { b with i:=zS b.l r2,n0:=y3 } r2:=yl rfl rfl hs2
 refine a2.expr.bindR λe r3 h3 hs3=>?_
 have a3:At { b with i:=zS b.l r3,n0:=y3 } r3:=yl rfl rfl hs3;simp only[fE,xv];rw[zpj hs2 h3,bsQ,bsQ,show decide (((Vs e:Nat):Int)<=12)=decide (Vs e<=12) from yI ab]
 refine(zpi a3 (decide (Vs e<=12)) 6).bindR λu r4 h4 hs4=>?_
 rw[zE (by simp only[la,lc,bF];omega),bsQ,bsQ];exact RR.ret hs4 ⟨rfl,rfl,hy⟩
end
def Ku:Nat->List aw->List ar->Except EE (List aw×List ar)
 |0,_,_=>oof
 |n+1,acc,r=>if Ye r then thn (HI (decide (acc.length<60)) 6 r) λ_ r=>thn (xX (acc.map aw.aL) r) λs r=>thn (wo 1099511627776 r) λv r=>Ku n (acc++[aw.mk s v]) r else .ok (acc,r)
def AO(L:List ak)(r:List ar):Except EE (au×List ar):=thn (xX L r) λs r=>thn (Ku (r.length+1) [] r) λrows r=>thn (xH xe r) λ_ r=>thn (wo 1099511627776 r) λv r=>thn (xH yf r) λ_ r=>.ok (au.mk s rows v,r)
def zpk:Nat->List zg->List ar->Except EE (List zg×List ar)
 |0,_,_=>oof
 |n+1,acc,r=>if HH r then thn (HI (decide (acc.length<20)) 6 r) λ_ r=>thn (uh r) λp r=>zpk n (acc++[p]) r else .ok (acc,r)
def Yu(L:List ak)(r:List ar):Except EE (av×List ar):=thn (xX L r) λs r=>thn (uh r) λeye r=>thn (xH vM r) λ_ r=>thn (jQ 0 20 r) λn r=>thn (xH xM r) λ_ r=>thn (uh r) λp r=>thn (zpk (r.length+1) [p] r) λl r=>thn (xH yf r) λ_ r=>.ok (av.mk s eye n l,r)
noncomputable def Ve(L:List ak)(over:Bool)(r:List ar):Except EE (yD×List ar):=thn (xX L r) λs r=>thn (vA (r.length+1) [] r) λc r=>thn (zh3 (pd (Aw c)) 10 r) λ_ r=>.ok (yD.mk s over c,r)
noncomputable def zy6(L:List ak)(r:List ar):Except EE (Cap×List ar):=thn (xX L r) λs r=>thn (vm LOAD r) λk r=>thn (jQ 0 1099511627776 r) λn r=>thn (vA (r.length+1) [] r) λc r=>thn (zh3 (pd (Aw c)) 10 r) λ_ r=>.ok (Cap.mk s k n c,r)
section
variable{b:BB}{r:List ar}{L:List ak}
def zYk{c15:List (List (ak×Bool))}{c16:ak}{c17:Int}:∀(n:Nat)(r:List ar)(acc:List aw)(m:List (ak×Bool))(K:Nat),St b.l r->r.length<n->n<=K->KN m (acc.map aw.aL) ->
  RJ b.l (Ku n acc r) (qY b c15 c16 c17 K (zS b.l r,m,acc)) (qZ b c15 c16 c17 K (zS b.l r,m,acc)) (λv i=>(i,v)):=by
 intro n
 induction n with
 |zero=>intro r acc m K hs hn;omega
 |succ n ih =>
  intro r acc m K hs hn hK hm
  obtain⟨K,rfl⟩:∃k,K=k+1:=⟨K-1,ab⟩
  rw[Ku,qY,qZ];have a0:At { b with i:=zS b.l r,n1:=c15 } r:=yl rfl rfl hs;rw[a0.isName,bsQ,bsQ]
  cases hk:Ye r with
  |true =>
   simp only[if_true,ctQ];rw[show decide ((((bg acc):Nat):Int)<60)=decide (acc.length<60) from yI ab]
   refine(a0.check _ _).bindJ λu r1 h1 hs1=>?_
   obtain⟨rfl,hc1⟩:=yY h1;have hl:=aY hc1
   refine(zph a0 hm).bindJ λs r2 h2 hs2=>?_
   have q2:=qB hs.wf h2;have a2:At { b with i:=zS b.l r2,n1:=c15 } r2:=yl rfl rfl hs2;dsimp only
   refine(Ys a2 1099511627776 ab).bindJ λv r3 h3 hs3=>?_
   have q3:=JH hs2.wf h3;have g2:=q2.lt;have g3:=q3.lt;dsimp only;rw[zE (by simp only[la,lc,bF];omega),bsQ,bsQ];exact ih r3 _ _ K hs3 ab ab (by rw[bO];exact hm.add s)
  |false=>exact⟨rfl,rfl,hs⟩
def zKw(h:At b r)(hm:MN b.n1 L)(hb:b.T.length<=1000):RR b.l (AO L r) (K3 b) (WZ b) (λd i y=>y.1=i/\y.2.1=b.T++[d]/\MN y.2.2 (L++[d.aL])):=by
 unfold K3 WZ AO
 refine(zR3 h hm).bind λs r1 y h1 hs1 hy=>?_
 obtain⟨y1,y2,y3⟩:=y;obtain⟨rfl,rfl,hy⟩:=hy;dsimp only at hy ⊢
 refine(zYk (b:={ b with i:=0,n1:=[] }) (r1.length+1) r1 [] [] KK hs1 (ck _) (zy5 hs1) zN5).bindR λrows r2 h2 hs2=>?_
 have a2:At { b with i:=zS b.l r2,n1:=y3 } r2:=yl rfl rfl hs2
 refine(a2.want xe).bindR λu r3 h3 hs3=>?_
 have a3:At { b with i:=zS b.l r3,n1:=y3 } r3:=yl rfl rfl hs3
 refine(Ys a3 1099511627776 ab).bindR λv r4 h4 hs4=>?_
 have a4:At { b with i:=zS b.l r4,n1:=y3 } r4:=yl rfl rfl hs4
 refine(a4.want yf).bindR λu r5 h5 hs5=>?_
 dsimp only;rw[zE (by simp only[la,lc,bF];omega),bsQ,bsQ];exact RR.ret hs5 ⟨rfl,rfl,hy⟩
def tgt_L{c15:List (List (ak×Bool))}{c16:ak}{c17 c18 c19 c20:Int}:∀(n:Nat)(r:List ar)(acc:List zg)(K:Nat),St b.l r->r.length<n->n<=K ->
  RJ b.l (zpk n acc r) (o7 b c15 c16 c17 c18 c19 c20 K (zS b.l r,acc)) (Aa b c15 c16 c17 c18 c19 c20 K (zS b.l r,acc)) (λv i=>(i,v)):=by
 intro n
 induction n with
 |zero=>intro r acc K hs hn;omega
 |succ n ih =>
  intro r acc K hs hn hK
  obtain⟨K,rfl⟩:∃k,K=k+1:=⟨K-1,ab⟩
  rw[zpk,o7,Aa];have a0:At { b with i:=zS b.l r,n5:=c15 } r:=yl rfl rfl hs;rw[a0.isNumber,bsQ,bsQ]
  cases hk:HH r with
  |true =>
   simp only[if_true,ctQ];rw[show decide ((((bg acc):Nat):Int)<20)=decide (acc.length<20) from yI ab]
   refine(a0.check _ _).bindJ λu r1 h1 hs1=>?_
   obtain⟨rfl,hc1⟩:=yY h1;have hl:=aY hc1
   refine(zk2 a0).bindJ λp r2 h2 hs2=>?_
   have q2:=Zo hs.wf h2;have g2:=q2.lt;dsimp only;rw[zE (by simp only[la,lc,bF];omega),bsQ,bsQ];exact ih r2 _ K hs2 ab ab
  |false=>exact⟨rfl,rfl,hs⟩
def zR9(h:At b r)(hm:MN b.n5 L)(hb:b.V.length<=1000):RR b.l (Yu L r) (Jm b) (W4 b) (λd i y=>y.1=i/\y.2.1=b.V++[d]/\MN y.2.2 (L++[d.aL])):=by
 unfold Jm W4 Yu
 refine(zR6 h hm).bind λs r1 y h1 hs1 hy=>?_
 obtain⟨y1,y2,y3⟩:=y;obtain⟨rfl,rfl,hy⟩:=hy;dsimp only at hy ⊢;have a1:At { b with i:=zS b.l r1,n5:=y3 } r1:=yl rfl rfl hs1
 refine(zk2 a1).bindR λeye r2 h2 hs2=>?_
 have a2:At { b with i:=zS b.l r2,n5:=y3 } r2:=yl rfl rfl hs2
 refine(a2.want vM).bindR λu r3 h3 hs3=>?_
 have a3:At { b with i:=zS b.l r3,n5:=y3 } r3:=yl rfl rfl hs3
 refine(a3.number 0 20).bindR λn r4 h4 hs4=>?_
 have a4:At { b with i:=zS b.l r4,n5:=y3 } r4:=yl rfl rfl hs4
 refine(a4.want xM).bindR λu r5 h5 hs5=>?_
 have a5:At { b with i:=zS b.l r5,n5:=y3 } r5:=yl rfl rfl hs5
 refine(zk2 a5).bindR λp r6 h6 hs6=>?_
 dsimp only;rw[zE af,bsQ,bsQ]
 refine(tgt_L (b:={ b with i:=0,n5:=[] }) (r6.length+1) r6 [p] KK hs6 (ck _) (zy5 hs6)).bindR λl r7 h7 hs7=>?_
 have a7:At { b with i:=zS b.l r7,n5:=y3 } r7:=yl rfl rfl hs7
 refine(a7.want yf).bindR λu r8 h8 hs8=>?_
 dsimp only;rw[zE (by simp only[la,lc,bF];omega),bsQ,bsQ];exact RR.ret hs8 ⟨rfl,rfl,hy⟩
end
def Wd{α:Type}(t:ak)(d:α)(f:List ar->Except EE (α×List ar))(r:List ar):Except EE (α×List ar):=if isB t r then f r.tail else .ok (d,r)
def zsr(t:ak)(r:List ar):List ar:=if isB t r then r.tail else r
abbrev BD:=Int×Expr×zx×Int×Int×Int
def fB(v:BD)(i:Int):Int×Int×Int×Int×ak×ak×List Expr×Int×Int×Int×Int×Int×Int×Int:=(i,v.1,v.2.1.Op,v.2.1.N,v.2.1.S,v.2.1.Key,v.2.1.Args,v.2.2.1.Side,v.2.2.1.Base,v.2.2.1.Num,v.2.2.1.Den,v.2.2.2.1,v.2.2.2.2.1,v.2.2.2.2.2)
def ex0:Expr:=Expr.mk 0 0 [] [] []
def pl0:zx:=zx.mk 0 0 0 0
def zpl(r:List ar):Except EE (BD×List ar):=thn (jQ 0 3 r) λa r=>thn (xH AB r) λ_ r=>thn (jQ 0 4096 r) λb r=>thn (xH jA r) λ_ r=>thn (jQ 0 4096 r) λc r=>thn (jQ 1 4096 r) λd r=>thn (xH yf r) λ_ r=>.ok ((1,ex0,zx.mk a b c d,0,0,0),r)
def zy7(r:List ar):Except EE (BD×List ar):=thn (zfw (r.length+1) 0 r) λs r=>thn (xH yf r) λ_ r=>.ok ((2,ex0,pl0,((s:Nat):Int),0,0),r)
def zpm(r:List ar):Except EE (BD×List ar):=thn (vm USE r) λa r=>thn (vm USE r) λb r=>thn (jQ 0 1048576 r) λn r=>thn (xH yf r) λ_ r=>.ok ((3,ex0,pl0,a,b,n),r)
def zEt(r:List ar):Except EE (BD×List ar):=thn (DE 0 r) λe r=>thn (zh3 (decide (Vs e<=12)) 6 r) λ_ r=>.ok ((0,e,pl0,0,0,0),r)
def JI(r:List ar):Except EE (BD×List ar):=if isB qf r then zpl r.tail else if isB oT r then zy7 r.tail else if isB qe r then zpm r.tail else zEt r
def Yv(L:List ak)(r:List ar):Except EE (zX×List ar):=thn (xX L r) λs r=>thn (Wd ze5 [] A6 r) λz r=>thn (Wd yZ [] A6 r) λx r=>thn (Wd vD 0 (jQ 0 1073741824) r) λf r=>thn (Wd xF 0 (jQ (f+1) 1073741824) r) λu r=>thn (Wd xR 0 (jQ 0 1073741824) r) λg r=>thn (xH xM (zsr wc r)) λ_ r2=>thn (JI r2) λb r3=>.ok (zX.mk s z x f u g (isB wc r) b.1 b.2.1 b.2.2.1 b.2.2.2.1 b.2.2.2.2.1 b.2.2.2.2.2,r3)
def zSa{lo hi n:Int}{r r2:List ar}(h:jQ lo hi r=.ok (n,r2)):lo<=n/\n<=hi:=by
 unfold jQ at h;split at h
 ·split at h
  ·rename_i hh;cases h;exact hh
  ·cases h
 ·cases h
def zKx{lo hi n:Int}{t:ak}{r r2:List ar}(hl:lo<=0/\0<=hi)(h:Wd t 0 (jQ lo hi) r=.ok (n,r2)):lo<=n/\n<=hi:=by
 unfold Wd at h;split at h
 ·exact zSa h
 ·cases h;exact hl
section
variable{b:BB}{r:List ar}{L:List ak}
def zpn{α:Type}{t:ak}{d:α}{f:List ar->Except EE (α×List ar)}{sf:Int->Option (α×Int)}{pf:Int->Option EE}(h:At b r)(hf:isB t r=bf->RT b.l (f r.tail) (sf (zS b.l r.tail)) (pf (zS b.l r.tail)) (λv i=>(v,i))):
  RJ b.l (Wd t d f r) (aN (zC b t) λx3=>(bif x3.1 then(sf x3.2).bind λx4=>bc (x4.2,x4.1)else bc (x3.2,d))) (aN (zC b t) λx4=>(bif x4.1 then(orC (pf x4.2) (λx5=>bc (bo x5)) (aN (sf x4.2) λx6=>bc (br (x6.2,x6.1))))else bc (br (x4.2,d)))) (λv i=>(i,v)):=by
 unfold Wd;rw[h.has,bsQ,bsQ]
 cases hb:isB t r with
 |true =>
  simp only[if_true,ctQ]
  have:=(hf hb).bindJ (g:=λv r=>.ok (v,r)) (s2:=λx4=>bc (x4.2,x4.1)) (p2:=λx6=>bc (br (x6.2,x6.1))) (fj:=λv i=>(i,v)) λv r1 h1 hs=>⟨rfl,rfl,hs⟩
  rw[Yg]at this;exact this
 |false =>
  simp only[aO (show ¬(bd=bf) by simp),cf];exact⟨rfl,rfl,h.st⟩
def zSb{l:List ar}{t:ak}(h:St l r):St l (zsr t r)/\(if isB t r then zS l r.tail else zS l r)=zS l (zsr t r):=by
 unfold zsr;split
 ·rename_i hb;exact⟨h.tail (zo hb),rfl⟩
 ·exact⟨h,rfl⟩
def zSc(h:At b r)(hm:MN b.n3 L)(hb:b.R.length<=1000):RR b.l (Yv L r) (Jl b) (W2 b) (λd i y=>y.1=i/\y.2.1=b.R++[d]/\MN y.2.2 (L++[d.aL])):=by
 unfold Jl W2 Yv
 refine(zR4 h hm).bind λs r1 y h1 hs1 hy=>?_
 obtain⟨y1,y2,y3⟩:=y;obtain⟨rfl,rfl,hy⟩:=hy;dsimp only at hy ⊢;have a1:At { b with i:=zS b.l r1,n3:=y3 } r1:=yl rfl rfl hs1
 refine(zpn (t:=ze5) (d:=[]) (f:=A6) (sf:=λi=>uN { b with i:=i,n3:=y3 }) (pf:=λi=>Jr { b with i:=i,n3:=y3 }) a1 λhb=>zEn (yl rfl rfl (hs1.tail (zo hb)))).bindR λz r2 h2 hs2=>?_
 have a2:At { b with i:=zS b.l r2,n3:=y3 } r2:=yl rfl rfl hs2
 refine(zpn (t:=yZ) (d:=[]) (f:=A6) (sf:=λi=>uN { b with i:=i,n3:=y3 }) (pf:=λi=>Jr { b with i:=i,n3:=y3 }) a2 λhb=>zEn (yl rfl rfl (hs2.tail (zo hb)))).bindR λx r3 h3 hs3=>?_
 have a3:At { b with i:=zS b.l r3,n3:=y3 } r3:=yl rfl rfl hs3
 refine(zpn (t:=vD) (d:=0) (f:=jQ 0 1073741824) (sf:=λi=>zk { b with i:=i,n3:=y3 } 0 1073741824) (pf:=λi=>zA { b with i:=i,n3:=y3 } 0 1073741824) a3 λhb=>(yl rfl rfl (hs3.tail (zo hb)):At { b with i:=zS b.l r3.tail,n3:=y3 } r3.tail).number 0 1073741824).bindR λf r4 h4 hs4=>?_
 have hf:=zKx ab h4;have a4:At { b with i:=zS b.l r4,n3:=y3 } r4:=yl rfl rfl hs4;dsimp only;rw[wL (n:=f+1) ab ab]
 refine(zpn (t:=xF) (d:=0) (f:=jQ (f+1) 1073741824) (sf:=λi=>zk { b with i:=i,n3:=y3 } (f+1) 1073741824) (pf:=λi=>zA { b with i:=i,n3:=y3 } (f+1) 1073741824) a4 λhb=>(yl rfl rfl (hs4.tail (zo hb)):At { b with i:=zS b.l r4.tail,n3:=y3 } r4.tail).number (f+1) 1073741824).bindR λu r5 h5 hs5=>?_
 have a5:At { b with i:=zS b.l r5,n3:=y3 } r5:=yl rfl rfl hs5
 refine(zpn (t:=xR) (d:=0) (f:=jQ 0 1073741824) (sf:=λi=>zk { b with i:=i,n3:=y3 } 0 1073741824) (pf:=λi=>zA { b with i:=i,n3:=y3 } 0 1073741824) a5 λhb=>(yl rfl rfl (hs5.tail (zo hb)):At { b with i:=zS b.l r5.tail,n3:=y3 } r5.tail).number 0 1073741824).bindR λg r6 h6 hs6=>?_
 have a6:At { b with i:=zS b.l r6,n3:=y3 } r6:=yl rfl rfl hs6;dsimp only;obtain⟨hs7,e7⟩:=zSb (t:=wc) hs6;rw[a6.has,bsQ,bsQ];dsimp only;rw[e7];have a7:At { b with i:=zS b.l (zsr wc r6),n3:=y3 } (zsr wc r6):=yl rfl rfl hs7
 refine(a7.want xM).bindR λw r8 h8 hs8=>?_
 have a8:At { b with i:=zS b.l r8,n3:=y3 } r8:=yl rfl rfl hs8
 refine RJ.bindR (fj:=fB) (x:=JI r8) ?_ λv r9 h9 hs9=>?_
 ·unfold JI
  rw[a8.has,bsQ,bsQ]
  cases hb1:isB qf r8 with
  |true =>
   simp only[if_true,ctQ,zpl];have s0:=hs8.tail (zo hb1);have b0:At { b with i:=zS b.l r8.tail,n3:=y3 } r8.tail:=yl rfl rfl s0
   refine(b0.number 0 3).bindJ λp1 k1 _ s1=>?_
   have b1:At { b with i:=zS b.l k1,n3:=y3 } k1:=yl rfl rfl s1
   refine(b1.want AB).bindJ λp2 k2 _ s2=>?_
   have b2:At { b with i:=zS b.l k2,n3:=y3 } k2:=yl rfl rfl s2
   refine(b2.number 0 4096).bindJ λp3 k3 _ s3=>?_
   have b3:At { b with i:=zS b.l k3,n3:=y3 } k3:=yl rfl rfl s3
   refine(b3.want jA).bindJ λp4 k4 _ s4=>?_
   have b4:At { b with i:=zS b.l k4,n3:=y3 } k4:=yl rfl rfl s4
   refine(b4.number 0 4096).bindJ λp5 k5 _ s5=>?_
   have b5:At { b with i:=zS b.l k5,n3:=y3 } k5:=yl rfl rfl s5
   refine(b5.number 1 4096).bindJ λp6 k6 _ s6=>?_
   have b6:At { b with i:=zS b.l k6,n3:=y3 } k6:=yl rfl rfl s6
   exact(b6.want yf).bindJ λp7 k7 _ s7=>⟨rfl,rfl,s7⟩
  |false =>
   simp only[aO (show ¬(bd=bf) by simp),cf];rw[a8.has,bsQ,bsQ]
   cases hb2:isB oT r8 with
   |true =>
    simp only[if_true,ctQ,zy7];have s0:=hs8.tail (zo hb2);have b0:At { b with i:=zS b.l r8.tail,n3:=y3 } r8.tail:=yl rfl rfl s0
    refine(zYh b0).bindJ λp1 k1 _ s1=>?_
    have b1:At { b with i:=zS b.l k1,n3:=y3 } k1:=yl rfl rfl s1
    exact(b1.want yf).bindJ λp7 k7 _ s7=>⟨rfl,rfl,s7⟩
   |false =>
    simp only[aO (show ¬(bd=bf) by simp),cf];rw[a8.has,bsQ,bsQ]
    cases hb3:isB qe r8 with
    |true =>
     simp only[if_true,ctQ,zpm];have s0:=hs8.tail (zo hb3);have b0:At { b with i:=zS b.l r8.tail,n3:=y3 } r8.tail:=yl rfl rfl s0
     refine(Yt b0 Q7 ae).bindJ λp1 k1 _ s1=>?_
     have b1:At { b with i:=zS b.l k1,n3:=y3 } k1:=yl rfl rfl s1
     refine(Yt b1 Q7 ae).bindJ λp2 k2 _ s2=>?_
     have b2:At { b with i:=zS b.l k2,n3:=y3 } k2:=yl rfl rfl s2
     refine(b2.number 0 1048576).bindJ λp3 k3 _ s3=>?_
     have b3:At { b with i:=zS b.l k3,n3:=y3 } k3:=yl rfl rfl s3
     exact(b3.want yf).bindJ λp7 k7 _ s7=>⟨rfl,rfl,s7⟩
    |false =>
     simp only[aO (show ¬(bd=bf) by simp),cf,zEt]
     refine a8.expr.bindJ λe k1 h1 s1=>?_
     have b1:At { b with i:=zS b.l k1,n3:=y3 } k1:=yl rfl rfl s1;simp only[fE,xv];rw[zpj hs8 h1,bsQ,bsQ,show decide (((Vs e:Nat):Int)<=12)=decide (Vs e<=12) from yI ab]
     exact(zpi b1 (decide (Vs e<=12)) 6).bindJ λu k2 _ s2=>⟨rfl,rfl,s2⟩
 ·dsimp only
  rw[zE (by simp only[la,lc,bF];omega),bsQ,bsQ];obtain⟨v1,v2,v3,v4,v5,v6⟩:=v;refine RR.ret hs9 ⟨rfl,?_,hy⟩;simp only[fB,xv]
end
def MV{α:Type}(r:List ar)(x:Except EE (α×List ar)):Prop:=∀a r2,x=.ok (a,r2)->ze8 r r2
section
variable{α β:Type}{r:List ar}
def MV.thn{x:Except EE (α×List ar)}{g:α->List ar->Except EE (β×List ar)}(h:MV r x)(hg:∀a r1,x=.ok (a,r1)->ze8 r r1->MV r1 (g a r1)):MV r (thn x g):=λb r2 e=>by
 obtain⟨a,r1,h1,h2⟩:=zG e;have:=h a r1 h1;exact this.trans (hg a r1 h1 this b r2 h2)
def MV.ret{a:α}(h:TWF r):MV r (.ok (a,r)):=λ_ _ e=>by cases e;exact ze8.refl h
def MV.err{e:EE}:MV r (.error e:Except EE (α×List ar)):=λ_ _ e=>by cases e
def MV.ite{c:Prop}[Decidable c]{x y:Except EE (α×List ar)}(h1:c->MV r x)(h2:¬c->MV r y):MV r (if c then x else y):=by
 split
 ·rename_i h;exact h1 h
 ·rename_i h;exact h2 h
def MV.of{x:Except EE (α×List ar)}(h:∀a r2,x=.ok (a,r2)->Aft r r2):MV r x:=λa r2 e=>(h a r2 e).e
def MV.tail{x:Except EE (α×List ar)}(ht:TWF r)(hk:(hdT r).aM≠3)(h:MV r.tail x):MV r x:=λa r2 e=>((zB ht hk).trans (h a r2 e)).e
def Yw{c:Bool}{e:Int}(h:TWF r):MV r (HI c e r):=λ_ _ k=>by obtain⟨rfl,_⟩:=yY k;exact ze8.refl h
def wv{lo hi:Int}(h:TWF r):MV r (jQ lo hi r):=MV.of λ_ _ e=>kS h e
def zss(h:TWF r):MV r (kX r):=MV.of λ_ _ e=>wM h e
def wO{t:ak}(h:TWF r):MV r (xH t r):=MV.of λ_ _ e=>yr h e
def wF{L:List ak}(h:TWF r):MV r (xX L r):=MV.of λ_ _ e=>qB h e
def Yx(h:TWF r):MV r (uh r):=MV.of λ_ _ e=>Zo h e
def An{m:Int}(h:TWF r):MV r (wo m r):=MV.of λ_ _ e=>JH h e
def zYl{lv:Nat}(h:TWF r):MV r (DE lv r):=MV.of λ_ _ e=>yW h e
def Qs{w:List ak}(h:TWF r):MV r (vm w r):=by
 unfold vm
 refine MV.ite (λhk=>?_) λ_=>MV.err
 split
 ·exact MV.tail h ab (MV.ret (h.tail ab))
 ·exact MV.err
def zeo{c:Bool}{e:Int}(h:TWF r):MV r (zh3 c e r):=by
 unfold zh3
 refine(Yw h).thn λ_ r1 h1 q1=>(Yw q1.wf).thn λ_ r2 h2 q2=>?_
 obtain⟨rfl,hb⟩:=yY h1;obtain⟨rfl,_⟩:=yY h2;exact MV.tail h (zo hb) (MV.ret (h.tail (zo hb)))
def HN:∀(n:Nat)(acc:List zU)(r:List ar),TWF r->MV r (vA n acc r)
 |0,_,_,_=>MV.err
 |n+1,acc,r,h=>by
  rw[vA]
  exact(wv h).thn λ_ r1 _ q1=>(wv q1.wf).thn λ_ r2 _ q2=>MV.ite (λ_=>HN n _ r2 q2.wf) λ_=>MV.ret q2.wf
def zEu:∀(n:Nat)(acc:List aw)(r:List ar),TWF r->MV r (Ku n acc r)
 |0,_,_,_=>MV.err
 |n+1,acc,r,h=>by
  rw[Ku]
  exact MV.ite (λ_=>(Yw h).thn λ_ r1 _ q1=>(wF q1.wf).thn λ_ r2 _ q2=>(An q2.wf).thn λ_ r3 _ q3=>zEu n _ r3 q3.wf) λ_=>MV.ret h
def zN7:∀(n:Nat)(acc:List zg)(r:List ar),TWF r->MV r (zpk n acc r)
 |0,_,_,_=>MV.err
 |n+1,acc,r,h=>by
  rw[zpk]
  exact MV.ite (λ_=>(Yw h).thn λ_ r1 _ q1=>(Yx q1.wf).thn λ_ r2 _ q2=>zN7 n _ r2 q2.wf) λ_=>MV.ret h
def zEv:∀(n:Nat)(acc:List ak)(r:List ar),TWF r->MV r (Kt n acc r)
 |0,_,_,_=>MV.err
 |n+1,acc,r,h=>by
  rw[Kt]
  exact MV.ite (λ_=>(zss h).thn λ_ r1 _ q1=>zEv n _ r1 q1.wf) λ_=>MV.ret h
def Qt(h:TWF r):MV r (A6 r):=by
 unfold A6
 exact(zss h).thn λ_ r1 _ q1=>zEv _ _ r1 q1.wf
def zN8:∀(n:Nat)(s:Nat)(r:List ar),TWF r->MV r (zfw n s r)
 |0,_,_,_=>MV.err
 |n+1,s,r,h=>by
  rw[zfw];split
  ·exact MV.ite (λ_=>MV.ret h) λ_=>MV.err
  ·exact MV.ite (λ_=>MV.ret h) λ_=>MV.ite (λ_=>MV.err) λ_=>MV.ite (λhk=>MV.tail h ab (zN8 n _ _ (h.tail ab))) λ_=>MV.err
def zN9:∀(n:Nat)(acc:List zg)(r:List ar),TWF r->MV r (zlx n acc r)
 |0,_,_,_=>MV.err
 |n+1,acc,r,h=>by
  rw[zlx]
  exact(Yw h).thn λ_ r1 _ q1=>(Yw q1.wf).thn λ_ r2 _ q2=>(An q2.wf).thn λ_ r3 _ q3=>(An q3.wf).thn λ_ r4 _ q4=>(wv q4.wf).thn λ_ r5 _ q5=>MV.ite (λhb=>MV.tail q5.wf (zo hb) (zN9 n _ _ (q5.wf.tail (zo hb)))) λ_=>MV.ret q5.wf
def zst{acc:List zg}(h:TWF r):MV r (zv4 acc r):=by
 unfold zv4
 exact(zN9 _ _ r h).thn λ_ r1 _ q1=>(wO q1.wf).thn λ_ r2 _ q2=>MV.ret q2.wf
def km{t:ak}{d:α}{f:List ar->Except EE (α×List ar)}(h:TWF r)(hf:∀r,TWF r->MV r (f r)):MV r (Wd t d f r):=by
 unfold Wd
 exact MV.ite (λhb=>MV.tail h (zo hb) (hf _ (h.tail (zo hb)))) λ_=>MV.ret h
def zEw{L:List ak}(h:TWF r):MV r (zv5 L r):=by
 unfold zv5
 exact(wF h).thn λ_ r1 _ q1=>(wO q1.wf).thn λ_ r2 _ q2=>(zYl q2.wf).thn λ_ r3 _ q3=>(zeo q3.wf).thn λ_ r4 _ q4=>MV.ret q4.wf
def zk3{L:List ak}(h:TWF r):MV r (AO L r):=by
 unfold AO
 exact(wF h).thn λ_ r1 _ q1=>(zEu _ _ r1 q1.wf).thn λ_ r2 _ q2=>(wO q2.wf).thn λ_ r3 _ q3=>(An q3.wf).thn λ_ r4 _ q4=>(wO q4.wf).thn λ_ r5 _ q5=>MV.ret q5.wf
def zsu{L:List ak}(h:TWF r):MV r (Yu L r):=by
 unfold Yu
 exact(wF h).thn λ_ r1 _ q1=>(Yx q1.wf).thn λ_ r2 _ q2=>(wO q2.wf).thn λ_ r3 _ q3=>(wv q3.wf).thn λ_ r4 _ q4=>(wO q4.wf).thn λ_ r5 _ q5=>(Yx q5.wf).thn λ_ r6 _ q6=>(zN7 _ _ r6 q6.wf).thn λ_ r7 _ q7=>(wO q7.wf).thn λ_ r8 _ q8=>MV.ret q8.wf
def zk4{L:List ak}{o:Bool}(h:TWF r):MV r (Ve L o r):=by
 unfold Ve
 exact(wF h).thn λ_ r1 _ q1=>(HN _ _ r1 q1.wf).thn λ_ r2 _ q2=>(zeo q2.wf).thn λ_ r3 _ q3=>MV.ret q3.wf
def zOa{L:List ak}(h:TWF r):MV r (zy6 L r):=by
 unfold zy6
 exact(wF h).thn λ_ r1 _ q1=>(Qs q1.wf).thn λ_ r2 _ q2=>(wv q2.wf).thn λ_ r3 _ q3=>(HN _ _ r3 q3.wf).thn λ_ r4 _ q4=>(zeo q4.wf).thn λ_ r5 _ q5=>MV.ret q5.wf
def zSd(h:TWF r):MV r (JI r):=by
 unfold JI
 refine MV.ite (λhb=>MV.tail h (zo hb) ?_) λ_=>MV.ite (λhb=>MV.tail h (zo hb) ?_) λ_=>MV.ite (λhb=>MV.tail h (zo hb) ?_) λ_=>?_
 ·have k:=h.tail (zo hb)
  unfold zpl
  exact(wv k).thn λ_ r1 _ q1=>(wO q1.wf).thn λ_ r2 _ q2=>(wv q2.wf).thn λ_ r3 _ q3=>(wO q3.wf).thn λ_ r4 _ q4=>(wv q4.wf).thn λ_ r5 _ q5=>(wv q5.wf).thn λ_ r6 _ q6=>(wO q6.wf).thn λ_ r7 _ q7=>MV.ret q7.wf
 ·have k:=h.tail (zo hb)
  unfold zy7
  exact(zN8 _ _ _ k).thn λ_ r1 _ q1=>(wO q1.wf).thn λ_ r2 _ q2=>MV.ret q2.wf
 ·have k:=h.tail (zo hb)
  unfold zpm
  exact(Qs k).thn λ_ r1 _ q1=>(Qs q1.wf).thn λ_ r2 _ q2=>(wv q2.wf).thn λ_ r3 _ q3=>(wO q3.wf).thn λ_ r4 _ q4=>MV.ret q4.wf
 ·unfold zEt
  exact(zYl h).thn λ_ r1 _ q1=>(zeo q1.wf).thn λ_ r2 _ q2=>MV.ret q2.wf
def Q8{t:ak}(h:TWF r):ze8 r (zsr t r):=by
 unfold zsr;split
 ·rename_i hb;exact(zB h (zo hb)).e
 ·exact ze8.refl h
def MV.from{x:Except EE (α×List ar)}{r1:List ar}(h:ze8 r r1)(k:MV r1 x):MV r x:=λa r2 e=>h.trans (k a r2 e)
def zsv{L:List ak}(h:TWF r):MV r (Yv L r):=by
 unfold Yv
 exact(wF h).thn λ_ r1 _ q1=>(km q1.wf λr h=>Qt h).thn λ_ r2 _ q2=>(km q2.wf λr h=>Qt h).thn λ_ r3 _ q3=>(km q3.wf λr h=>wv h).thn λ_ r4 _ q4=>(km q4.wf λr h=>wv h).thn λ_ r5 _ q5=>(km q5.wf λr h=>wv h).thn λ_ r6 _ q6=>(MV.from (Q8 q6.wf) (wO (Q8 q6.wf).wf)).thn λ_ r7 _ q7=>(zSd q7.wf).thn λ_ r8 _ q8=>MV.ret q8.wf
end
def Qu(n most:Nat)(r:List ar):Except EE (Unit×List ar):=thn (HI (decide (n<most)) 6 r) λ_ r=>.ok ((),r.tail)
noncomputable def Qv(p:yJ)(h:Bool)(r:List ar):Except EE ((yJ×Bool)×List ar) :=
 if isB wZ r then thn (Qu p.aF.length 60 r) λ_ r=>thn (zv5 (p.aF.map Def.aL) r) λd r=>.ok (({ p with aF:=p.aF++[d] },h),r)
 else if isB yy r then thn (Qu p.Tables.length 60 r) λ_ r=>thn (AO (p.Tables.map au.aL) r) λd r=>.ok (({ p with Tables:=p.Tables++[d] },h),r)
 else if isB xm r then thn (Qu p.aB.length 60 r) λ_ r=>thn (Ve (p.aB.map yD.aL) bd r) λd r=>.ok (({ p with aB:=p.aB++[d] },h),r)
 else if isB yH r then thn (Qu p.aB.length 60 r) λ_ r=>thn (Ve (p.aB.map yD.aL) bf r) λd r=>.ok (({ p with aB:=p.aB++[d] },h),r)
 else if isB qU r then thn (Qu p.aE.length 200 r) λ_ r=>thn (Yv (p.aE.map zX.aL) r) λd r=>.ok (({ p with aE:=p.aE++[d] },h),r)
 else if isB WQ r then thn (Qu p.aJ.length 30 r) λ_ r=>thn (zy6 (p.aJ.map Cap.aL) r) λd r=>.ok (({ p with aJ:=p.aJ++[d] },h),r)
 else if isB AD r then thn (Qu p.aG.length 60 r) λ_ r=>thn (Yu (p.aG.map av.aL) r) λd r=>.ok (({ p with aG:=p.aG++[d] },h),r)
 else if isB Jf r then thn (HI (decide (p.aK.length=0)) 5 r) λ_ r=>thn (zv4 p.aK r.tail) λs r=>.ok (({ p with aK:=s },h),r)
 else if isB kD r then thn (HI (!h) 5 r) λ_ r=>thn (jQ 0 24 r.tail) λn r=>thn (xH yf r) λ_ r=>.ok (({ p with aI:=n },bf),r)
 else .error (zfu r 14)
noncomputable def HO:Nat->yJ->Bool->List ar->Except EE ((yJ×Bool)×List ar)
 |0,_,_,_=>oof
 |n+1,p,h,r=>if(hdT r).aM=3 then .ok ((p,h),r)else thn (Qv p h r) λx r=>HO n x.1 x.2 r
def RP{α γ:Type}(l:List ar)(x:Except EE (α×List ar))(s:Option γ)(p:Option (EE⊕γ))(S:α->Int->γ->Prop):Prop:=match x with
 |.ok (v,r)=>(∃y,s=bc y/\p=bc (.inr y)/\S v (zS l r) y)/\St l r
 |.error e=>s=bh/\p=bc (.inl e)
def RR.bindP{α β α' γ:Type}{l:List ar}{x:Except EE (α×List ar)}{s:Option β}{p:Option EE}{S:α->Int->β->Prop}{g:α->List ar->Except EE (α'×List ar)}{s2:β->Option γ}{p2:β->Option (EE⊕γ)}{S2:α'->Int->γ->Prop}(h:RR l x s p S)(h2:∀v r y,x=.ok (v,r)->St l r->S v (zS l r) y->RP l (g v r) (s2 y) (p2 y) S2):RP l (thn x g) (s.bind s2) (orC p (λq=>bc (.inl q)) (s.bind p2)) S2:=by
 match x,h,h2 with
 |.error e,⟨h,h'⟩,_=>exact⟨by rw[h];rfl,by rw[h'];rfl⟩
 |.ok (v,r),⟨⟨y,h,hy⟩,h',hs⟩,h2 =>
  have:=h2 v r y rfl hs hy;rw[h,h'];exact this
def RT.bindP{α β α' γ:Type}{l:List ar}{x:Except EE (α×List ar)}{s:Option β}{p:Option EE}{f:α->Int->β}{g:α->List ar->Except EE (α'×List ar)}{s2:β->Option γ}{p2:β->Option (EE⊕γ)}{S2:α'->Int->γ->Prop}(h:RT l x s p f)(h2:∀v r,x=.ok (v,r)->St l r->RP l (g v r) (s2 (f v (zS l r))) (p2 (f v (zS l r))) S2):RP l (thn x g) (s.bind s2) (orC p (λq=>bc (.inl q)) (s.bind p2)) S2 :=
 h.rr.bindP λv r y h1 hs hy=>by subst hy;exact h2 v r h1 hs
abbrev NM:=List (List (ak×Bool))
def qT(l:List ar)(p:yJ)(h:Bool)(r:List ar)(n0 n1 n2 n3 n4 n5:NM):Int×Int×Bool×List Def×List au×List yD×List zX×List Cap×List av×List zg×NM×NM×NM×NM×NM×NM :=
 (zS l r,p.aI,h,p.aF,p.Tables,p.aB,p.aE,p.aJ,p.aG,p.aK,n0,n1,n2,n3,n4,n5)
def QS(v:yJ×Bool)(i:Int)(y:Int×Int×Bool×List Def×List au×List yD×List zX×List Cap×List av×List zg×NM×NM×NM×NM×NM×NM):Prop:=y.1=i/\y.2.1=v.1.aI/\y.2.2.1=v.2/\y.2.2.2.1=v.1.aF/\y.2.2.2.2.1=v.1.Tables/\y.2.2.2.2.2.1=v.1.aB/\y.2.2.2.2.2.2.1=v.1.aE/\y.2.2.2.2.2.2.2.1=v.1.aJ/\y.2.2.2.2.2.2.2.2.1=v.1.aG/\y.2.2.2.2.2.2.2.2.2.1=v.1.aK
def yQ{n most:Nat}{r r2:List ar}{u:Unit}(h:Qu n most r=.ok (u,r2)):r2=r.tail/\n<most:=by
 obtain⟨a,r1,h1,h2⟩:=zG h;obtain⟨rfl,hc⟩:=yY h1;cases h2;exact⟨rfl,aY hc⟩
section
variable{b:BB}
def zEx{r:List ar}{t:ak}(hk:¬(hdT r).aM=3):isB t r=decide ((hdT r).Text=t):=by
 unfold isB;rw[df hk];rfl
def zYm:∀(n:Nat)(r:List ar)(p:yJ)(h:Bool)(n0 n1 n2 n3 n4 n5:NM)(K:Nat),St b.l r->r.length<n->n<=K ->
  MN n0 (p.aF.map Def.aL)->MN n1 (p.Tables.map au.aL)->MN n2 (p.aB.map yD.aL)->MN n3 (p.aE.map zX.aL)->MN n4 (p.aJ.map Cap.aL)->MN n5 (p.aG.map av.aL) ->
  RP b.l (HO n p h r) (yi b K (qT b.l p h r n0 n1 n2 n3 n4 n5)) (yj b K (qT b.l p h r n0 n1 n2 n3 n4 n5)) QS:=by
 intro n
 induction n with
 |zero=>intro r p h n0 n1 n2 n3 n4 n5 K hs hn;omega
 |succ n ih =>
  intro r p h n0 n1 n2 n3 n4 n5 K hs hn hK m0 m1 m2 m3 m4 m5
  obtain⟨K,rfl⟩:∃k,K=k+1:=⟨K-1,ab⟩
  rw[HO,yi,yj,show za=zb from rfl];have a0:At { (zb b (qT b.l p h r n0 n1 n2 n3 n4 n5))with l:=b.l } r:=yl rfl rfl hs;simp only[a0.next,bsQ];by_cases hk:(hdT r).aM=3
  ·rw[aP hk,dt hk]
   exact⟨⟨_,rfl,rfl,rfl,rfl,rfl,rfl,rfl,rfl,rfl,rfl,rfl,rfl⟩,hs⟩
  ·rw[aO hk,df hk,cC,ctQ,ctQ]
   have hlt:=Zf hs.wf;unfold Qv;simp only[<- zEx hk]
   have go:∀{r2:List ar},ze8 r.tail r2->r2.length<n/\n<=K:=λh=>⟨by have:=h.le;omega,ab⟩
   cases e1:isB wZ r with
   |true =>
    simp only[if_true,ctQ,zN]
    refine(V5 a0 p.aF.length 60 hk).bindP λu r1 h1 hs1=>?_
    obtain⟨rfl,hl⟩:=yQ h1
    refine(zEs (yl rfl rfl hs1:At { zb b (qT b.l p h r n0 n1 n2 n3 n4 n5)with l:=b.l,i:=zS b.l r.tail } r.tail) m0 (show p.aF.length<=1000 by omega)).bindP λd r2 y h2 hs2 hy=>?_
    obtain⟨y1,y2,y3⟩:=y;obtain⟨rfl,rfl,hy⟩:=hy;have g:=go (zEw hs1.wf _ _ h2);exact ih r2 { p with aF:=p.aF++[d] } h y3 n1 n2 n3 n4 n5 K hs2 g.1 g.2 (by rw[bO];exact hy) m1 m2 m3 m4 m5
   |false =>
   simp only[aO (show ¬(bd=bf) by simp),cf]
   cases e2:isB yy r with
   |true =>
    simp only[if_true,ctQ,zN]
    refine(V5 a0 p.Tables.length 60 hk).bindP λu r1 h1 hs1=>?_
    obtain⟨rfl,hl⟩:=yQ h1
    refine(zKw (yl rfl rfl hs1:At { zb b (qT b.l p h r n0 n1 n2 n3 n4 n5)with l:=b.l,i:=zS b.l r.tail } r.tail) m1 (show p.Tables.length<=1000 by omega)).bindP λd r2 y h2 hs2 hy=>?_
    obtain⟨y1,y2,y3⟩:=y;obtain⟨rfl,rfl,hy⟩:=hy;have g:=go (zk3 hs1.wf _ _ h2);exact ih r2 { p with Tables:=p.Tables++[d] } h n0 y3 n2 n3 n4 n5 K hs2 g.1 g.2 m0 (by rw[bO];exact hy) m2 m3 m4 m5
   |false =>
   simp only[aO (show ¬(bd=bf) by simp),cf]
   cases e3:isB xm r with
   |true =>
    simp only[if_true,ctQ,zN]
    have ho:isB yH r=bd:=by
     rw[zEx hk]at e3 ⊢;rw[aY e3];rfl
    rw[a0.is,ho,bsQ,bsQ]
    refine(V5 a0 p.aB.length 60 hk).bindP λu r1 h1 hs1=>?_
    obtain⟨rfl,hl⟩:=yQ h1;unfold Ve;simp only[zN]
    refine(zEo (yl rfl rfl hs1:At { zb b (qT b.l p h r n0 n1 n2 n3 n4 n5)with l:=b.l,i:=zS b.l r.tail } r.tail) m2).bindP λs r2 y h2 hs2 hy=>?_
    obtain⟨y1,y2,y3⟩:=y;obtain⟨rfl,rfl,hy⟩:=hy;have q2:=wF hs1.wf _ _ h2
    refine(zen (yl rfl rfl hs2:At { zb b (qT b.l p h r n0 n1 n2 n3 n4 n5)with l:=b.l,i:=zS b.l r2,n2:=y3 } r2)).bindP λc r3 h3 hs3=>?_
    have q3:=q2.trans (HN _ _ _ hs2.wf _ _ h3);dsimp only;rw[zeh,bsQ,bsQ]
    refine(zpi (yl rfl rfl hs3:At { zb b (qT b.l p h r n0 n1 n2 n3 n4 n5)with l:=b.l,i:=zS b.l r3,n2:=y3 } r3) _ _).bindP λu r4 h4 hs4=>?_
    have g:=go (q3.trans (zeo hs3.wf _ _ h4));rw[zE (by show(p.aB++_).length*48<=_;simp only[la,lc,bF];omega),bsQ,bsQ];exact ih r4 { p with aB:=p.aB++[yD.mk y1 bd c] } h n0 n1 y3 n3 n4 n5 K hs4 g.1 g.2 m0 m1 (by rw[bO];exact hy) m3 m4 m5
   |false =>
   simp only[aO (show ¬(bd=bf) by simp),cf]
   cases e4:isB yH r with
   |true =>
    simp only[if_true,ctQ,zN];rw[a0.is,e4,bsQ,bsQ]
    refine(V5 a0 p.aB.length 60 hk).bindP λu r1 h1 hs1=>?_
    obtain⟨rfl,hl⟩:=yQ h1;unfold Ve;simp only[zN]
    refine(zEo (yl rfl rfl hs1:At { zb b (qT b.l p h r n0 n1 n2 n3 n4 n5)with l:=b.l,i:=zS b.l r.tail } r.tail) m2).bindP λs r2 y h2 hs2 hy=>?_
    obtain⟨y1,y2,y3⟩:=y;obtain⟨rfl,rfl,hy⟩:=hy;have q2:=wF hs1.wf _ _ h2
    refine(zen (yl rfl rfl hs2:At { zb b (qT b.l p h r n0 n1 n2 n3 n4 n5)with l:=b.l,i:=zS b.l r2,n2:=y3 } r2)).bindP λc r3 h3 hs3=>?_
    have q3:=q2.trans (HN _ _ _ hs2.wf _ _ h3);dsimp only;rw[zeh,bsQ,bsQ]
    refine(zpi (yl rfl rfl hs3:At { zb b (qT b.l p h r n0 n1 n2 n3 n4 n5)with l:=b.l,i:=zS b.l r3,n2:=y3 } r3) _ _).bindP λu r4 h4 hs4=>?_
    have g:=go (q3.trans (zeo hs3.wf _ _ h4));rw[zE (by show(p.aB++_).length*48<=_;simp only[la,lc,bF];omega),bsQ,bsQ];exact ih r4 { p with aB:=p.aB++[yD.mk y1 bf c] } h n0 n1 y3 n3 n4 n5 K hs4 g.1 g.2 m0 m1 (by rw[bO];exact hy) m3 m4 m5
   |false =>
   simp only[aO (show ¬(bd=bf) by simp),cf]
   cases e5:isB qU r with
   |true =>
    simp only[if_true,ctQ,zN]
    refine(V5 a0 p.aE.length 200 hk).bindP λu r1 h1 hs1=>?_
    obtain⟨rfl,hl⟩:=yQ h1
    refine(zSc (yl rfl rfl hs1:At { zb b (qT b.l p h r n0 n1 n2 n3 n4 n5)with l:=b.l,i:=zS b.l r.tail } r.tail) m3 (show p.aE.length<=1000 by omega)).bindP λd r2 y h2 hs2 hy=>?_
    obtain⟨y1,y2,y3⟩:=y;obtain⟨rfl,rfl,hy⟩:=hy;have g:=go (zsv hs1.wf _ _ h2);exact ih r2 { p with aE:=p.aE++[d] } h n0 n1 n2 y3 n4 n5 K hs2 g.1 g.2 m0 m1 m2 (by rw[bO];exact hy) m4 m5
   |false =>
   simp only[aO (show ¬(bd=bf) by simp),cf]
   cases e6:isB WQ r with
   |true =>
    simp only[if_true,ctQ,zN]
    refine(V5 a0 p.aJ.length 30 hk).bindP λu r1 h1 hs1=>?_
    obtain⟨rfl,hl⟩:=yQ h1;unfold zy6;simp only[zN]
    refine(zR5 (yl rfl rfl hs1:At { zb b (qT b.l p h r n0 n1 n2 n3 n4 n5)with l:=b.l,i:=zS b.l r.tail } r.tail) m4).bindP λs r2 y h2 hs2 hy=>?_
    obtain⟨y1,y2,y3⟩:=y;obtain⟨rfl,rfl,hy⟩:=hy;have q2:=wF hs1.wf _ _ h2
    refine(Yt (yl rfl rfl hs2:At { zb b (qT b.l p h r n0 n1 n2 n3 n4 n5)with l:=b.l,i:=zS b.l r2,n4:=y3 } r2) zsq ae).bindP λk r3 h3 hs3=>?_
    have q3:=q2.trans (Qs hs2.wf _ _ h3)
    refine((yl rfl rfl hs3:At { zb b (qT b.l p h r n0 n1 n2 n3 n4 n5)with l:=b.l,i:=zS b.l r3,n4:=y3 } r3).number 0 1099511627776).bindP λm r4 h4 hs4=>?_
    have q4:=q3.trans (wv hs3.wf _ _ h4)
    refine(zen (yl rfl rfl hs4:At { zb b (qT b.l p h r n0 n1 n2 n3 n4 n5)with l:=b.l,i:=zS b.l r4,n4:=y3 } r4)).bindP λc r5 h5 hs5=>?_
    have q5:=q4.trans (HN _ _ _ hs4.wf _ _ h5);dsimp only;rw[zeh,bsQ,bsQ]
    refine(zpi (yl rfl rfl hs5:At { zb b (qT b.l p h r n0 n1 n2 n3 n4 n5)with l:=b.l,i:=zS b.l r5,n4:=y3 } r5) _ _).bindP λu r6 h6 hs6=>?_
    have g:=go (q5.trans (zeo hs5.wf _ _ h6));rw[zE (by show(p.aJ++_).length*56<=_;simp only[la,lc,bF];omega),bsQ,bsQ];exact ih r6 { p with aJ:=p.aJ++[Cap.mk y1 k m c] } h n0 n1 n2 n3 y3 n5 K hs6 g.1 g.2 m0 m1 m2 m3 (by rw[bO];exact hy) m5
   |false =>
   simp only[aO (show ¬(bd=bf) by simp),cf]
   cases e7:isB AD r with
   |true =>
    simp only[if_true,ctQ,zN]
    refine(V5 a0 p.aG.length 60 hk).bindP λu r1 h1 hs1=>?_
    obtain⟨rfl,hl⟩:=yQ h1
    refine(zR9 (yl rfl rfl hs1:At { zb b (qT b.l p h r n0 n1 n2 n3 n4 n5)with l:=b.l,i:=zS b.l r.tail } r.tail) m5 (show p.aG.length<=1000 by omega)).bindP λd r2 y h2 hs2 hy=>?_
    obtain⟨y1,y2,y3⟩:=y;obtain⟨rfl,rfl,hy⟩:=hy;have g:=go (zsu hs1.wf _ _ h2);exact ih r2 { p with aG:=p.aG++[d] } h n0 n1 n2 n3 n4 y3 K hs2 g.1 g.2 m0 m1 m2 m3 m4 (by rw[bO];exact hy)
   |false =>
   simp only[aO (show ¬(bd=bf) by simp),cf]
   cases e8:isB Jf r with
   |true =>
    simp only[if_true,ctQ,zN];have hst:=hs.tail hk
    refine(a0.check (decide (p.aK.length=0)) 5).bindP λu r1 h1 hs1=>?_
    obtain⟨rfl,hl⟩:=yY h1;rw[a0.step]
    refine(zYj (b:={ zb b (qT b.l p h r1 n0 n1 n2 n3 n4 n5)with l:=b.l,i:=zS b.l r1.tail }) (yl rfl rfl hst)).bindP λs r2 h2 hs2=>?_
    have g:=go (zst hst.wf _ _ h2);exact ih r2 { p with aK:=s } h n0 n1 n2 n3 n4 n5 K hs2 g.1 g.2 m0 m1 m2 m3 m4 m5
   |false =>
   simp only[aO (show ¬(bd=bf) by simp),cf]
   cases e9:isB kD r with
   |true =>
    simp only[if_true,ctQ,zN];have hst:=hs.tail hk
    refine(a0.check (!h) 5).bindP λu r1 h1 hs1=>?_
    obtain⟨rfl,hl⟩:=yY h1;rw[a0.step]
    refine((yl rfl rfl hst:At { zb b (qT b.l p h r1 n0 n1 n2 n3 n4 n5)with l:=b.l,i:=zS b.l r1.tail } r1.tail).number 0 24).bindP λm r2 h2 hs2=>?_
    have q2:=wv hst.wf _ _ h2
    refine((yl rfl rfl hs2:At { zb b (qT b.l p h r1 n0 n1 n2 n3 n4 n5)with l:=b.l,i:=zS b.l r2,H:=m,h:=bf } r2).want yf).bindP λu r3 h3 hs3=>?_
    have g:=go (q2.trans (wO hs2.wf _ _ h3));exact ih r3 { p with aI:=m } bf n0 n1 n2 n3 n4 n5 K hs3 g.1 g.2 m0 m1 m2 m3 m4 m5
   |false =>
   simp only[aO (show ¬(bd=bf) by simp),cf];refine⟨rfl,?_⟩;unfold Ho;rw[a0.next];rfl
end
end Go.Proofs.YtffencjoddkghaaGreatDoor
