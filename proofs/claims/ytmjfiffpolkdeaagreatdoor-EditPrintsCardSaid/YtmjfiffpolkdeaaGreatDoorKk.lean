/- texts that the proof reaches, part 11 -/
import Derived.Test.YtmjfiffpolkdeaaGreatDoorKj
set_option linter.all false
open BitVec renaming ofInt->cM
open Bool renaming false->bd,true->bg,not_true->bJ,true_and->cb,false_eq_true->cr,not_false->cu,false_and->dA,and_false->eH,eq_iff_iff->eN,false_or->aaZ
open Int renaming toNat->bQ,toNat_natCast->dD
open List renaming length->bf,all_eq_true->bj,mem_cons->bq,mem_append->bw,getElem?_eq_some_iff->bx,getElem?_eq_getElem->bF,mem_of_getElem?->bG,append_nil->bM,length_nil->bN,cons_append->bO,length_drop->bU,getD_eq_getElem?_getD->bY,nil_append->cl,all_cons->cv,flatMap_cons->cN,range->cQ,mem_nil_iff->cV,length_pos_iff->db,isEmpty->dj,drop_drop->dz,foldl_cons->dB,isPrefixOf->dH,getElem_mem->dX,takeWhile->eh,length_singleton->eQ,find?_eq_none->fo,takeWhile_append_of_pos->aa0,drop_succ_cons->aa2,dropWhile->il,foldl_nil->abI,zip_cons_cons->abu
open Nat renaming zero_le->bP,le_trans->cR,lt_succ_self->cT,le_refl->du,testBit->dK,add_zero->dM,lt_of_lt_of_le->eu,not_lt_zero->eA,add_assoc->eD,mod_eq_of_lt->eX,lt_of_le_of_lt->fq,pow_succ->fC,pow_le_pow_right->fQ,le_of_lt->aa9,mod_lt->iN
open Option renaming bind->aN,some->bc,none->bh,bind_assoc->dq,getD_none->gQ
open Sum renaming inl->bp,inr->br
open UInt8 renaming ofNat->eJ,toNat_inj->aa'
set_option maxRecDepth 100000
namespace Go.Proofs.YtmjfiffpolkdeaaGreatDoor
open Go Go.RowKit Go.iE Go.EV Go.EQ
variable[Fuel]
def zt{p:Prop}{i:Decidable p}(h:p):@ea p i=bc ():=aP h
def yv{n:Int}(h0:-9223372036854775808<=n)(h1:n<=9223372036854775807):EV.aS n=n:=zzy h0 h1
def EL{α:Type}[Inhabited α]{l:List α}{i:Nat}(h:i<l.length):idx l (i:Int)=bc (l.getD i default):=by unfold idx;rw[aP ⟨ab,ab⟩];rfl
def zW{α:Type}[Inhabited α]{l:List α}{i:Nat}{x:α}(h:l[i]?=bc x):idx l (i:Int)=bc x:=by obtain⟨h1,h2⟩:=bx.1 h;rw[EL h1,bY,h];rfl
def Mb{α:Type}{l:List α}{a b:Nat}(h1:a<=b)(h2:b<=l.length):cut l (a:Int) (b:Int)=bc ((l.take b).drop a):=by unfold cut;rw[aP ⟨ab,ab,ab⟩];rfl
def Xe{α:Type}{l:List α}{a:Nat}(h1:a<=l.length):cut l (a:Int) (l.length:Int)=bc (l.drop a):=by rw[Mb h1 aq,List.take_length]
def yw{n:Nat}(h:n<9223372036854775807):aS ((n:Int)+1)=((n+1:Nat):Int):=by rw[yv ab ab];rfl
def vZ{n:Nat}(h:n<18446744073709551616):n<KK:=eu h Fuel.DN
def yZ{α:Type}{l:List α}{i:Nat}{x:α}{r:List α}(h:l.drop i=x::r):l[i]?=bc x/\l.drop (i+1)=r/\i<l.length:=by
 have h0:l[i]?=bc x:=by have:=List.getElem?_drop (xs:=l) (i:=i) (j:=0);rw[h]at this;simpa using this.symm
 refine⟨h0,?_,(bx.1 h0).1⟩;rw[<- dz,h];rfl
def drop_nil{α:Type}{l:List α}{i:Nat}(h:l.drop i=[])(hi:i<=l.length):i=l.length:=by have:=aQ bf h;simp at this;omega
-- bytes
def vc(c:UInt8):Bool:=decide (97<=c.toNat)&&decide (c.toNat<=122)
def ye(c:UInt8):Bool:=decide (48<=c.toNat)&&decide (c.toNat<=57)
def zy(c:UInt8):Bool:=decide (c.toNat=32)||(decide (c.toNat=9)||decide (c.toNat=10))
def yO(c:UInt8):Bool:=vc c||ye c
def kr(a b:Bool):(bif a then bc b else bc bd)=bc (a&&b):=by cases a<;>rfl
def Mc(a b:Bool):(bif a then bc bg else bc b)=bc (a||b):=by cases a<;>rfl
def yI{p q:Prop}{i:Decidable p}{j:Decidable q}(h:p↔q):@decide p i=@decide q j:=by
 by_cases hq:q
 .rw[dt hq,dt (h.2 hq)]
 .rw[df hq,df (λhp=>hq (h.1 hp))]
def zNb(n m:Nat){a:Int}(h:a=(m:Int)):decide ((n:Int)>=a)=decide (m<=n):=yI ab
def Md(n m:Nat){a:Int}(h:a=(m:Int)):decide ((n:Int)<=a)=decide (n<=m):=yI ab
def TI(n m:Nat){a:Int}(h:a=(m:Int)):decide ((n:Int)=a)=decide (n=m):=yI ab
def OG(c:UInt8):kP ((c.toNat:Nat):Int)=bc (vc c):=by unfold kP;rw[kr,vc,zNb _ 97 (a:=97) rfl,Md _ 122 (a:=122) rfl]
def X0(c:UInt8):qF ((c.toNat:Nat):Int)=bc (ye c):=by unfold qF;rw[kr,ye,zNb _ 48 (a:=48) rfl,Md _ 57 (a:=57) rfl]
def zQ9(c:UInt8):JS ((c.toNat:Nat):Int)=bc (zy c):=by unfold JS;rw[Mc,Mc,zy,TI _ 32 (a:=32) rfl,TI _ 9 (a:=9) rfl,TI _ 10 (a:=10) rfl]
def zEc(c:UInt8):uT ((c.toNat:Nat):Int)=bc (yO c):=by unfold uT;rw[OG,aC,X0,aC,Mc,yO]
-- runs of bytes
def OH(l:ak)(f:UInt8->Bool)(G:UInt8->Option Bool)(F:Nat->Int->Option Int)(hG:∀b,G b=bc (f b))
  (hF:∀K q,F (K+1) q=((bif (decide (q<((bf l:Nat):Int)))then(idx l q).bind G else bc bd)).bind λx1=>(bif x1 then F K (aS (q+1))else bc q)) (hl:l.length<4611686018427387904):
  ∀(r:ak)(i K:Nat),l.drop i=r->i<=l.length->r.length<K->F K (i:Int)=bc ((i+(r.takeWhile f).length:Nat):Int):=by
 intro r
 induction r with
 |nil =>
  intro i K hr hi hK
  obtain⟨K,rfl⟩:∃k,K=k+1:=⟨K-1,ab⟩
  have:=drop_nil hr hi;rw[hF,df ab];simp
 |cons c r ih =>
  intro i K hr hi hK
  obtain⟨K,rfl⟩:∃k,K=k+1:=⟨K-1,ab⟩
  obtain⟨h1,h2,h3⟩:=yZ hr;simp only[lc]at hK;rw[hF,dt ab,aH,zW h1,aC,hG,aC]
  cases hc:f c with
  |false=>simp[eh,hc]
  |true =>
   rw[aH,yw ab,ih (i+1) K h2 ab ab];simp only[eh,hc,lc]
   congr 2;omega
def yA(f:UInt8->Bool)(l:ak):Nat:=(l.takeWhile f).length
def qU(f:UInt8->Bool)(l:ak):yA f l<=l.length:=(List.takeWhile_sublist _).length_le
def LR{α:Type}(o:Option α):(o.bind λx=>bc x)=o:=by cases o<;>rfl
def zX3{s:ak}(h:s.length<4611686018427387904):Ok s=bc ((yA zy s:Nat):Int):=by unfold Ok;rw[LR,show((0:Int))=((0:Nat):Int) from rfl,OH s zy (λx2=>aN (JS ((x2.toNat:Nat):Int)) λx3=>bc x3) (Hx s) (λb=>by rw[zQ9];rfl) (λK q=>rfl) h s 0 KK rfl ab (vZ ab)];simp[yA]
def zRa{s:ak}(h:s.length<4611686018427387904):KR s=bc ((yA yO s:Nat):Int):=by unfold KR;rw[LR,show((0:Int))=((0:Nat):Int) from rfl,OH s yO (λx2=>aN (KQ ((x2.toNat:Nat):Int)) λx3=>bc x3) (uz s) (λb=>by rw[show KQ=uT from rfl,zEc];rfl) (λK q=>rfl) h s 0 KK rfl ab (vZ ab)];simp[yA]
def zRb{s:ak}(h:s.length<4611686018427387904):KS s=bc ((yA yO s:Nat):Int):=by unfold KS;rw[LR,show((0:Int))=((0:Nat):Int) from rfl,OH s yO (λx2=>aN (uT ((x2.toNat:Nat):Int)) λx3=>bc x3) (uA s) (λb=>by rw[zEc];rfl) (λK q=>rfl) h s 0 KK rfl ab (vZ ab)];simp[yA]
def zEd{s:ak}(h:s.length<4611686018427387904):A0 s=bc ((yA ye s:Nat):Int):=by unfold A0;rw[LR,show((0:Int))=((0:Nat):Int) from rfl,OH s ye (λx2=>aN (qF ((x2.toNat:Nat):Int)) λx3=>bc x3) (uB s) (λb=>by rw[X0];rfl) (λK q=>rfl) h s 0 KK rfl ab (vZ ab)];simp[yA]
def zvc{f:UInt8->Bool}{l:ak}:yA f l=l.length↔l.all f=bg:=by
 induction l with
 |nil=>simp[yA]
 |cons c l ih =>
  simp only[yA,eh,cv]at ih ⊢
  cases f c with
  |false=>simp
  |true=>simp only[lc,cb,<- ih];omega
-- words
def H8(s:ak):Bool:=match s with
 |[]=>bd
 |c::r=>vc c&&(decide (s.length<=20)&&r.all yO)
def zRc{s:ak}(h:s.length<4611686018427387904):Hy s=bc (H8 s):=by
 unfold Hy
 cases s with
 |nil=>rfl
 |cons c r =>
  rw[df af,cf,show((0:Int))=((0:Nat):Int) from rfl,zW (x:=c) rfl,aC,OG,aC,Mc,aC,zRb h,aC]
  have e:decide ((yA yO (c::r):Int)=(((c::r).length:Nat):Int))=(yO c&&r.all yO):=by rw[<- cv,eN,decide_eq_true_iff,<- zvc];omega
  rw[e,H8]
  cases hc:vc c with
  |false=>simp
  |true =>
   have:yO c=bg:=by rw[yO,hc];rfl
   rw[this];by_cases CG:(c::r).length<=20
   .rw[dt CG,df ab];simp
   .rw[df CG,dt ab];simp
def zNc{s:ak}(h:0<=s.length):Hy s=bc (H8 s):=by
 by_cases hs:s.length<4611686018427387904
 .exact zRc hs
 .unfold Hy
  cases s with
  |nil=>rfl
  |cons c r =>
   rw[df af,cf,show((0:Int))=((0:Nat):Int) from rfl,zW (x:=c) rfl,aC,OG,aC,Mc,aC];rw[dt (by omega:(((c::r).length:Nat):Int)>20),Bool.or_true,aH,H8,df (by omega:¬(c::r).length<=20)];cases vc c<;>rfl
def H9(s:ak):List ak->Option Nat
 |[]=>bh
 |x::r=>if x=s then bc 0 else(H9 s r).map (·+1)
def Kd:Option Nat->Int
 |some i=>(i:Int)
 |none=>-1
def V8{s:ak}:∀{l:List ak}{i:Nat},H9 s l=bc i->l[i]?=bc s
 |x::r,i,h=>by
  rw[H9]at h;split at h
  .rename_i e;cases h;simp[e]
  .obtain⟨j,h1,rfl⟩:=Option.map_eq_some_iff.1 h;simpa using V8 h1
def MQ:List ak:=[I7,jg,qD,Br,zO,je,yx,wP,xp,AG,Vk,Z9,Yc,qE,Li,zu,jh,yn,wB,QR,yG,uc,xi,kH,yB,Qt,zR]
def zw(s:ak):Bool:=H8 s&&!(decide (s∈MQ))
def EZ:List ak->ak
 |[]=>[32]
 |w::r=>32::(w++EZ r)
def zJ9:∀l,∃t,EZ l=32::t
 |[]=>⟨[],rfl⟩
 |w::r=>⟨_,rfl⟩
def zNd{t:ak}:∀{s w:ak},(∀b∈s,b≠32)->(∀b∈w,b≠32)->(s++[32]).isPrefixOf (w++32::t)=decide (s=w)
 |[],[],_,_=>by simp[dH]
 |[],b::w,_,h=>by
  have:=h b al;simp[dH,Ne.symm this]
 |a::s,[],h,_=>by
  have:=h a al;simp[dH,this]
 |a::s,b::w,h,h'=>by
  have ih:=zNd (t:=t) (s:=s) (w:=w) (λx hx=>h x (gq _ hx)) (λx hx=>h' x (gq _ hx));simp only[bO,dH,ih];by_cases e:a=b
  .subst e;simp
  .simp[e]
def zvd{x y:ak}:∀{w:ak},(∀b∈w,b≠32)->JM (w++x) (32::y)=JM x (32::y)
 |[],_=>rfl
 |b::w,h=>by have h1:=h b al;rw[bO,JM,zvd λc hc=>h c (gq _ hc)];simp[dH,Ne.symm h1]
def zox{s:ak}(hs:∀b∈s,b≠32):∀{l:List ak},(∀w∈l,∀b∈w,b≠32)->JM (EZ l) (32::(s++[32]))=decide (s∈l)
 |[],_=>by cases s<;>simp[EZ,JM,dH]
 |w::r,h=>by
  obtain⟨t,ht⟩:=zJ9 r;have hw:=h w al;rw[EZ,JM,zvd hw,zox hs λx hx=>h x (gq _ hx)]
  have:(32::(s++[32])).isPrefixOf (32::(w++EZ r))=decide (s=w):=by rw[ht];simp only[dH,beq_self_eq_true,cb];exact zNd hs hw
  rw[this];by_cases e:s=w
  .simp[e]
  .simp[e]
def zKa{c:UInt8}(h:yO c=bg):c≠32:=by rintro rfl;revert h;decide
def Yx{s:ak}(h:H8 s=bg):s.all yO=bg:=by
 cases s with
 |nil=>cases h
 |cons c r =>simp only[H8,bn]at h;simp only[cv,yO,h.1,Bool.true_or,cb];exact h.2.2
def zve{s:ak}(h:H8 s=bg):s.length<=20/\s≠[]:=by
 cases s with
 |nil=>cases h
 |cons c r =>simp only[H8,bn,aW]at h;exact⟨h.2.1,af⟩
def yl{s:ak}(h:0<=s.length):Qu s=bc (zw s):=by
 unfold Qu zw;rw[zNc h,aC]
 cases hw:H8 s with
 |false=>rfl
 |true =>
  have CG:=(zve hw).1
  have hs:∀b∈s,b≠32:=λb hb=>zKa (bj.1 (Yx hw) b hb)
  have e:=zox hs (l:=MQ) ae;have e2:EZ MQ=zh:=ae;rw[e2]at e;rw[aH,zt (by simp[gU];omega),aC,zt (by simp[gU];omega),aC]
  have:KU zh ((gU++s)++gU)=bc (decide (s∈MQ)):=by unfold KU KJ;rw[zt ae,aC,<- e];rfl
  rw[this];rfl
def rK(c:UInt8):Nat:=c.toNat-48
def V9:ak->Nat->Nat
 |[],n=>n
 |c::r,n=>V9 r (10*n+rK c)
def Ke(n:Nat)(r:ak):Nat:=V9 r n
def Qc(n:Nat)(c:UInt8)(r:ak):Ke n (c::r)=Ke (10*n+rK c) r:=by simp only[Ke,V9]
def Bk(s:ak):Option Nat:=if s.all ye=bg/\s≠[]/\(s.head?=bc 48->s=[48])/\Ke 0 s<=1099511627776 then bc (Ke 0 s)else bh
def Zi(s:ak):Int×Bool:=match Bk s with
 |some v=>((v:Int),bg)
 |none=>(0,bd)
def zEe:∀(r:ak)(n:Nat),n*10 ^ r.length<=Ke n r
 |[],n=>by simp[Ke,V9]
 |c::r,n=>by have:=zEe r (10*n+rK c);rw[Qc];refine cR ?_ this;rw[lc,fC,Nat.mul_comm (10 ^ r.length) 10,<- Nat.mul_assoc];exact Nat.mul_le_mul_right _ ab
def Xf{c:UInt8}(h:ye c=bg):48<=c.toNat/\c.toNat<=57:=by simp only[ye,bn,aW]at h;exact h
def zRd(s:ak)(hl:s.length<=13):∀(r:ak)(i K n:Nat),s.drop i=r->i<=s.length->r.length<K->r.all ye=bg->n<10 ^ i->vH s (s.length:Int) K ((n:Int),(i:Int))=bc ((Ke n r:Nat):Int):=by
 intro r
 induction r with
 |nil =>
  intro i K n hr hi hK hd hn
  obtain⟨K,rfl⟩:∃k,K=k+1:=⟨K-1,ab⟩
  have:=drop_nil hr hi;rw[vH,df (show ¬((i:Int)<(s.length:Int)) by omega)];rfl
 |cons c r ih =>
  intro i K n hr hi hK hd hn
  obtain⟨K,rfl⟩:∃k,K=k+1:=⟨K-1,ab⟩
  obtain⟨h1,h2,h3⟩:=yZ hr;simp only[lc]at hK;simp only[cv,bn]at hd;have hc:=Xf hd.1;have CF:10 ^ i<=10 ^ 12:=fQ ab ab;have alv:(10:Nat) ^ 12=1000000000000:=ae
  have hw:IntKind.u8.wrap (((c.toNat:Nat):Int)-48)=((rK c:Nat):Int):=by unfold IntKind.wrap rK;simp only[IntKind.bits,IntKind.signed];simp;omega
  have hdv:rK c<=9:=by unfold rK;omega
  rw[vH,dt (show((i:Int)<(s.length:Int)) by omega),aH,zW h1,aC,hw];simp only
  rw[yv (n:=10*(n:Int)) ab ab,yv (n:=((rK c:Nat):Int)) ab ab,yv ab ab,yw ab,
   show(10*(n:Int)+((rK c:Nat):Int))=((10*n+rK c:Nat):Int) by omega]
  rw[ih (i+1) K _ h2 ab ab hd.2 (by rw[fC];omega),Qc]
def zKb{s:ak}(h:s.length<4611686018427387904):KT s=bc (Zi s):=by
 unfold KT Zi Bk
 cases s with
 |nil=>rfl
 |cons c r =>
  have e1:decide ((c::r)=([]:ak))=bd:=af
  have e2:decide (((yA ye (c::r):Nat):Int)=(((c::r).length:Nat):Int))=(c::r).all ye:=by rw[eN,decide_eq_true_iff,<- zvc];omega
  rw[e1,cf,zEd h,aC,e2]
  cases hd:(c::r).all ye with
  |false=>simp[hd]
  |true =>
   have e3:decide (((c.toNat:Nat):Int)=48)=decide (c=48):=yI ⟨λh=>aa'.1 (by simpa using(by omega:c.toNat=48)),λh=>by subst h;rfl⟩;rw[bJ,cf,show(0:Int)=((0:Nat):Int) from rfl,zW (x:=c) rfl,aC,e3];by_cases acu:c=48/\r≠[]
   .obtain⟨rfl,hr⟩:=acu;have:decide ((48::r)=Nl)=bd:=df (by simp[Nl,hr]);rw[this];simp[hd,hr]
   .have hv:((c::r).head?=bc 48->(c::r)=[48]):=λe=>by
     simp at e;subst e
     have:r=[]:=Classical.byContradiction λhr=>acu ⟨rfl,hr⟩
     rw[this]
    have e4:(bif decide (c=48)then(bif (!(decide ((c::r)=Nl)))then bc bg else bc (decide ((((c::r).length:Nat):Int)>13)))else bc (decide ((((c::r).length:Nat):Int)>13)))=bc (decide (13<(c::r).length)):=by
     have e5:decide ((((c::r).length:Nat):Int)>13)=decide (13<(c::r).length):=yI ab;rw[e5];by_cases hc:c=48
     .subst hc;have:=hv rfl;rw[this];rfl
     .rw[df hc,cf]
    rw[e4,aC];by_cases CF:13<(c::r).length
    .rw[dt CF,aH];have hc:=Xf (c:=c) (by simp only[cv,bn]at hd;exact hd.1)
     have Iq:c≠48:=λe=>by subst e;rw[hv rfl]at CF;simp at CF
     have hc3:c.toNat≠48:=λe=>Iq (aa'.1 (by simpa using e))
     have hg:1099511627776<Ke 0 (c::r):=by
      rw[Qc];refine eu ?_ (zEe r _);simp only[lc]at CF;have h1:10 ^ 13<=10 ^ r.length:=fQ ab ab
      have h2:1<=10*0+rK c:=by unfold rK;omega
      have h3:=Nat.mul_le_mul h2 h1;have h4:(10:Nat) ^ 13=10000000000000:=ae;omega
     rw[aO (λhh=>ab)]
    .rw[df CF,cf,show((0:Nat):Int)=((0:Nat):Int) from rfl,zRd (c::r) ab (c::r) 0 KK 0 rfl ab (vZ ab) hd ab,aC]
     have e6:decide (((Ke 0 (c::r):Nat):Int)>1099511627776)=!decide (Ke 0 (c::r)<=1099511627776):=by rw[<- decide_not];exact yI ab
     rw[e6];by_cases hg:Ke 0 (c::r)<=1099511627776
     .rw[aP ⟨rfl,af,hv,hg⟩,dt hg];rfl
     .rw[aO (λhh=>hg hh.2.2.2),df hg];rfl
def SG:List ak:=[qp,qq,z8,QT,wQ,uy,Bw,Bu,yX,Bt,Bv,Bs,AI,qO]
def u1(s:ak):Option ak:=SG.find? λx=>x.isPrefixOf s
def pC(s:ak):Except Int (Int×ak×Int):=match s with
 |[]=>.error 13
 |c::_=>if vc c then(if(s.takeWhile yO).length<=20 then .ok (0,s.takeWhile yO,0)else .error 15)
  else if ye c then(match Bk (s.takeWhile ye)with|some v=>.ok (1,s.takeWhile ye,(v:Int))|none=>.error 3)
  else match u1 s with|some t=>.ok (2,t,0)|none=>.error 13
def adE:Except Int (Int×ak×Int)->Int×Int×ak×Int×Int
 |.ok (k,t,n)=>(0,k,t,n,0)
 |.error e=>(e,0,[],0,0)
def U5(f:UInt8->Bool)(s:ak):s.take (yA f s)=s.takeWhile f:=by
 induction s with
 |nil=>rfl
 |cons c s ih =>
  simp only[yA,eh]at ih ⊢
  cases f c with
  |false=>rfl
  |true=>simp only[lc,List.take_succ_cons,ih]
def ju(f:UInt8->Bool)(s:ak):s.drop (yA f s)=s.dropWhile f:=by
 induction s with
 |nil=>rfl
 |cons c s ih =>
  simp only[yA,eh,il]at ih ⊢
  cases f c with
  |false=>rfl
  |true=>simp only[lc,aa2,ih]
def Xg(f:UInt8->Bool)(s:ak):(s.takeWhile f).all f=bg:=by
 induction s with
 |nil=>rfl
 |cons c s ih =>
  simp only[eh]
  cases h:f c with
  |false=>rfl
  |true=>simp[h,ih]
def zEf{c:UInt8}{r:ak}(hc:vc c=bg):H8 ((c::r).takeWhile yO)=decide (((c::r).takeWhile yO).length<=20):=by
 have h:=Xg yO (c::r)
 have ha:yO c=bg:=by rw[yO,hc];rfl
 simp only[eh,ha]at h ⊢;simp only[cv,ha,cb]at h;rw[H8,hc,h];simp
def zX4(s:ak):∀(r:List ak)(i K:Nat),SG.drop i=r->i<=14->r.length<K->kQ s qp qq z8 QT wQ uy Bw Bu yX Bt Bv Bs AI qO 0 ([]:ak) K (i:Int)=bc (match r.find? λx=>x.isPrefixOf s with|some t=>.inl (0,2,t,0,0)|none=>.inr ()):=by
 intro r
 induction r with
 |nil =>
  intro i K hr hi hK
  obtain⟨K,rfl⟩:∃k,K=k+1:=⟨K-1,ab⟩
  have:=drop_nil hr hi;have:i=14:=this;rw[kQ,df ab];rfl
 |cons c r ih =>
  intro i K hr hi hK
  obtain⟨K,rfl⟩:∃k,K=k+1:=⟨K-1,ab⟩
  obtain⟨h1,h2,h3⟩:=yZ hr;have h3:i<14:=h3;simp only[lc]at hK;have hx:idx (α:=ak) ([qp,qq,z8,QT,wQ,uy,Bw,Bu,yX,Bt,Bv,Bs,AI,qO]:List ak) (i:Int)=bc c:=zW h1;rw[kQ,dt ab,aH,hx,aC,show QU s c=bc (c.isPrefixOf s) from rfl,aC,List.find?_cons]
  cases c.isPrefixOf s with
  |true=>rfl
  |false=>rw[cf,yw ab,ih (i+1) K h2 ab ab]
def zKc{c:UInt8}{r:ak}:idx (c::r) 0=bc c:=zW (i:=0) rfl
def zvf{α:Type}{l:List α}{b:Nat}(h:b<=l.length):cut l 0 (b:Int)=bc (l.take b):=Mb (a:=0) (bP _) h
def yJ(c:UInt8)(r:ak):pC (c::r)=(if vc c then(if((c::r).takeWhile yO).length<=20 then .ok (0,(c::r).takeWhile yO,0)else .error 15)
  else if ye c then(match Bk ((c::r).takeWhile ye)with|some v=>.ok (1,(c::r).takeWhile ye,(v:Int))|none=>.error 3)
  else match u1 (c::r)with|some t=>.ok (2,t,0)|none=>.error 13):=rfl
def zX5{s:ak}(h:s.length<4611686018427387904)(h0:s≠[]):Ol s=bc (adE (pC s)):=by
 cases s with
 |nil=>exact aU rfl h0
 |cons c r =>
  unfold Ol;rw[yJ,zKc,aC,OG,aC]
  cases hc:vc c with
  |true =>
   rw[aH,zRa h,aC,zvf (qU _ _),aC,U5];have ht:((c::r).takeWhile yO).length<4611686018427387904:=fq (qU yO _) h;rw[zNc (bP _),aC,zEf hc,aP rfl];by_cases CG:((c::r).takeWhile yO).length<=20
   .rw[dt CG,aP CG];rfl
   .rw[df CG,aO CG];rfl
  |false =>
   rw[cf,aC,X0,aC,aO af]
   cases hd:ye c with
   |true =>
    rw[aH,zEd h,aC,zvf (qU _ _),aC,U5];have ht:((c::r).takeWhile ye).length<4611686018427387904:=fq (qU ye _) h;rw[zKb ht,aC,Zi,aP rfl]
    cases Bk ((c::r).takeWhile ye)with
    |none=>rfl
    |some v=>rfl
   |false =>
    rw[cf,aO af];have:=zX4 (c::r) SG 0 KK rfl ab (vZ ae);rw[show(((0:Nat):Int))=(0:Int) from rfl]at this;rw[this,u1]
    cases SG.find? λx=>x.isPrefixOf (c::r)with
    |none=>rfl
    |some t=>rfl
-- the reference
def DK:ak:=[59,44,58,61,60,43,45,42,47,37,40,41]
def aiQ:∀x∈SG,∃a t,x=a::t/\a∈DK:=by
 intro x hx;simp only[SG,bq,cV,or_false]at hx
 rcases hx with rfl|rfl|rfl|rfl|rfl|rfl|rfl|rfl|rfl|rfl|rfl|rfl|rfl|rfl<;>exact⟨_,_,rfl,ae⟩
def zhj{c:UInt8}{r:ak}(h:c ∉ DK):u1 (c::r)=bh:=by rw[u1,fo];intro x hx hp;obtain⟨a,t,rfl,ha⟩:=aiQ x hx;simp only[dH,bn,beq_iff_eq]at hp;exact h (hp.1▸ha)
def Am{c:UInt8}{r:ak}:u1 (c::r)=if r.head?=bc 61/\(c=60∨c=61)then bc [c,61]else if c∈DK then bc [c]else bh:=by
 by_cases h:c∈DK
 .rw[aP h];simp only[DK,bq,cV,or_false]at h
  cases r with
  |nil=>rcases h with rfl|rfl|rfl|rfl|rfl|rfl|rfl|rfl|rfl|rfl|rfl|rfl<;>rfl
  |cons d r =>
   by_cases hd:d=61
   .subst hd
    rcases h with rfl|rfl|rfl|rfl|rfl|rfl|rfl|rfl|rfl|rfl|rfl|rfl<;>simp[u1,SG,List.find?,dH,qp,qq,z8,QT,wQ,uy,Bw,Bu,yX,Bt,Bv,Bs,AI,qO]
   .have RO:((61:UInt8)==d)=bd:=by simp[Ne.symm hd]
    rcases h with rfl|rfl|rfl|rfl|rfl|rfl|rfl|rfl|rfl|rfl|rfl|rfl<;>simp[u1,SG,List.find?,dH,qp,qq,z8,QT,wQ,uy,Bw,Bu,yX,Bt,Bv,Bs,AI,qO,hd,RO]
 .rw[zhj h,aO (λhh=>h (by rcases hh.2 with rfl|rfl<;>decide)),aO h]
def takeWhile_cons{f:UInt8->Bool}{c:UInt8}{r:ak}(h:f c=bg):(c::r).takeWhile f=c::r.takeWhile f:=by simp[eh,h]
def xq(p:Nat):ar:=ar.mk 3 [] 0 (p:Int)
def Hi:Nat->Nat->ak->Except (Nat×Int) (List ar)
 |0,p,_=>.ok [xq p]
 |n+1,p,s=>match s.dropWhile zy with
  |[]=>.ok [xq (p+yA zy s)]
  |c::r=>match pC (c::r)with
   |.error e=>.error (p+yA zy s,e)
   |.ok (k,t,v)=>match Hi n (p+yA zy s+t.length) ((c::r).drop t.length)with
    |.error e=>.error e
    |.ok l=>.ok (ar.mk k t v ((p+yA zy s:Nat):Int)::l)
def tJ(s:ak):Except (Nat×Int) (List ar):=Hi (s.length+1) 0 s
def adz:Except (Nat×Int) (List ar)->List ar×Int×Int
 |.ok l=>(l,0,0)
 |.error (p,e)=>([],(p:Int),e)
def Yy{s t:ak}{k n:Int}(h:pC s=.ok (k,t,n)):t≠[]/\t=s.take t.length/\t.length<=s.length:=by
 have fin:∀{c:UInt8}{r:ak}{f:UInt8->Bool},f c=bg->(c::r).takeWhile f≠[]/\(c::r).takeWhile f=(c::r).take ((c::r).takeWhile f).length/\((c::r).takeWhile f).length<=(c::r).length:=λ{c r f} hc=>by refine⟨by simp[takeWhile_cons hc],?_,qU f _⟩;exact(U5 f (c::r)).symm
 cases s with
 |nil=>cases h
 |cons c r =>
  rw[yJ]at h;split at h
  .rename_i hc;split at h
   .cases h;exact fin (by rw[yO,hc];rfl)
   .cases h
  .split at h
   .rename_i hd;split at h
    .cases h;exact fin hd
    .cases h
   .split at h
    .rename_i hs;cases h;rw[Am]at hs;split at hs
     .rename_i hh;cases hs
      cases r with
      |nil=>simp at hh
      |cons d r =>
       have:d=61:=by simpa using hh.1
       subst this;exact⟨af,rfl,af⟩
     .split at hs
      .cases hs;exact⟨af,rfl,af⟩
      .cases hs
    .cases h
def zvg{s:ak}{e:Int}(h:pC s=.error e):e≠0:=by
 cases s with
 |nil=>cases h;decide
 |cons c r =>
  rw[yJ]at h;split at h
  .split at h
   .cases h
   .cases h;decide
  .split at h
   .split at h
    .cases h
    .cases h;decide
   .split at h
    .cases h
    .cases h;decide
def zRe(s0:ak)(hs:s0.length<=8000):∀(n i K:Nat)(out:List ar),i<=s0.length->s0.length-i<n->n<=K->out.length<=i->uU s0 K ((i:Int),out)=bc (.inl (match Hi n i (s0.drop i)with|.ok l=>(out++l,0,0)|.error (p,e)=>([],(p:Int),e))):=by
 intro n
 induction n with
 |zero=>intro i K out hi hn;omega
 |succ n ih =>
  intro i K out hi hn hK ho
  obtain⟨K,rfl⟩:∃k,K=k+1:=⟨K-1,ab⟩
  have hl:(s0.drop i).length=s0.length-i:=bU;have CT:=qU zy (s0.drop i)
  have e1:aS ((i:Int)+((yA zy (s0.drop i):Nat):Int))=((i+yA zy (s0.drop i):Nat):Int):=by rw[yv ab ab];rfl
  rw[uU,Hi];simp only;rw[Xe hi,aC,zX3 ab,aC,e1]
  cases hd:(s0.drop i).dropWhile zy with
  |nil =>
   have h1:=ju zy (s0.drop i);rw[hd]at h1;have h2:=drop_nil h1 (qU _ _);rw[dt ab,aH,zt (by simp only[la,lc,bN];omega),aC];rfl
  |cons c r =>
   have h1:=ju zy (s0.drop i);rw[hd,dz]at h1;obtain⟨g1,g2,g3⟩:=yZ h1;rw[df ab,cf,Xe ab,aC,h1,zX5 (by rw[<- h1,bU];omega) af,aC];dsimp only
   cases ht:pC (c::r)with
   |error e =>
    have he:=zvg ht;simp only[adE,he,decide_false,cu,aH]
   |ok x =>
    obtain⟨k,t,v⟩:=x;obtain⟨t1,t2,t3⟩:=Yy ht;have t4:0<t.length:=db.2 t1;have t5:=aQ bf h1;simp only[bU]at t5;change (bif (!(decide ((0:Int)=0)))then bc _ else(ea (bf (out++([(ar.mk k t v (((i+yA zy (s0.drop i):Nat):Int)))]:List ar))*40<=140737488355328)).bind λ_=>uU s0 K (aS (((i+yA zy (s0.drop i):Nat):Int)+((t.length:Nat):Int)),out++([(ar.mk k t v (((i+yA zy (s0.drop i):Nat):Int)))]:List ar)))=_;rw[dt rfl,bJ,cf,zt (by simp only[la,lc,bN];omega),aC]
    have e2:aS (((i+yA zy (s0.drop i):Nat):Int)+((t.length:Nat):Int))=((i+yA zy (s0.drop i)+t.length:Nat):Int):=by rw[yv ab ab];rfl
    rw[e2,ih (i+yA zy (s0.drop i)+t.length) K _ ab ab ab (by simp only[la,lc,bN];omega),<- dz,h1];dsimp only
    cases hx:Hi n (i+yA zy (s0.drop i)+t.length) ((c::r).drop t.length)with
    |error e=>rfl
    |ok l=>simp
def Uu{s:ak}(h:s.length<=8000):Lw s=bc (adz (tJ s)):=by
 unfold Lw;have:=zRe s h (s.length+1) 0 KK [] ab ab (by have:=vZ (n:=s.length) ab;omega) af;rw[show(((0:Nat):Int))=(0:Int) from rfl]at this;rw[df ab,cf,this,List.drop_zero,tJ]
 cases Hi (s.length+1) 0 s with
 |error e=>rfl
 |ok l=>rfl
def zyu{c:UInt8}{r:ak}(hc:zy c=bg)(n p:Nat):Hi (n+1) p (c::r)=Hi (n+1) (p+1) r:=by
 have e1:(c::r).dropWhile zy=r.dropWhile zy:=by simp[il,hc]
 have e2:p+yA zy (c::r)=p+1+yA zy r:=by simp only[yA,takeWhile_cons hc,lc];omega
 rw[Hi,Hi,e1,e2]
def zoy{c:UInt8}{r:ak}(hc:zy c=bd)(n p:Nat):Hi (n+1) p (c::r)=match pC (c::r)with
   |.error e=>.error (p,e)
   |.ok (k,t,v)=>match Hi n (p+t.length) ((c::r).drop t.length)with
    |.error e=>.error e
    |.ok l=>.ok (ar.mk k t v (p:Int)::l):=by
 have e1:(c::r).dropWhile zy=c::r:=by simp[il,hc]
 have e2:yA zy (c::r)=0:=by simp[yA,eh,hc]
 rw[Hi,e1,e2];rfl
def Xh:∀(n p:Nat)(s:ak)(l:List ar),s.length<n->Hi n p s=.ok l->∃b,l=b++[xq (p+s.length)]/\∀t∈b,t.aM≠3/\t.Text.length<=s.length:=by
 intro n
 induction n with
 |zero=>intro p s l hn;omega
 |succ n ih =>
  intro p s l hn h;rw[Hi]at h;have CT:=qU zy s;have ru:=ju zy s;split at h
  .rename_i hd;cases h;rw[hd]at ru;have:=drop_nil ru (qU _ _);exact⟨[],by simp[this],λt ht=>by cases ht⟩
  .rename_i c r hd;rw[hd]at ru;have hl:=aQ bf ru;simp only[bU]at hl;split at h
   .cases h
   .rename_i k t v ht;obtain⟨t1,t2,t3⟩:=Yy ht;have t4:0<t.length:=db.2 t1;split at h
    .cases h
    .rename_i l' R_;cases h;obtain⟨b,rfl,hb⟩:=ih _ _ _ (by rw[bU];omega) R_;rw[bU]at hb ⊢;refine⟨_::b,by rw[bO];congr 4;omega,λx hx=>?_⟩
     rcases bq.1 hx with rfl|hx
     .refine⟨?_,by simp only;omega⟩;rw[yJ]at ht;simp only;split at ht
      .split at ht
       .cases ht;decide
       .cases ht
      .split at ht
       .split at ht
        .cases ht;decide
        .cases ht
       .split at ht
        .cases ht;decide
        .cases ht
     .have:=hb x hx;exact⟨this.1,ab⟩
abbrev EE:=Int×Int
def gm:List ar->Prop
 |[]=>False
 |[t]=>t.aM=3
 |t::u::r=>t.aM≠3/\gm (u::r)
def eP(r:List ar):ar:=r.headD default
def zZ(l r:List ar):Int:=((l.length-r.length:Nat):Int)
structure St(l r:List ar):Prop where
 sL:∃a,l=a++r
 wf:gm r
 len:l.length<=1000000
 txt:∀t∈l,t.Text.length<=8000
section
variable{l r:List ar}
def gm.ne(h:gm r):r≠[]:=by rintro rfl;exact h
def gm.tail(h:gm r)(hk:(eP r).aM≠3):gm r.tail:=by
 match r,h with
 |[t],h=>exact aU h hk
 |t::u::r,h=>exact h.2
def St.idx(h:St l r):idx l (zZ l r)=bc (eP r):=by
 obtain⟨a,rfl⟩:=h.sL;have:=h.wf.ne
 cases r with
 |nil=>exact aU rfl this
 |cons t r =>refine zW ?_;rw[la,Nat.add_sub_cancel,List.getElem?_append_right aq,Nat.sub_self];rfl
def zEg(h:St l r):zZ l r+1=zZ l r.tail:=by
 obtain⟨a,rfl⟩:=h.sL;have:=h.wf.ne
 cases r with
 |nil=>exact aU rfl this
 |cons t r=>simp only[zZ,la,lc,List.tail_cons];omega
def St.iJ(h:St l r):0<=zZ l r/\zZ l r<1000000:=by
 have:=h.len;have h2:=h.wf.ne;obtain⟨a,rfl⟩:=h.sL
 cases r with
 |nil=>exact aU rfl h2
 |cons t r=>simp only[zZ,la,lc]at this ⊢;omega
def St.step(h:St l r):aS (zZ l r+1)=zZ l r.tail:=by have:=h.iJ;rw[yv ab ab,zEg h]
def St.back(h:St l r):aS (aS (zZ l r+1)-1)=zZ l r:=by have:=h.iJ;rw[yv (n:=zZ l r+1) ab ab,yv ab ab];omega
def St.tail(h:St l r)(hk:(eP r).aM≠3):St l r.tail:=by
 refine⟨?_,h.wf.tail hk,h.len,h.txt⟩;obtain⟨a,e⟩:=h.sL;have:=h.wf.ne
 cases r with
 |nil=>exact aU rfl this
 |cons t r=>exact⟨a++[t],by rw[e];simp⟩
def St.lt(h:St l r):r.length<=l.length/\0<r.length:=by obtain⟨a,e⟩:=h.sL;exact⟨by rw[e,la];omega,db.2 h.wf.ne⟩
def Xi(h:gm r):r.tail.length+1=r.length:=by
 cases r with
 |nil=>exact h.elim
 |cons t r=>rfl
end
-- single tokens
def fK(s:ak)(r:List ar):Bool:=(!(decide ((eP r).aM=3)))&&decide ((eP r).Text=s)
def nT(r:List ar):Bool:=decide ((eP r).aM=1)
def pa(r:List ar):Bool:=decide ((eP r).aM=0)&&zw (eP r).Text
def rf(r:List ar)(e:Int):EE:=((eP r).Pos,e)
def aD{α β:Type}(x:Except EE (α×List ar))(g:α->List ar->Except EE β):Except EE β:=match x with
 |.ok (a,r)=>g a r
 |.error e=>.error e
def Vl(b:Bool)(e:Int)(r:List ar):Except EE (Unit×List ar):=if b then .ok ((),r)else .error (rf r e)
def vd(s:ak)(r:List ar):Except EE (Unit×List ar):=if fK s r then .ok ((),r.tail)else .error (rf r 14)
def ja(r:List ar):Except EE (ak×List ar):=if pa r then .ok ((eP r).Text,r.tail)else .error (rf r 14)
def Jz(lo hi:Int)(r:List ar):Except EE (Int×List ar):=if nT r then(if lo<=(eP r).N/\(eP r).N<=hi then .ok ((eP r).N,r.tail)else .error (rf r 3))else .error (rf r 14)
def zo{s:ak}{r:List ar}(h:fK s r=bg):(eP r).aM≠3:=by simp only[fK,bn,Bool.not_eq_true',aX]at h;exact h.1
def Wa{r:List ar}(h:nT r=bg):(eP r).aM≠3:=by have:=aY h;omega
def Wb{r:List ar}(h:pa r=bg):(eP r).aM≠3:=by simp only[pa,bn,aW]at h;omega
def RT{α β:Type}(l:List ar)(x:Except EE (α×List ar))(s:Option β)(p:Option EE)(f:α->Int->β):Prop:=match x with
 |.ok (v,r)=>s=bc (f v (zZ l r))/\p=bh/\St l r
 |.error e=>s=bh/\p=bc e
def RT.bind{α β rm y6:Type}{l:List ar}{x:Except EE (α×List ar)}{s:Option β}{p:Option EE}{f:α->Int->β}{g:α->List ar->Except EE (rm×List ar)}{s2:β->Option y6}{p2:β->Option EE}{f2:rm->Int->y6}
  (h:RT l x s p f) (h2:∀v r,x=.ok (v,r)->St l r->RT l (g v r) (s2 (f v (zZ l r))) (p2 (f v (zZ l r))) f2):RT l (aD x g) (s.bind s2) (er p (λq=>bc q) (s.bind p2)) f2:=by
 match x,h,h2 with
 |.error e,⟨h,h'⟩,_=>exact⟨by rw[h];rfl,by rw[h'];rfl⟩
 |.ok (v,r),⟨h,h',hs⟩,h2 =>
  have:=h2 v r rfl hs;rw[h,h'];exact this
section
variable{l r:List ar}
def Kf(h:St l r):zA l (zZ l r)=bc ((eP r).aM,(eP r).Text,(eP r).N,(eP r).Pos):=by unfold zA;rw[h.idx];rfl
def NJ(h:St l r)(s:ak):Ad l (zZ l r) s=bc (fK s r):=by unfold Ad fK;rw[Kf h,aC];cases decide ((eP r).aM=3)<;>rfl
def Cs(h:St l r)(s:ak):zL l (zZ l r) s=bc (fK s r,if fK s r then zZ l r.tail else zZ l r):=by unfold zL;rw[NJ h,aC,h.step];cases fK s r<;>rfl
def Qd(h:St l r):yM l (zZ l r)=bc (nT r):=by unfold yM nT;rw[Kf h];rfl
def zvh(h:St l r):yL l (zZ l r)=bc (pa r):=by unfold yL pa;rw[Kf h,aC,aC];dsimp only;rw[yl (bP _)];cases decide ((eP r).aM=0)<;>rfl
def LS(h:St l r)(b:Bool)(e:Int):RT l (Vl b e r) (zn l (zZ l r) b e) (zI l (zZ l r) b e) (λ_ _=>()):=by
 unfold zn zI Ae Vl
 cases b with
 |true=>exact⟨rfl,rfl,h⟩
 |false=>rw[Kf h];exact⟨rfl,rfl⟩
def QF(h:St l r)(s:ak):RT l (vd s r) (z6 l (zZ l r) s) (xI l (zZ l r) s) (λ_ i=>i):=by
 unfold z6 xI vd;rw[Cs h,aC,aC];dsimp only
 cases hb:fK s r with
 |true=>exact⟨rfl,rfl,h.tail (zo hb)⟩
 |false =>rw[aO af,aO af];unfold zn zI Ae;rw[Kf h];exact⟨rfl,rfl⟩
def He(h:St l r):RT l (ja r) (zV l (zZ l r)) (xD l (zZ l r)) (λv i=>(v,i)):=by
 unfold zV xD ja;rw[zvh h,aC,aC,h.back,h.step,h.idx]
 cases hb:pa r with
 |true=>exact⟨rfl,rfl,h.tail (Wb hb)⟩
 |false =>unfold zn zI Ae;rw[Kf h];exact⟨rfl,rfl⟩
def OI(h:St l r)(lo hi:Int):RT l (Jz lo hi r) (zr l (zZ l r) lo hi) (zU l (zZ l r) lo hi) (λv i=>(v,i)):=by
 unfold zr zU Jz;rw[Qd h,aC,aC,h.step,Kf h];unfold zn zI Ae;rw[Kf h]
 cases hb:nT r with
 |false=>exact⟨rfl,rfl⟩
 |true =>
  rw[aP rfl];by_cases h1:lo<=(eP r).N
  .by_cases h2:(eP r).N<=hi
   .rw[aP ⟨h1,h2⟩];have e1:decide ((eP r).N>=lo)=bg:=dt h1;have e2:decide ((eP r).N<=hi)=bg:=dt h2;simp only[aC,e1,e2];exact⟨rfl,rfl,h.tail (Wa hb)⟩
   .rw[aO (λhh=>h2 hh.2)];have e1:decide ((eP r).N>=lo)=bg:=dt h1;have e2:decide ((eP r).N<=hi)=bd:=df h2;simp only[aC,e1,e2];exact⟨rfl,rfl⟩
  .rw[aO (λhh=>h1 hh.1)];have e1:decide ((eP r).N>=lo)=bd:=df h1;simp only[aC,e1];exact⟨rfl,rfl⟩
end
-- what a list of tokens and the end are
def zNe:∀{b:List ar}{e:ar},e.aM=3->(∀t∈b,t.aM≠3)->gm (b++[e])
 |[],e,h,_=>h
 |[t],e,h,h2=>⟨h2 t al,h⟩
 |t::u::b,e,h,h2=>⟨h2 t al,zNe (b:=u::b) h λx hx=>h2 x (gq _ hx)⟩
def Xj:∀(n p:Nat)(s:ak)(l:List ar),s.length<n->Hi n p s=.ok l->l.length<=s.length+1:=by
 intro n
 induction n with
 |zero=>intro p s l hn;omega
 |succ n ih =>
  intro p s l hn h;rw[Hi]at h;have CT:=qU zy s;have ru:=ju zy s;split at h
  .cases h;simp
  .rename_i c r hd;rw[hd]at ru;have hl:=aQ bf ru;simp only[bU]at hl;split at h
   .cases h
   .rename_i k t v ht;obtain⟨t1,t2,t3⟩:=Yy ht;have t4:0<t.length:=db.2 t1;split at h
    .cases h
    .rename_i l' R_;cases h;have:=ih _ _ _ (by rw[bU];omega) R_;rw[bU]at this;simp only[lc]at this hl t3 ⊢;omega
def zEh{s:ak}{l:List ar}(hs:s.length<=8000)(h:tJ s=.ok l):St l l/\zZ l l=0:=by
 obtain⟨b,rfl,hb⟩:=Xh _ _ _ _ (cT _) h;have hl:=Xj _ _ _ _ (cT _) h;refine⟨⟨⟨[],rfl⟩,zNe rfl λt ht=>(hb t ht).1,ab,λt ht=>?_⟩,by simp[zZ]⟩
 rcases bw.1 ht with ht|ht
 .have:=(hb t ht).2;omega
 .cases bS.1 ht;simp[xq]
end Go.Proofs.YtmjfiffpolkdeaaGreatDoor
set_option maxRecDepth 100000
namespace Go.Proofs.YtmjfiffpolkdeaaGreatDoor
open Go Go.RowKit Go.iE Go.EV Go.EQ
variable[Fuel]
def nq:List zf:=[(zf.mk Li 14 1),(zf.mk I7 13 2),(zf.mk qq 10 4),(zf.mk Bw 11 4),(zf.mk qp 12 4),(zf.mk Bu 4 5),(zf.mk yX 5 5),(zf.mk Bt 6 6),(zf.mk Bv 7 6),(zf.mk Bs 8 6)]
def ra(r:List ar):Option zf:=if(eP r).aM=3 then bh else nq.find? λo=>decide ((eP r).Text=o.text)
def pE(lv:Nat)(r:List ar):Option Int:=match ra r with
 |some o=>if o.form=(lv:Int)then bc o.op else bh
 |none=>bh
def QG(op:Int)(a b:Expr):Expr:=Expr.mk op 0 [] [] [a,b]
def sK{α:Type}:Except EE α:=.error (0,-1)
mutual
def DE(lv:Nat)(r:List ar):Except EE (Expr×List ar):=
 if lv>=8 then
  if nT r then aD (Jz 0 1099511627776 r) λn r=>.ok (Expr.mk 0 n [] [] [],r)
  else if fK yG r then aD (ja r.tail) λs r=>aD (ja r) λk r=>.ok (Expr.mk 2 0 s k [],r)
  else if fK zR r then aD (ja r.tail) λs r=>.ok (Expr.mk 3 0 s [] [],r)
  else if fK AI r then(if h:r.tail.length<r.length then aD (DE 0 r.tail) λe r=>aD (vd qO r) λ_ r=>.ok (e,r)else sK)
  else aD (ja r) λs r=>.ok (Expr.mk 1 0 s [] [],r)
 else if lv=0/\fK Vk r=bg then
  if h:r.tail.length<r.length then aD (DE 0 r.tail) λa r1=>aD (vd uc r1) λ_ r2 =>
   if h2:r2.length<r.length then aD (DE 0 r2) λb r3=>aD (vd je r3) λ_ r4 =>
    if h4:r4.length<r.length then aD (DE 0 r4) λc r5=>.ok (Expr.mk 16 0 [] [] [a,b,c],r5)else sK
   else sK
  else sK
 else if lv=3/\fK qE r=bg then
  if h:r.tail.length<r.length then aD (DE 3 r.tail) λa r1=>.ok (Expr.mk 15 0 [] [] [a],r1)else sK
 else if lv=7/\fK yX r=bg then
  if h:r.tail.length<r.length then aD (DE 7 r.tail) λa r1=>.ok (Expr.mk 9 0 [] [] [a],r1)else sK
 else aD (DE (lv+1) r) λe r1=>if h:r1.length<r.length then LP lv e r1 else sK
termination_by (r.length,9-lv)
def LP(lv:Nat)(e:Expr)(r:List ar):Except EE (Expr×List ar):=match pE lv r with
 |none=>.ok (e,r)
 |some op=>if h:r.tail.length<r.length then aD (DE (lv+1) r.tail) λe2 r2 =>
   if h2:r2.length<r.length then(if lv=4 then .ok (QG op e e2,r2)else LP lv (QG op e e2) r2)else sK
  else sK
termination_by (r.length,9-lv)
end
structure sx(r r2:List ar):Prop where
 sL:∃a,r=a++r2
 wf:gm r2
 lt:r2.length<r.length
structure pe(r r2:List ar):Prop where
 sL:∃a,r=a++r2
 wf:gm r2
 le:r2.length<=r.length
def sx.e{r r2:List ar}(h:sx r r2):pe r r2:=⟨h.sL,h.wf,aa9 h.lt⟩
def pe.refl{r:List ar}(h:gm r):pe r r:=⟨⟨[],rfl⟩,h,aq⟩
def U6{r r2 r3:List ar}(h:∃a,r=a++r2)(k:∃a,r2=a++r3):∃a,r=a++r3:=by obtain⟨a,rfl⟩:=h;obtain⟨b,rfl⟩:=k;exact⟨a++b,af⟩
def sx.trans{r r2 r3:List ar}(h:sx r r2)(k:pe r2 r3):sx r r3:=⟨U6 h.sL k.sL,k.wf,fq k.le h.lt⟩
def pe.trans{r r2 r3:List ar}(h:pe r r2)(k:pe r2 r3):pe r r3:=⟨U6 h.sL k.sL,k.wf,cR k.le h.le⟩
def zE{r:List ar}(h:gm r)(hk:(eP r).aM≠3):sx r r.tail:=by
 refine⟨?_,h.tail hk,by have:=Xi h;omega⟩
 cases r with
 |nil=>exact h.elim
 |cons t r=>exact⟨[t],rfl⟩
def Va{r:List ar}(h:gm r):r.tail.length<r.length:=by have:=Xi h;omega
def St.aft{l r r2:List ar}(h:St l r)(k:pe r r2):St l r2:=⟨U6 h.sL k.sL,k.wf,h.len,h.txt⟩
def ku{r r2:List ar}{s:ak}(h:gm r)(e:ja r=.ok (s,r2)):sx r r2:=by
 unfold ja at e;split at e
 .rename_i hk;cases e;exact zE h (Wb hk)
 .cases e
def OJ{r r2:List ar}{lo hi n:Int}(h:gm r)(e:Jz lo hi r=.ok (n,r2)):sx r r2:=by
 unfold Jz at e;split at e
 .rename_i hk;split at e
  .cases e;exact zE h (Wa hk)
  .cases e
 .cases e
def wT{r r2:List ar}{s:ak}{u:Unit}(h:gm r)(e:vd s r=.ok (u,r2)):sx r r2:=by
 unfold vd at e;split at e
 .rename_i hk;cases e;exact zE h (zo hk)
 .cases e
def yf{α β:Type}{x:Except EE (α×List ar)}{g:α->List ar->Except EE β}{b:β}(h:aD x g=.ok b):∃a r,x=.ok (a,r)/\g a r=.ok b:=by
 match x,h with
 |.ok (a,r),h=>exact⟨a,r,rfl,h⟩
def xC{α β:Type}{x:Except EE (α×List ar)}{g g':α->List ar->Except EE β}(h:∀a r,x=.ok (a,r)->g a r=g' a r):aD x g=aD x g':=by
 match x,h with
 |.ok (a,r),h=>exact h a r rfl
 |.error e,_=>rfl
def yg{α β mC:Type}{x:Except EE (α×List ar)}{g:α->List ar->Except EE (β×List ar)}{k:β->List ar->Except EE mC}:aD (aD x g) k=aD x λa r=>aD (g a r) k:=by
 match x with
 |.ok (a,r)=>rfl
 |.error e=>rfl
def L_{α:Type}{x:Except EE (α×List ar)}:(aD x λa r=>.ok (a,r))=x:=by
 match x with
 |.ok (a,r)=>rfl
 |.error e=>rfl
def kv{r:List ar}{o:zf}(h:ra r=bc o):(eP r).aM≠3/\o∈nq/\(eP r).Text=o.text:=by
 unfold ra at h;split at h
 .cases h
 .rename_i hk;exact⟨hk,List.mem_of_find?_eq_some h,by simpa using List.find?_some h⟩
def Kg{r:List ar}{lv:Nat}{op:Int}(h:pE lv r=bc op):∃o,ra r=bc o/\o.form=(lv:Int)/\o.op=op:=by
 unfold pE at h;split at h
 .rename_i o ho;split at h
  .rename_i hf;cases h;exact⟨o,ho,hf,rfl⟩
  .cases h
 .cases h
def zEi:∀(n:Nat),(∀(lv:Nat)(r:List ar),r.length<n->gm r->∀e r2,DE lv r=.ok (e,r2)->sx r r2)/\(∀(lv:Nat)(e:Expr)(r:List ar),r.length<n->gm r->∀e2 r2,LP lv e r=.ok (e2,r2)->pe r r2):=by
 intro n
 induction n with
 |zero=>exact⟨λ_ _ h=>ab,λ_ _ _ h=>ab⟩
 |succ n ih =>
  have zq:∀(lv:Nat)(e:Expr)(r:List ar),r.length<n+1->gm r->∀e2 r2,LP lv e r=.ok (e2,r2)->pe r r2:=by
   intro lv e r hn hr e2 r2 h;rw[LP]at h;split at h
   .cases h;exact pe.refl hr
   .rename_i op iS;obtain⟨o,ho,_⟩:=Kg iS;have ht:=zE hr (kv ho).1;rw[dif_pos ht.lt]at h;obtain⟨a,r1,h1,h2⟩:=yf h;have:=ht.lt;have ha:=ih.1 _ _ ab ht.wf _ _ h1;split at h2
    .split at h2
     .cases h2;exact(ht.trans ha.e).e
     .exact(ht.trans ha.e).e.trans (ih.2 _ _ _ (by have:=ha.lt;omega) ha.wf _ _ h2)
    .cases h2
  refine⟨λlv=>?_,zq⟩
  -- by level, downwards
  have key:∀(k lv:Nat),8-lv=k->∀(r:List ar),r.length<n+1->gm r->∀e r2,DE lv r=.ok (e,r2)->sx r r2:=by
   intro k
   induction k with
   |zero =>
    intro lv hk r hn hr e r2 h;rw[DE,aP ab]at h;split at h
    .obtain⟨a,r1,h1,h2⟩:=yf h;cases h2;exact OJ hr h1
    .split at h
     .rename_i hb;have ht:=zE hr (zo hb);obtain⟨a,r1,h1,h2⟩:=yf h;obtain⟨b,r3,h3,h4⟩:=yf h2;cases h4;have q1:=ku ht.wf h1;exact ht.trans (q1.trans (ku q1.wf h3).e).e
     .split at h
      .rename_i hb;have ht:=zE hr (zo hb);obtain⟨a,r1,h1,h2⟩:=yf h;cases h2;exact ht.trans (ku ht.wf h1).e
      .split at h
       .rename_i hb;have ht:=zE hr (zo hb);rw[dif_pos ht.lt]at h;obtain⟨a,r1,h1,h2⟩:=yf h;obtain⟨b,r3,h3,h4⟩:=yf h2;cases h4;have q1:=ih.1 _ _ (by have:=ht.lt;omega) ht.wf _ _ h1;exact ht.trans (q1.trans (wT q1.wf h3).e).e
       .obtain⟨a,r1,h1,h2⟩:=yf h;cases h2;exact ku hr h1
   |succ k II =>
    intro lv hk r hn hr e r2 h;rw[DE,aO ab]at h;split at h
    .rename_i hb;have ht:=zE hr (zo hb.2);rw[dif_pos ht.lt]at h;obtain⟨a,r1,h1,h⟩:=yf h;obtain⟨_,r3,h3,h⟩:=yf h;have q1:=ht.trans (ih.1 _ _ (by have:=ht.lt;omega) ht.wf _ _ h1).e;have q2:=q1.trans (wT q1.wf h3).e;rw[dif_pos q2.lt]at h;obtain⟨b,r4,h4,h⟩:=yf h;obtain⟨_,r5,h5,h⟩:=yf h;have q3:=q2.trans (ih.1 _ _ (by have:=q2.lt;omega) q2.wf _ _ h4).e;have q4:=q3.trans (wT q3.wf h5).e;rw[dif_pos q4.lt]at h;obtain⟨c,r6,h6,h⟩:=yf h;cases h;exact q4.trans (ih.1 _ _ (by have:=q4.lt;omega) q4.wf _ _ h6).e
    .split at h
     .rename_i hb;have ht:=zE hr (zo hb.2);rw[dif_pos ht.lt]at h;obtain⟨a,r1,h1,h⟩:=yf h;cases h;exact ht.trans (ih.1 _ _ (by have:=ht.lt;omega) ht.wf _ _ h1).e
     .split at h
      .rename_i hb;have ht:=zE hr (zo hb.2);rw[dif_pos ht.lt]at h;obtain⟨a,r1,h1,h⟩:=yf h;cases h;exact ht.trans (ih.1 _ _ (by have:=ht.lt;omega) ht.wf _ _ h1).e
      .obtain⟨a,r1,h1,h⟩:=yf h;have q1:=II (lv+1) ab r hn hr _ _ h1;rw[dif_pos q1.lt]at h;exact q1.trans (zq _ _ _ (by have:=q1.lt;omega) q1.wf _ _ h)
  exact key _ lv rfl
def wU{lv:Nat}{r r2:List ar}{e:Expr}(hr:gm r)(h:DE lv r=.ok (e,r2)):sx r r2:=(zEi (r.length+1)).1 lv r (cT _) hr e r2 h
def Wc(r:List ar):Except EE (Expr×List ar):=
 if nT r then aD (Jz 0 1099511627776 r) λn r=>.ok (Expr.mk 0 n [] [] [],r)
 else if fK yG r then aD (ja r.tail) λs r=>aD (ja r) λk r=>.ok (Expr.mk 2 0 s k [],r)
 else if fK zR r then aD (ja r.tail) λs r=>.ok (Expr.mk 3 0 s [] [],r)
 else if fK AI r then aD (DE 0 r.tail) λe r=>aD (vd qO r) λ_ r=>.ok (e,r)
 else aD (ja r) λs r=>.ok (Expr.mk 1 0 s [] [],r)
def B8(r:List ar):Except EE (Expr×List ar):=aD (DE 0 r.tail) λa r1=>aD (vd uc r1) λ_ r2=>aD (DE 0 r2) λb r3=>aD (vd je r3) λ_ r4=>aD (DE 0 r4) λc r5=>.ok (Expr.mk 16 0 [] [] [a,b,c],r5)
def Bl{r:List ar}(hr:gm r):DE 8 r=Wc r:=by rw[DE,aP (du 8),Wc];simp only[dif_pos (Va hr)]
def BC{lv:Nat}{r:List ar}(hl:lv<8)(hr:gm r):DE lv r=if lv=0/\fK Vk r=bg then B8 r else if lv=3/\fK qE r=bg then aD (DE 3 r.tail) λa r1=>.ok (Expr.mk 15 0 [] [] [a],r1)
  else if lv=7/\fK yX r=bg then aD (DE 7 r.tail) λa r1=>.ok (Expr.mk 9 0 [] [] [a],r1)else aD (DE (lv+1) r) λe r1=>LP lv e r1:=by
 rw[DE,aO ab];simp only[dif_pos (Va hr)];by_cases hi:lv=0/\fK Vk r=bg
 .rw[aP hi,aP hi,B8];have ht:=zE hr (zo hi.2)
  refine xC λa r1 h1=>xC λu r2 h2=>?_
  have q1:=ht.trans (wU ht.wf h1).e;have q2:=q1.trans (wT q1.wf h2).e;rw[dif_pos q2.lt]
  refine xC λb r3 h3=>xC λu r4 h4=>?_
  have q3:=q2.trans (wU q2.wf h3).e;have q4:=q3.trans (wT q3.wf h4).e;rw[dif_pos q4.lt]
 .rw[aO hi,aO hi];split
  .rfl
  .split
   .rfl
   .refine xC λe r1 h1=>?_
    rw[dif_pos (wU hr h1).lt]
def J4{lv:Nat}{e:Expr}{r:List ar}(hr:gm r):LP lv e r=match pE lv r with
 |none=>.ok (e,r)
 |some op=>aD (DE (lv+1) r.tail) λe2 r2=>if lv=4 then .ok (QG op e e2,r2)else LP lv (QG op e e2) r2:=by
 rw[LP];split
 .rfl
 .rename_i op iS;obtain⟨o,ho,_⟩:=Kg iS;have ht:=zE hr (kv ho).1;rw[dif_pos ht.lt]
  refine xC λe2 r2 h2=>?_
  rw[dif_pos (ht.trans (wU ht.wf h2).e).lt]
def PX(lv:Nat)(r:List ar):Except EE ((Nat×Expr)×List ar):=
 if lv<=0/\fK Vk r=bg then aD (B8 r) λe r=>.ok ((0,e),r)
 else if lv<=3/\fK qE r=bg then aD (DE 3 r.tail) λa r1=>.ok ((3,Expr.mk 15 0 [] [] [a]),r1)
 else if lv<=7/\fK yX r=bg then aD (DE 7 r.tail) λa r1=>.ok ((7,Expr.mk 9 0 [] [] [a]),r1)
 else aD (Wc r) λe r=>.ok ((8,e),r)
def KL(lv:Nat):Nat->Expr->List ar->Except EE (Expr×List ar)
 |0,e,r=>.ok (e,r)
 |k+1,e,r=>aD (LP (lv+k) e r) λe r=>KL lv k e r
def zEk(lv:Nat):∀(k:Nat)(e:Expr)(r:List ar),KL lv (k+1) e r=aD (KL (lv+1) k e r) λe r=>LP lv e r
 |0,e,r=>by simp only[KL,dM,L_];rfl
 |k+1,e,r=>by
  rw[KL,KL,yg,show lv+(k+1)=lv+1+k by omega]
  exact xC λa r1 _=>zEk lv k a r1
def Wd{o:zf}(h:o∈nq):∃f:Nat,o.form=(f:Int)/\(f=1∨f=2∨f=4∨f=5∨f=6)/\o.text≠[]:=by
 simp only[nq,bq,cV,or_false]at h
 rcases h with rfl|rfl|rfl|rfl|rfl|rfl|rfl|rfl|rfl|rfl
 .exact⟨1,rfl,ab,ae⟩
 .exact⟨2,rfl,ab,ae⟩
 .exact⟨4,rfl,ab,ae⟩
 .exact⟨4,rfl,ab,ae⟩
 .exact⟨4,rfl,ab,ae⟩
 .exact⟨5,rfl,ab,ae⟩
 .exact⟨5,rfl,ab,ae⟩
 .exact⟨6,rfl,ab,ae⟩
 .exact⟨6,rfl,ab,ae⟩
 .exact⟨6,rfl,ab,ae⟩
def zo1{lv:Nat}{r:List ar}(h:lv=0∨lv=3∨lv>=7):pE lv r=bh:=by
 cases ho:pE lv r with
 |none=>rfl
 |some op =>obtain⟨o,h1,h2,_⟩:=Kg ho;obtain⟨f,h3,h4,_⟩:=Wd (kv h1).2.1;omega
def Yz{lv:Nat}{e:Expr}{r:List ar}(hr:gm r)(h:pE lv r=bh):LP lv e r=.ok (e,r):=by rw[J4 hr,h]
def zRg{lv:Nat}{r:List ar}(hl:lv<8)(h0:¬(lv=0/\fK Vk r=bg))(h3:¬(lv=3/\fK qE r=bg))(h7:¬(lv=7/\fK yX r=bg)):PX lv r=PX (lv+1) r:=by
 unfold PX
 have e0:(lv<=0/\fK Vk r=bg)=False:=by simp only[eq_iff_iff,iff_false];intro hh;exact h0 ⟨ab,hh.2⟩
 have agr:(lv+1<=0/\fK Vk r=bg)=False:=by simp only[eq_iff_iff,iff_false];intro hh;omega
 have e3:(lv<=3/\fK qE r=bg)=(lv+1<=3/\fK qE r=bg):=by
  rw[eq_iff_iff];constructor
  .intro hh;refine⟨?_,hh.2⟩
   have:lv≠3:=λe=>h3 ⟨e,hh.2⟩
   omega
  .intro hh;exact⟨ab,hh.2⟩
 have e7:(lv<=7/\fK yX r=bg)=(lv+1<=7/\fK yX r=bg):=by
  rw[eq_iff_iff];constructor
  .intro hh;refine⟨?_,hh.2⟩
   have:lv≠7:=λe=>h7 ⟨e,hh.2⟩
   omega
  .intro hh;exact⟨ab,hh.2⟩
 simp only[e0,agr,e3,e7]
def zNf{lv:Nat}{r:List ar}{o:Nat}{e:Expr}{r1:List ar}(hl:lv<=8)(h:PX lv r=.ok ((o,e),r1)):lv<=o/\(o=0∨o=3∨o=7∨o=8):=by
 unfold PX at h;split at h
 .obtain⟨a,r2,h1,h2⟩:=yf h;cases h2;rename_i hh;omega
 .split at h
  .obtain⟨a,r2,h1,h2⟩:=yf h;cases h2;rename_i hh;omega
  .split at h
   .obtain⟨a,r2,h1,h2⟩:=yf h;cases h2;rename_i hh;omega
   .obtain⟨a,r2,h1,h2⟩:=yf h;cases h2;omega
def zEl{r r2:List ar}{e:Expr}(hr:gm r)(hk:fK Vk r=bg)(h:B8 r=.ok (e,r2)):sx r r2:=by have:=BC (lv:=0) ab hr;rw[aP ⟨rfl,hk⟩,h]at this;exact wU hr this
def TJ{lv:Nat}{r r2:List ar}{x:Nat×Expr}(hr:gm r)(h:PX lv r=.ok (x,r2)):sx r r2:=by
 unfold PX at h;split at h
 .rename_i hb;obtain⟨a,r1,h1,h2⟩:=yf h;cases h2;exact zEl hr hb.2 h1
 .split at h
  .rename_i hb;obtain⟨a,r1,h1,h2⟩:=yf h;cases h2;have ht:=zE hr (zo hb.2);exact ht.trans (wU ht.wf h1).e
  .split at h
   .rename_i hb;obtain⟨a,r1,h1,h2⟩:=yf h;cases h2;have ht:=zE hr (zo hb.2);exact ht.trans (wU ht.wf h1).e
   .obtain⟨a,r1,h1,h2⟩:=yf h;cases h2;rw[<- Bl hr]at h1;exact wU hr h1
def aiG:∀(k lv:Nat),8-lv=k->lv<=8->∀(r:List ar),gm r->DE lv r=aD (PX lv r) λx r1=>KL lv (x.1+1-lv) x.2 r1:=by
 intro k
 induction k with
 |zero =>
  intro lv hk hl r hr;obtain rfl:lv=8:=ab;rw[Bl hr,PX,aO ab,aO ab,aO ab,yg]
  conv=>lhs;rw[<- L_ (x:=Wc r)]
  refine xC λe r1 h1=>?_
  show _=KL 8 1 e r1
  rw[<- Bl hr]at h1;rw[KL,Yz (wU hr h1).wf (zo1 ab)];rfl
 |succ k ih =>
  intro lv hk hl r hr;rw[BC ab hr]
  have one:∀(e:Expr)(r1:List ar),(lv=0∨lv=3∨lv=7)->gm r1->KL lv (lv+1-lv) e r1=.ok (e,r1):=λe r1 h h1=>by rw[show lv+1-lv=1 by omega,KL,dM,Yz h1 (zo1 ab)];rfl
  by_cases h0:lv=0/\fK Vk r=bg
  .rw[aP h0,PX,aP ⟨ab,h0.2⟩,yg]
   conv=>lhs;rw[<- L_ (x:=B8 r)]
   refine xC λe r1 h1=>?_
   have:=one e r1 ab (zEl hr h0.2 h1).wf;rw[h0.1]at this ⊢;exact this.symm
  .rw[aO h0];by_cases h3:lv=3/\fK qE r=bg
   .rw[aP h3,PX,aO ab,aP ⟨ab,h3.2⟩,yg]
    refine xC λa r1 h1=>?_
    have ht:=zE hr (zo h3.2);have:=one (Expr.mk 15 0 [] [] [a]) r1 ab (wU ht.wf h1).wf;rw[h3.1]at this ⊢;exact this.symm
   .rw[aO h3];by_cases h7:lv=7/\fK yX r=bg
    .rw[aP h7,PX,aO ab,aO ab,aP ⟨ab,h7.2⟩,yg]
     refine xC λa r1 h1=>?_
     have ht:=zE hr (zo h7.2);have:=one (Expr.mk 9 0 [] [] [a]) r1 ab (wU ht.wf h1).wf;rw[h7.1]at this ⊢;exact this.symm
    .rw[aO h7,ih (lv+1) ab ab r hr,zRg ab h0 h3 h7,yg]
     refine xC λx r1 h1=>?_
     have:=(zNf ab h1).1;rw[show x.1+1-lv=(x.1+1-(lv+1))+1 by omega,zEk]
def CL(lv own:Nat)(e:Expr)(r:List ar):Except EE (Expr×List ar):=match ra r with
 |none=>.ok (e,r)
 |some o=>if o.form<(lv:Int)∨(own:Int)<o.form∨(own=4/\o.form=4)then .ok (e,r)else
  if h:r.tail.length<r.length then aD (DE (o.form.toNat+1) r.tail) λe2 r2=>if h2:r2.length<r.length then CL lv o.form.toNat (QG o.op e e2) r2 else sK else sK
termination_by r.length
def X1{lv:Nat}{e:Expr}{r:List ar}(hr:gm r):∀(k:Nat),(∀j,lv<=j->j<lv+k->pE j r=bh)->KL lv k e r=.ok (e,r)
 |0,_=>rfl
 |k+1,h=>by
  rw[KL,Yz hr (h (lv+k) ab ab)]
  exact X1 hr k λj h1 h2=>h j h1 ab
def zvi{lv:Nat}{e:Expr}{r:List ar}(hr:gm r):∀(k j:Nat),(∀i,lv+j<=i->i<lv+j+k->pE i r=bh)->KL lv (j+k) e r=KL lv j e r
 |0,j,_=>rfl
 |k+1,j,h=>by
  rw[show j+(k+1)=(j+k)+1 by omega,KL,Yz hr (h (lv+(j+k)) ab ab)]
  exact zvi hr k j λi h1 h2=>h i h1 ab
def aiF(lv:Nat):∀(n:Nat)(r:List ar)(own:Nat)(e:Expr),r.length<n->gm r->KL lv ((if own=4 then 3 else own)+1-lv) e r=CL lv own e r:=by
 intro n
 induction n with
 |zero=>intro r own e h;omega
 |succ n ih =>
  intro r own e hn hr;rw[CL]
  cases ho:ra r with
  |none=>exact X1 hr _ λj _ _=>by rw[pE,ho]
  |some o =>
   dsimp only;obtain⟨hk,gV,_⟩:=kv ho;obtain⟨f,hf,tw,_⟩:=Wd gV
   have FC:∀j,j≠f->pE j r=bh:=λj hj=>by rw[pE,ho];dsimp only;rw[aO (by rw[hf];omega)]
   have ahJ:pE f r=bc o.op:=by rw[pE,ho];dsimp only;rw[aP hf]
   rw[hf];by_cases hc:(f:Int)<(lv:Int)∨(own:Int)<(f:Int)∨(own=4/\(f:Int)=4)
   .rw[aP hc]
    refine X1 hr _ λj h1 h2=>FC j ?_
    rcases hc with hc|hc|hc
    .omega
    .split at h2<;>omega
    .rw[aP hc.1]at h2;omega
   .rw[aO hc];have ht:=zE hr hk;rw[dif_pos ht.lt,dD]
    have hle:lv<=f/\f<=(if own=4 then 3 else own):=by
     refine⟨ab,?_⟩;split
     .rename_i h4;subst h4;omega
     .omega
    rw[show(if own=4 then 3 else own)+1-lv=(f-lv+1)+((if own=4 then 3 else own)-f) by omega,zvi hr _ _ (λi h1 h2=>FC i ab),KL,show lv+(f-lv)=f by omega,J4 hr,ahJ,yg]
    refine xC λe2 r2 h2=>?_
    have hq:=ht.trans (wU ht.wf h2).e;rw[dif_pos hq.lt,<- ih r2 f (QG o.op e e2) (by have:=hq.lt;omega) hq.wf];by_cases h4:f=4
    .subst h4;rw[aP rfl,aP rfl]
     show KL lv (4-lv) _ r2=_
     rw[show 4-lv=3+1-lv by omega]
    .rw[aO h4,aO h4,show f+1-lv=(f-lv)+1 by omega,KL,show lv+(f-lv)=f by omega]
def zX6{lv own:Nat}{e:Expr}{r:List ar}(hr:gm r):CL lv own e r=match ra r with
 |none=>.ok (e,r)
 |some o=>if o.form<(lv:Int)∨(own:Int)<o.form∨(own=4/\o.form=4)then .ok (e,r)else aD (DE (o.form.toNat+1) r.tail) λe2 r2=>CL lv o.form.toNat (QG o.op e e2) r2:=by
 rw[CL];split
 .rfl
 .rename_i o ho;have ht:=zE hr (kv ho).1;rw[dif_pos ht.lt];split
  .rfl
  .refine xC λe2 r2 h2=>?_
   rw[dif_pos (ht.trans (wU ht.wf h2).e).lt]
def zX7{lv:Nat}{r:List ar}(hl:lv<=8)(hr:gm r):DE lv r=aD (PX lv r) λx r1=>CL lv x.1 x.2 r1:=by
 rw[aiG _ lv rfl hl r hr]
 refine xC λx r1 h1=>?_
 have ho:=(zNf (o:=x.1) (e:=x.2) hl h1).2;have:=aiF lv (r1.length+1) r1 x.1 x.2 (cT _) (TJ hr h1).wf;rw[aO ab]at this;exact this
def SR{α β:Type}(l:List ar)(x:Except EE (α×List ar))(s:Option β)(f:α->Int->β):Prop:=match x with
 |.ok (v,r)=>s=bc (f v (zZ l r))/\St l r
 |.error _=>s=bh
def RT.sr{α β:Type}{l:List ar}{x:Except EE (α×List ar)}{s:Option β}{p:Option EE}{f:α->Int->β}(h:RT l x s p f):SR l x s f:=by
 match x,h with
 |.ok (v,r),h=>exact⟨h.1,h.2.2⟩
 |.error e,h=>exact h.1
def SR.bind{α β rm y6:Type}{l:List ar}{x:Except EE (α×List ar)}{s:Option β}{f:α->Int->β}{g:α->List ar->Except EE (rm×List ar)}{s2:β->Option y6}{f2:rm->Int->y6}
  (h:SR l x s f) (h2:∀v r,x=.ok (v,r)->St l r->SR l (g v r) (s2 (f v (zZ l r))) f2):SR l (aD x g) (s.bind s2) f2:=by
 match x,h,h2 with
 |.error e,h,_=>show _=bh;rw[show s=bh from h];rfl
 |.ok (v,r),⟨h,hs⟩,h2 =>
  have:=h2 v r rfl hs;rw[h];exact this
def Fh{α β mC G4:Type}(l:List ar)(x:Except EE (α×List ar))(s:Option (β⊕mC))(p:Option (EE⊕G4))(f:α->Int->β):Prop:=match x with
 |.ok (v,r)=>s=bc (.inl (f v (zZ l r)))/\p=bh/\St l r
 |.error e=>s=bh/\p=bc (.inl e)
def fE(e:Expr)(i:Int):Int×Int×Int×ak×ak×List Expr:=(i,e.Op,e.N,e.S,e.Key,e.aZ)
def fP(x:Nat×Expr)(i:Int):Int×Int×Int×Int×ak×ak×List Expr:=((x.1:Int),i,x.2.Op,x.2.N,x.2.S,x.2.Key,x.2.aZ)
section
variable{l r:List ar}
def YA(h:St l r)(t:ak)(lv m:Nat):((bif (decide ((lv:Int)<=(m:Int)))then(zL l (zZ l r) t).bind λx2=>bc (x2.2,x2.1)else bc (zZ l r,bd)))=bc (if lv<=m/\fK t r=bg then(zZ l r.tail,bg)else(zZ l r,bd)):=by
 rw[Cs h];have e:decide ((lv:Int)<=(m:Int))=decide (lv<=m):=yI ab;rw[e];by_cases hm:lv<=m
 .cases hb:fK t r<;>simp[hm]
 .simp[hm]
def zX8{K:Nat}(h:St l r)(nP:∀(lv:Nat)(r':List ar),lv<=8->r'.length<r.length->St l r'->SR l (DE lv r') (zS K l (zZ l r') (lv:Int)) fE):
  SR l (aD (Wc r) λe r=>.ok ((8,e),r)) (aN (yM l (zZ l r)) λlP=>(bif lP then(zr l (zZ l r) 0 1099511627776).bind λlx=>bc (8,lx.2,0,lx.1,([]:ak),([]:ak),[])else(zL l (zZ l r) yG).bind λlY=>(bif lY.1 then(zV l lY.2).bind λl9=>aN (zV l l9.2) λmK=>bc (8,mK.2,2,0,l9.1,mK.1,[])else(zL l lY.2 zR).bind λi_=>(bif i_.1 then(zV l i_.2).bind λnF=>bc (8,nF.2,3,0,nF.1,([]:ak),[])else(zL l i_.2 AI).bind λmY=>(bif mY.1 then(zS K l mY.2 0).bind λmy=>aN (z6 l my.1 qO) λpM=>bc (8,pM,my.2.1,my.2.2.1,my.2.2.2.1,my.2.2.2.2.1,my.2.2.2.2.2)else(zV l mY.2).bind λmZ=>bc (8,mZ.2,1,0,mZ.1,([]:ak),[])))))) fP:=by
 unfold Wc;rw[Qd h,aC]
 cases hn:nT r with
 |true =>
  rw[aP rfl,aH,yg]
  exact(OI h 0 1099511627776).sr.bind λv r1 _ hs=>⟨rfl,hs⟩
 |false =>
  rw[aO af,cf,Cs h,aC]
  cases hb:fK yG r with
  |true =>
   have ht:=h.tail (zo hb);simp only[if_true,aH,yg]
   exact(He ht).sr.bind λv r1 _ hs=>(He hs).sr.bind λv2 r2 _ lu=>⟨rfl,lu⟩
  |false =>
   simp only[aO (show ¬(bd=bg) by simp),cf];rw[Cs h,aC]
   cases hz:fK zR r with
   |true =>
    have ht:=h.tail (zo hz);simp only[if_true,aH,yg]
    exact(He ht).sr.bind λv r1 _ hs=>⟨rfl,hs⟩
   |false =>
    simp only[aO (show ¬(bd=bg) by simp),cf];rw[Cs h,aC]
    cases hp:fK AI r with
    |true =>
     have ht:=h.tail (zo hp);simp only[if_true,aH,yg]
     exact(nP 0 r.tail ab (Va h.wf) ht).bind λv r1 _ hs=>(QF hs _).sr.bind λ_ r2 _ lu=>⟨rfl,lu⟩
    |false =>
     simp only[aO (show ¬(bd=bg) by simp),cf,yg]
     exact(He h).sr.bind λv r1 _ hs=>⟨rfl,hs⟩
def zvj{K lv:Nat}(h:St l r)(nP:∀(lv:Nat)(r':List ar),lv<=8->r'.length<r.length->St l r'->SR l (DE lv r') (zS K l (zZ l r') (lv:Int)) fE):
  SR l (PX lv r) (uV (K+1) l (zZ l r) (lv:Int)) fP:=by
 rw[uV];have e0:=YA h Vk lv 0;rw[show((0:Nat):Int)=0 from rfl]at e0;rw[e0,aC];unfold PX;by_cases c0:lv<=0/\fK Vk r=bg
 .rw[aP c0,aP c0];have ht:=zE h.wf (zo c0.2);simp only[aH,B8,yg]
  refine(nP 0 r.tail ab ht.lt (h.aft ht.e)).bind λa r1 h1 iQ=>?_
  have q1:=ht.trans (wU ht.wf h1).e
  refine(QF iQ _).sr.bind λ_ r2 h2 lu=>?_
  have q2:=q1.trans (wT q1.wf h2).e
  refine(nP 0 r2 ab q2.lt lu).bind λb r3 h3 rA=>?_
  have q3:=q2.trans (wU q2.wf h3).e
  refine(QF rA _).sr.bind λ_ r4 h4 rB=>?_
  have q4:=q3.trans (wT q3.wf h4).e
  exact(nP 0 r4 ab q4.lt rB).bind λc r5 h5 B4=>⟨by cases a;cases b;cases c;rfl,B4⟩
 .rw[aO c0,aO c0];simp only[cf];have e3:=YA h qE lv 3;rw[show((3:Nat):Int)=3 from rfl]at e3;rw[e3,aC];by_cases c3:lv<=3/\fK qE r=bg
  .rw[aP c3,aP c3];have ht:=zE h.wf (zo c3.2);simp only[aH]
   exact(nP 3 r.tail ab ht.lt (h.aft ht.e)).bind λa r1 h1 iQ=>⟨by cases a;rfl,iQ⟩
  .rw[aO c3,aO c3];simp only[cf];have e7:=YA h yX lv 7;rw[show((7:Nat):Int)=7 from rfl]at e7;rw[e7,aC];by_cases c7:lv<=7/\fK yX r=bg
   .rw[aP c7,aP c7];have ht:=zE h.wf (zo c7.2);simp only[aH]
    exact(nP 7 r.tail ab ht.lt (h.aft ht.e)).bind λa r1 h1 iQ=>⟨by cases a;rfl,iQ⟩
   .rw[aO c7,aO c7];simp only[cf];exact zX8 h nP
end
-- the operator that comes next
def Ze(r:List ar)(a:ak×Int×Int)(o:zf):ak×Int×Int:=if fK o.text r then(o.text,o.op,o.form)else a
def ah6{l r:List ar}(h:St l r)(c2 c3 c6:Int)(c7:ak)(c8:List Expr)(c9 c10:Int)(c11 c12:ak)(c13:List Expr):∀(os:List zf)(i K:Nat)(a:ak×Int×Int),nq.drop i=os->i<=10->os.length<K ->
  wD l (zZ l r) c2 c3 nq 10 c6 c7 c8 c9 c10 c11 c12 c13 K ((i:Int),a.1,a.2.1,a.2.2)=bc (os.foldl (Ze r) a):=by
 intro os
 induction os with
 |nil =>
  intro i K a hr hi hK
  obtain⟨K,rfl⟩:∃k,K=k+1:=⟨K-1,ab⟩
  have:=drop_nil hr hi;have:i=10:=this;rw[wD,df (show ¬((i:Int)<10) by omega)];rfl
 |cons o os ih =>
  intro i K a hr hi hK
  obtain⟨K,rfl⟩:∃k,K=k+1:=⟨K-1,ab⟩
  obtain⟨h1,h2,h3⟩:=yZ hr;have h3:i<10:=h3;simp only[lc]at hK
  have e:(bif fK o.text r then bc (o.text,o.op,o.form)else bc (a.1,a.2.1,a.2.2))=bc (Ze r a o):=by unfold Ze;cases fK o.text r<;>rfl
  rw[wD,dt (show((i:Int)<10) by omega),aH,zW h1,aC,NJ h,aC];simp only;rw[e,aC,yw ab,ih (i+1) K (Ze r a o) h2 ab ab];rfl
def ZD:Option zf->ak×Int×Int
 |some o=>(o.text,o.op,o.form)
 |none=>([],0,0)
def U7{r:List ar}:∀{os:List zf}{a:ak×Int×Int},(∀o∈os,fK o.text r=bd)->os.foldl (Ze r) a=a
 |[],a,_=>rfl
 |o::os,a,h=>by
  rw[dB,Ze,h o al,aO af]
  exact U7 λx hx=>h x (gq _ hx)
def zKd(r:List ar):nq.foldl (Ze r) ([],0,0)=ZD (ra r):=by
 by_cases hk:(eP r).aM=3
 .rw[ra,aP hk]
  exact U7 λo _=>by rw[fK,dt hk];rfl
 .rw[ra,aO hk]
  have hb:∀s,fK s r=decide ((eP r).Text=s):=λs=>by rw[fK,df hk];rfl
  generalize (eP r).Text=t at hb;by_cases hm:∃o∈nq,t=o.text
  .obtain⟨o,ho,rfl⟩:=hm;simp only[nq,bq,cV,or_false]at ho
   rcases ho with rfl|rfl|rfl|rfl|rfl|rfl|rfl|rfl|rfl|rfl<;>simp only[nq,dB,abI,Ze,hb]<;>rfl
  .have hn:∀o∈nq,t≠o.text:=λo ho e=>hm ⟨o,ho,e⟩
   rw[U7 λo ho=>by rw[hb];exact df (hn o ho),fo.2 λo ho=>by simp[hn o ho]];rfl
def zEn{l r:List ar}(h:St l r)(c2 c3 c6:Int)(c7:ak)(c8:List Expr)(c9 c10:Int)(c11 c12:ak)(c13:List Expr):
  wD l (zZ l r) c2 c3 nq 10 c6 c7 c8 c9 c10 c11 c12 c13 KK (0,([]:ak),0,0)=bc (ZD (ra r)):=by rw[<- zKd];exact ah6 h c2 c3 c6 c7 c8 c9 c10 c11 c12 c13 nq 0 KK ([],0,0) rfl ab (vZ ae)
def zEo{l r:List ar}(h:St l r)(c2 c3 c6:Int)(c7:ak)(c8:List Expr)(c9 c10:Int)(c11 c12:ak)(c13:List Expr):
  kU l (zZ l r) c2 c3 nq 10 c6 c7 c8 c9 c10 c11 c12 c13 KK (0,([]:ak),0,0)=bc (ZD (ra r)):=by
 have:∀K q,kU l (zZ l r) c2 c3 nq 10 c6 c7 c8 c9 c10 c11 c12 c13 K q=wD l (zZ l r) c2 c3 nq 10 c6 c7 c8 c9 c10 c11 c12 c13 K q:=by
  intro K
  induction K with
  |zero=>intro q;rfl
  |succ K ih=>intro q;rw[kU,wD];simp only[ih]
 rw[this,zEn h]
def Gd(lv own:Nat):Option zf->Bool
 |none=>bg
 |some x=>decide (x.form<(lv:Int)∨(own:Int)<x.form∨(own=4/\x.form=4))
def zNg(lv own:Nat)(o:Option zf)(ho:∀x,o=bc x->x∈nq):((bif (decide ((ZD o).1=([]:ak)))then bc bg else(bif (decide ((ZD o).2.2<(lv:Int)))then bc bg else(bif (decide ((own:Int)<(ZD o).2.2))then bc bg else(bif (decide ((own:Int)=4))then bc (decide ((ZD o).2.2=4))else bc bd)))))=bc (Gd lv own o):=by
 cases o with
 |none=>rfl
 |some x =>
  obtain⟨f,h1,_,h3⟩:=Wd (ho x rfl);have e0:decide ((ZD (bc x)).1=([]:ak))=bd:=df h3;rw[e0,cf];unfold Gd;change (bif (decide (x.form<(lv:Int)))then bc bg else(bif (decide ((own:Int)<x.form))then bc bg else(bif (decide ((own:Int)=4))then bc (decide (x.form=4))else bc bd)))=_;by_cases a:x.form<(lv:Int)
  .simp[a]
  .by_cases b:(own:Int)<x.form
   .simp[a,b]
   .by_cases c:own=4
    .subst c;have b':¬((4:Int)<x.form):=b;simp[a,b']
    .have:¬((own:Int)=4):=ab;simp[a,b,c,this]
def zNh(l:List ar):∀(n K lv:Nat)(r:List ar),r.length<n->2*n<=K->lv<=8->St l r->SR l (DE lv r) (zS K l (zZ l r) (lv:Int)) fE:=by
 intro n
 induction n with
 |zero=>intro K lv r h;omega
 |succ n ih =>
  intro K lv r hn hK hl h
  obtain⟨K,rfl⟩:∃k,K=k+2:=⟨K-2,ab⟩
  have nP:∀(lv:Nat)(r':List ar),lv<=8->r'.length<r.length->St l r'->SR l (DE lv r') (zS K l (zZ l r') (lv:Int)) fE:=λlv r' h1 h2 h3=>ih K lv r' ab ab h1 h3
  -- the loop
  have loop:∀(m:Nat)(r':List ar)(own:Nat)(e:Expr)(Q:Nat),r'.length<m->m<=Q->r'.length<r.length->St l r' ->
    SR l (CL lv own e r') ((oD (zS (K+1)) l (lv:Int) 0 ([]:ak) [] Q (zZ l r',(own:Int),e.Op,e.N,e.S,e.Key,e.aZ)).bind (xo bc λ_=>bh)) fE:=by
   intro m
   induction m with
   |zero=>intro r' own e Q h;omega
   |succ m Su =>
    intro r' own e Q hm hQ fZ hs
    obtain⟨Q,rfl⟩:∃k,Q=k+1:=⟨Q-1,ab⟩
    rw[oD,show jC=bc nq from rfl,aC,show((bf nq:Nat):Int)=10 from rfl,zEn hs,aC];simp only;rw[zNg lv own _ (λx hx=>(kv hx).2.1),aC,zX6 hs.wf]
    cases ho:ra r' with
    |none=>exact⟨rfl,hs⟩
    |some o =>
     obtain⟨hk,gV,_⟩:=kv ho;obtain⟨f,hf,tw,_⟩:=Wd gV;dsimp only;by_cases hc:o.form<(lv:Int)∨(own:Int)<o.form∨(own=4/\o.form=4)
     .rw[aP hc,Gd,dt hc];exact⟨rfl,hs⟩
     .rw[aO hc,Gd,df hc,cf,hs.step];have ht:=zE hs.wf hk
      have e1:aS ((ZD (bc o)).2.2+1)=((f+1:Nat):Int):=by
       show aS (o.form+1)=_
       rw[hf,yv ab ab];rfl
      rw[e1,dq];have ih2:=ih (K+1) (f+1) r'.tail (by have:=ht.lt;omega) ab ab (hs.aft ht.e);rw[hf,dD]
      refine ih2.bind λe2 r2 h2 lu=>?_
      have hq:=ht.trans (wU ht.wf h2).e;have:=Su r2 f (QG o.op e e2) Q (by have:=hq.lt;omega) ab (by have:=hq.lt;omega) lu;refine Eq.mp ?_ this
      congr 4
      simp only[fE,ZD,hf,QG];cases e;cases e2;rfl
  rw[zS,zX7 hl h.wf]
  refine(zvj h nP).bind λx r1 h1 iQ=>?_
  have hq:=TJ h.wf h1;exact loop (r1.length+1) r1 x.1 x.2 KK ab (by have:=vZ (n:=r1.length+1) (by have:=iQ.lt;have:=iQ.len;omega);omega) hq.lt iQ
end Go.Proofs.YtmjfiffpolkdeaaGreatDoor
namespace Go.Proofs.YtmjfiffpolkdeaaGreatDoor
open Go Go.RowKit Go.iE Go.EV Go.EQ
variable[Fuel]
def PR{α:Type}(x:Except EE (α×List ar))(p:Option EE):Prop:=match x with
 |.ok _=>p=bh
 |.error e=>p=bc e
def RT.pr{α β:Type}{l:List ar}{x:Except EE (α×List ar)}{s:Option β}{p:Option EE}{f:α->Int->β}(h:RT l x s p f):PR x p:=by
 match x,h with
 |.ok (v,r),h=>exact h.2.1
 |.error e,h=>exact h.2
def akm{α β:Type}{l:List ar}{x:Except EE (α×List ar)}{s:Option β}{p:Option EE}{f:α->Int->β}(h:SR l x s f)(k:PR x p):RT l x s p f:=by
 match x,h,k with
 |.ok (v,r),h,k=>exact⟨h.1,k,h.2⟩
 |.error e,h,k=>exact⟨h,k⟩
def PR.bind{α β rm:Type}{l:List ar}{x:Except EE (α×List ar)}{s:Option β}{p:Option EE}{f:α->Int->β}{g:α->List ar->Except EE (rm×List ar)}{p2:β->Option EE}
  (hs:SR l x s f) (h:PR x p) (h2:∀v r,x=.ok (v,r)->St l r->PR (g v r) (p2 (f v (zZ l r)))):PR (aD x g) (er p (λq=>bc q) (s.bind p2)):=by
 match x,hs,h,h2 with
 |.error e,hs,h,_=>show _=bc e;rw[show p=bc e from h];rfl
 |.ok (v,r),⟨hs,fS⟩,h,h2 =>
  have:=h2 v r rfl fS;rw[show p=bh from h,hs];exact this
def PR.last{α β rm:Type}{l:List ar}{x:Except EE (α×List ar)}{s:Option β}{p:Option EE}{f:α->Int->β}{g:α->List ar->rm}(hs:SR l x s f)(h:PR x p):PR (aD x λv r=>.ok (g v r,r)) (er p (λq=>bc q) (s.bind λ_=>bh)):=PR.bind hs h λ_ _ _ _=>rfl
section
variable{l r:List ar}
def zX9{K:Nat}(h:St l r)(CW:∀(lv:Nat)(r':List ar),lv<=8->r'.length<r.length->St l r'->SR l (DE lv r') (zS KK l (zZ l r') (lv:Int)) fE)
  (nP:∀(lv:Nat)(r':List ar),lv<=8->r'.length<r.length->St l r'->PR (DE lv r') (yQ K l (zZ l r') (lv:Int))):
  PR (aD (Wc r) λe r=>.ok ((8,e),r)) (aN (yM l (zZ l r)) λmY=>(bif mY then(er (zU l (zZ l r) 0 1099511627776) (λmy=>bc my) (aN (zr l (zZ l r) 0 1099511627776) λ_=>bh))else(zL l (zZ l r) yG).bind λmZ=>(bif mZ.1 then(er (xD l mZ.2) (λrZ=>bc rZ) (aN (zV l mZ.2) λmj=>(er (xD l mj.2) (λmz=>bc mz) (aN (zV l mj.2) λ_=>bh))))else(zL l mZ.2 zR).bind λnx=>(bif nx.1 then(er (xD l nx.2) (λrG=>bc rG) (aN (zV l nx.2) λ_=>bh))else(zL l nx.2 AI).bind λnG=>(bif nG.1 then(er (yQ K l nG.2 0) (λoB=>bc oB) (aN (zS KK l nG.2 0) λr7=>(er (xI l r7.1 qO) (λsN=>bc sN) (aN (z6 l r7.1 qO) λ_=>bh))))else(er (xD l nG.2) (λs9=>bc s9) (aN (zV l nG.2) λ_=>bh))))))):=by
 unfold Wc;rw[Qd h,aC]
 cases hn:nT r with
 |true =>
  rw[aP rfl,aH,yg];exact PR.last (OI h 0 1099511627776).sr (OI h 0 1099511627776).pr
 |false =>
  rw[aO af,cf,Cs h,aC]
  cases hb:fK yG r with
  |true =>
   have ht:=h.tail (zo hb);simp only[if_true,aH,yg]
   exact PR.bind (He ht).sr (He ht).pr λv r1 _ hs=>PR.last (He hs).sr (He hs).pr
  |false =>
   simp only[aO (show ¬(bd=bg) by simp),cf];rw[Cs h,aC]
   cases hz:fK zR r with
   |true =>
    have ht:=h.tail (zo hz);simp only[if_true,aH,yg];exact PR.last (He ht).sr (He ht).pr
   |false =>
    simp only[aO (show ¬(bd=bg) by simp),cf];rw[Cs h,aC]
    cases hp:fK AI r with
    |true =>
     have ht:=h.tail (zo hp);simp only[if_true,aH,yg]
     exact PR.bind (CW 0 r.tail ab (Va h.wf) ht) (nP 0 r.tail ab (Va h.wf) ht) λv r1 _ hs=>PR.last (QF hs _).sr (QF hs _).pr
    |false =>
     simp only[aO (show ¬(bd=bg) by simp),cf,yg];exact PR.last (He h).sr (He h).pr
def zKe{K lv:Nat}(h:St l r)(CW:∀(lv:Nat)(r':List ar),lv<=8->r'.length<r.length->St l r'->SR l (DE lv r') (zS KK l (zZ l r') (lv:Int)) fE)
  (nP:∀(lv:Nat)(r':List ar),lv<=8->r'.length<r.length->St l r'->PR (DE lv r') (yQ K l (zZ l r') (lv:Int))):PR (PX lv r) (KW (K+1) l (zZ l r) (lv:Int)):=by
 rw[KW];have e0:=YA h Vk lv 0;rw[show((0:Nat):Int)=0 from rfl]at e0;rw[e0,aC];unfold PX;by_cases c0:lv<=0/\fK Vk r=bg
 .rw[aP c0,aP c0];have ht:=zE h.wf (zo c0.2);have fS:=h.aft ht.e;simp only[aH,B8,yg]
  refine PR.bind (CW 0 r.tail ab ht.lt fS) (nP 0 r.tail ab ht.lt fS) λa r1 h1 iQ=>?_
  have q1:=ht.trans (wU ht.wf h1).e
  refine PR.bind (QF iQ _).sr (QF iQ _).pr λ_ r2 h2 lu=>?_
  have q2:=q1.trans (wT q1.wf h2).e
  refine PR.bind (CW 0 r2 ab q2.lt lu) (nP 0 r2 ab q2.lt lu) λb r3 h3 rA=>?_
  have q3:=q2.trans (wU q2.wf h3).e
  refine PR.bind (QF rA _).sr (QF rA _).pr λ_ r4 h4 rB=>?_
  have q4:=q3.trans (wT q3.wf h4).e;exact PR.last (CW 0 r4 ab q4.lt rB) (nP 0 r4 ab q4.lt rB)
 .rw[aO c0,aO c0];simp only[cf];have e3:=YA h qE lv 3;rw[show((3:Nat):Int)=3 from rfl]at e3;rw[e3,aC];by_cases c3:lv<=3/\fK qE r=bg
  .rw[aP c3,aP c3];have ht:=zE h.wf (zo c3.2);have fS:=h.aft ht.e;simp only[aH];exact PR.last (CW 3 r.tail ab ht.lt fS) (nP 3 r.tail ab ht.lt fS)
  .rw[aO c3,aO c3];simp only[cf];have e7:=YA h yX lv 7;rw[show((7:Nat):Int)=7 from rfl]at e7;rw[e7,aC];by_cases c7:lv<=7/\fK yX r=bg
   .rw[aP c7,aP c7];have ht:=zE h.wf (zo c7.2);have fS:=h.aft ht.e;simp only[aH];exact PR.last (CW 7 r.tail ab ht.lt fS) (nP 7 r.tail ab ht.lt fS)
   .rw[aO c7,aO c7];simp only[cf];exact zX9 h CW nP
end
def Zf:18446744073709551616<=KK:=Fuel.DN
def X2{l r:List ar}{lv:Nat}(hl:lv<=8)(h:St l r):SR l (DE lv r) (zS KK l (zZ l r) (lv:Int)) fE:=by have h1:=h.lt;have h2:=h.len;have h3:=Zf;exact zNh l (r.length+1) KK lv r ab ab hl h
def zYa(l:List ar):∀(n K lv:Nat)(r:List ar),r.length<n->2*n<=K->lv<=8->St l r->PR (DE lv r) (yQ K l (zZ l r) (lv:Int)):=by
 intro n
 induction n with
 |zero=>intro K lv r h;omega
 |succ n ih =>
  intro K lv r hn hK hl h
  obtain⟨K,rfl⟩:∃k,K=k+2:=⟨K-2,ab⟩
  have nP:∀(lv:Nat)(r':List ar),lv<=8->r'.length<r.length->St l r'->PR (DE lv r') (yQ K l (zZ l r') (lv:Int)):=λlv r' h1 h2 h3=>ih K lv r' ab ab h1 h3
  have loop:∀(m:Nat)(r':List ar)(own:Nat)(e:Expr)(Q:Nat),r'.length<m->m<=Q->r'.length<r.length->St l r' ->
    PR (CL lv own e r') ((oG (yQ (K+1)) l (lv:Int) 0 ([]:ak) [] Q (zZ l r',(own:Int),e.Op,e.N,e.S,e.Key,e.aZ)).bind (xo bc λ_=>bh)):=by
   intro m
   induction m with
   |zero=>intro r' own e Q h;omega
   |succ m Su =>
    intro r' own e Q hm hQ fZ hs
    obtain⟨Q,rfl⟩:∃k,Q=k+1:=⟨Q-1,ab⟩
    rw[oG,show jC=bc nq from rfl,aC,show((bf nq:Nat):Int)=10 from rfl,zEo hs,aC];simp only;rw[zNg lv own _ (λx hx=>(kv hx).2.1),aC,zX6 hs.wf]
    cases ho:ra r' with
    |none=>exact rfl
    |some o =>
     obtain⟨hk,gV,_⟩:=kv ho;obtain⟨f,hf,tw,_⟩:=Wd gV;dsimp only;by_cases hc:o.form<(lv:Int)∨(own:Int)<o.form∨(own=4/\o.form=4)
     .rw[aP hc,Gd,dt hc];exact rfl
     .rw[aO hc,Gd,df hc,cf,hs.step];have ht:=zE hs.wf hk
      have e1:aS ((ZD (bc o)).2.2+1)=((f+1:Nat):Int):=by
       show aS (o.form+1)=_
       rw[hf,yv ab ab];rfl
      rw[e1];have fS:=hs.aft ht.e;have hS:=X2 (lv:=f+1) ab fS;have hP:=ih (K+1) (f+1) r'.tail (by have:=ht.lt;omega) ab ab fS;rw[hf,dD]
      cases hx:DE (f+1) r'.tail with
      |error afr =>
       rw[hx]at hP;rw[show yQ (K+1) l (zZ l r'.tail) ((f+1:Nat):Int)=bc afr from hP];rfl
      |ok y =>
       obtain⟨e2,r2⟩:=y;rw[hx]at hP hS;have hq:=ht.trans (wU ht.wf hx).e;have lu:=hS.2;rw[show yQ (K+1) l (zZ l r'.tail) ((f+1:Nat):Int)=bh from hP,hS.1];have:=Su r2 f (QG o.op e e2) Q (by have:=hq.lt;omega) ab (by have:=hq.lt;omega) lu;refine Eq.mp ?_ this
       show _=PR (CL lv f (QG o.op e e2) r2) _
       congr 4
       simp only[fE,ZD,hf,QG];cases e;cases e2;rfl
  rw[yQ,zX7 hl h.wf]
  have hS:SR l (PX lv r) (uV KK l (zZ l r) (lv:Int)) fP:=by
   have h3:=Zf;have h1:=h.lt;have h2:=h.len
   obtain⟨k,hk⟩:∃k,KK=k+1:=⟨KK-1,ab⟩
   rw[hk]
   exact zvj h λlv r' q1 q2 q3=>zNh l (r'.length+1) k lv r' ab ab q1 q3
  refine PR.bind hS (zKe h (λlv r' q1 q2 q3=>X2 q1 q3) nP) λx r1 h1 iQ=>?_
  have hq:=TJ h.wf h1;exact loop (r1.length+1) r1 x.1 x.2 KK ab (by have:=vZ (n:=r1.length+1) (by have:=iQ.lt;have:=iQ.len;omega);omega) hq.lt iQ
def zYb{l r:List ar}{lv:Nat}(hl:lv<=8)(h:St l r):RT l (DE lv r) (zS KK l (zZ l r) (lv:Int)) (yQ KK l (zZ l r) (lv:Int)) fE:=by have h1:=h.lt;have h2:=h.len;have h3:=Zf;exact akm (X2 hl h) (zYa l (r.length+1) KK lv r ab ab hl h)
variable[Fuel]
-- the builder at a place
structure At(b:BB)(r:List ar):Prop where
 st:St b.l r
 at_:b.i=zZ b.l r
section
variable{b:BB}{r:List ar}
def At.next(h:At b r):zA b.l b.i=bc ((eP r).aM,(eP r).Text,(eP r).N,(eP r).Pos):=by rw[h.at_,Kf h.st]
def At.is(h:At b r)(s:ak):Ad b.l b.i s=bc (fK s r):=by rw[h.at_,NJ h.st]
def At.has(h:At b r)(s:ak):zL b.l b.i s=bc (fK s r,if fK s r then zZ b.l r.tail else zZ b.l r):=by rw[h.at_,Cs h.st]
def At.akM(h:At b r):yM b.l b.i=bc (nT r):=by rw[h.at_,Qd h.st]
def At.isName(h:At b r):yL b.l b.i=bc (pa r):=by rw[h.at_,zvh h.st]
def At.check(h:At b r)(c:Bool)(e:Int):RT b.l (Vl c e r) (zn b.l b.i c e) (zI b.l b.i c e) (λ_ _=>()):=by rw[h.at_];exact LS h.st c e
def At.want(h:At b r)(s:ak):RT b.l (vd s r) (z6 b.l b.i s) (xI b.l b.i s) (λ_ i=>i):=by rw[h.at_];exact QF h.st s
def At.name(h:At b r):RT b.l (ja r) (zV b.l b.i) (xD b.l b.i) (λv i=>(v,i)):=by rw[h.at_];exact He h.st
def At.number(h:At b r)(lo hi:Int):RT b.l (Jz lo hi r) (zr b.l b.i lo hi) (zU b.l b.i lo hi) (λv i=>(v,i)):=by rw[h.at_];exact OI h.st lo hi
def At.expr(h:At b r):RT b.l (DE 0 r) (zS KK b.l b.i 0) (yQ KK b.l b.i 0) fE:=by rw[h.at_];exact zYb (lv:=0) ab h.st
def At.step(h:At b r):aS (b.i+1)=zZ b.l r.tail:=by rw[h.at_,h.st.step]
end
def we{b b2:BB}{r:List ar}(hl:b2.l=b.l)(hi:b2.i=zZ b.l r)(h:St b.l r):At b2 r:=⟨by rw[hl];exact h,by rw[hi,hl]⟩
def RJ{α mC:Type}(l:List ar)(x:Except EE (α×List ar))(s:Option mC)(p:Option (EE⊕mC))(f:α->Int->mC):Prop:=match x with
 |.ok (v,r)=>s=bc (f v (zZ l r))/\p=bc (.inr (f v (zZ l r)))/\St l r
 |.error e=>s=bh/\p=bc (.inl e)
section
variable{α β rm y6 mC G4:Type}{l:List ar}{x:Except EE (α×List ar)}{s:Option β}{p:Option EE}{f:α->Int->β}{g:α->List ar->Except EE (rm×List ar)}{s2:β->Option y6}{p2:β->Option EE}{f2:rm->Int->y6}
def RJ.E9{sj:Option mC}{pj:Option (EE⊕mC)}{fj:α->Int->mC}{s2:mC->Option y6}{p2:mC->Option EE}(h:RJ l x sj pj fj)(h2:∀v r,x=.ok (v,r)->St l r->RT l (g v r) (s2 (fj v (zZ l r))) (p2 (fj v (zZ l r))) f2):RT l (aD x g) (sj.bind s2) (pj.bind (xo bc p2)) f2:=by
 match x,h,h2 with
 |.error e,⟨h,h'⟩,_=>exact⟨by rw[h];rfl,by rw[h'];rfl⟩
 |.ok (v,r),⟨h,h',hs⟩,h2 =>
  have:=h2 v r rfl hs;rw[h,h'];exact this
def RT.rj{s2:β->Option mC}{p2:β->Option (EE⊕mC)}{fj:rm->Int->mC}(h:RT l x s p f)(h2:∀v r,x=.ok (v,r)->St l r->RJ l (g v r) (s2 (f v (zZ l r))) (p2 (f v (zZ l r))) fj):RJ l (aD x g) (s.bind s2) (er p (λq=>bc (.inl q)) (s.bind p2)) fj:=by
 match x,h,h2 with
 |.error e,⟨h,h'⟩,_=>exact⟨by rw[h];rfl,by rw[h'];rfl⟩
 |.ok (v,r),⟨h,h',hs⟩,h2 =>
  have:=h2 v r rfl hs;rw[h,h'];exact this
def Fh.rt{sj:Option (β⊕mC)}{pj:Option (EE⊕G4)}{k:mC->Option β}{k2:G4->Option EE}(h:Fh l x sj pj f):RT l x (sj.bind (xo bc k)) (pj.bind (xo bc k2)) f:=by
 match x,h with
 |.ok (v,r),⟨h,h',hs⟩=>exact⟨by rw[h];rfl,by rw[h'];rfl,hs⟩
 |.error e,⟨h,h'⟩=>exact⟨by rw[h];rfl,by rw[h'];rfl⟩
def RT.adG{s2:β->Option (y6⊕mC)}{p2:β->Option (EE⊕G4)}(h:RT l x s p f)(h2:∀v r,x=.ok (v,r)->St l r->Fh l (g v r) (s2 (f v (zZ l r))) (p2 (f v (zZ l r))) f2):Fh l (aD x g) (s.bind s2) (er p (λq=>bc (.inl q)) (s.bind p2)) f2:=by
 match x,h,h2 with
 |.error e,⟨h,h'⟩,_=>exact⟨by rw[h];rfl,by rw[h'];rfl⟩
 |.ok (v,r),⟨h,h',hs⟩,h2 =>
  have:=h2 v r rfl hs;rw[h,h'];exact this
end
-- what is read
def oQ(w:List ak)(r:List ar):Except EE (Int×List ar):=if(eP r).aM=0 then(match H9 (eP r).Text w with|some i=>.ok ((i:Int),r.tail)|none=>.error (rf r 14))else .error (rf r 14)
def qV:Nat->List zx->List ar->Except EE (List zx×List ar)
 |0,_,_=>sK
 |n+1,acc,r=>aD (Jz 0 1048576 r) λx r=>aD (Jz 0 1048576 r) λy r=>if nT r then qV n (acc++[zx.mk x y]) r else .ok (acc++[zx.mk x y],r)
def se(c:Bool)(e:Int)(r:List ar):Except EE (Unit×List ar):=aD (Vl (fK z8 r) 14 r) λ_ r=>aD (Vl c e r) λ_ r=>.ok ((),r.tail)
def u4:Nat->List ak->List ar->Except EE (List ak×List ar)
 |0,_,_=>sK
 |n+1,acc,r=>if pa r then aD (ja r) λs r=>u4 n (acc++[s]) r else .ok (acc,r)
def YB(r:List ar):Except EE (List ak×List ar):=aD (ja r) λs r1=>u4 (r1.length+1) [s] r1
section
variable{b:BB}{r:List ar}
def zRh(h:At b r)(h0:b.n0=[]):RT b.l (ja r) (LF b) (O8 b) (λv i=>(v,i,[[(v,bg)]])):=by
 have hc:=LS h.st;have hn:=h.name;have e1:=h.isName;have e2:=h.next;rw[h.at_]at hn e1 e2;unfold LF O8;rw[h0];unfold VT UP;simp only[dj,aH,aC,nz,xh,gQ,cu,oV,h.at_,e1,e2];unfold ja at hn ⊢
 cases hb:pa r with
 |false =>
  have:=hc bd 14;rw[show Vl bd 14 r=.error (rf r 14) from rfl]at this;rw[this.1,this.2];exact⟨rfl,rfl⟩
 |true =>
  rw[hb]at hn;have h1:=hc bg 14;have h2:=hc bg 5;rw[show Vl bg 14 r=.ok ((),r) from rfl]at h1;rw[show Vl bg 5 r=.ok ((),r) from rfl]at h2;obtain⟨n1,n2,n3⟩:=hn;rw[h1.1,h1.2.1];simp only[aC,er,h2.1,h2.2.1,n1,n2,if_true];exact⟨rfl,rfl,n3⟩
def zRi(h:At b r)(h0:b.n2=[]):RT b.l (ja r) (oE b) (JV b) (λv i=>(v,i,[[(v,bg)]])):=by
 have hc:=LS h.st;have hn:=h.name;have e1:=h.isName;have e2:=h.next;rw[h.at_]at hn e1 e2;unfold oE JV;rw[h0];unfold Hz QX;simp only[dj,aH,aC,nz,xh,gQ,cu,oV,h.at_,e1,e2];unfold ja at hn ⊢
 cases hb:pa r with
 |false =>
  have:=hc bd 14;rw[show Vl bd 14 r=.error (rf r 14) from rfl]at this;rw[this.1,this.2];exact⟨rfl,rfl⟩
 |true =>
  rw[hb]at hn;have h1:=hc bg 14;have h2:=hc bg 5;rw[show Vl bg 14 r=.ok ((),r) from rfl]at h1;rw[show Vl bg 5 r=.ok ((),r) from rfl]at h2;obtain⟨n1,n2,n3⟩:=hn;rw[h1.1,h1.2.1];simp only[aC,er,h2.1,h2.2.1,n1,n2,if_true];exact⟨rfl,rfl,n3⟩
def zRj(h:At b r)(h0:b.n3=[]):RT b.l (ja r) (JT b) (VU b) (λv i=>(v,i,[[(v,bg)]])):=by
 have hc:=LS h.st;have hn:=h.name;have e1:=h.isName;have e2:=h.next;rw[h.at_]at hn e1 e2;unfold JT VU;rw[h0];unfold HC QY;simp only[dj,aH,aC,nz,xh,gQ,cu,oV,h.at_,e1,e2];unfold ja at hn ⊢
 cases hb:pa r with
 |false =>
  have:=hc bd 14;rw[show Vl bd 14 r=.error (rf r 14) from rfl]at this;rw[this.1,this.2];exact⟨rfl,rfl⟩
 |true =>
  rw[hb]at hn;have h1:=hc bg 14;have h2:=hc bg 5;rw[show Vl bg 14 r=.ok ((),r) from rfl]at h1;rw[show Vl bg 5 r=.ok ((),r) from rfl]at h2;obtain⟨n1,n2,n3⟩:=hn;rw[h1.1,h1.2.1];simp only[aC,er,h2.1,h2.2.1,n1,n2,if_true];exact⟨rfl,rfl,n3⟩
def zRk(w:List ak)(s:ak)(hw:w.length<1000):∀(k:List ak)(i K:Nat),w.drop i=k->i<=w.length->k.length<K->xv w s (w.length:Int) K (i:Int)=bc (match H9 s k with|some j=>.inl ((i+j:Nat):Int)|none=>.inr ()):=by
 intro k
 induction k with
 |nil =>
  intro i K hr hi hK
  obtain⟨K,rfl⟩:∃k,K=k+1:=⟨K-1,ab⟩
  have:=drop_nil hr hi;rw[xv,df ab];rfl
 |cons c k ih =>
  intro i K hr hi hK
  obtain⟨K,rfl⟩:∃k,K=k+1:=⟨K-1,ab⟩
  obtain⟨h1,h2,h3⟩:=yZ hr;simp only[lc]at hK;rw[xv,dt ab,aH,zW h1,aC,H9];by_cases hc:c=s
  .rw[dt hc.symm,aP hc];rfl
  .rw[df (λe=>hc e.symm),aO hc,cf,yw ab,ih (i+1) K h2 ab ab]
   cases H9 s k with
   |none=>rfl
   |some j=>simp only[Option.map_some];congr 3;omega
def zvk{t:ak}{w:List ak}(ht:jx t=bc w)(hw:w.length<1000)(s:ak):QV t s=bc (Kd (H9 s w)):=by
 unfold QV AJ;have:=zRk w s hw w 0 KK rfl ab (vZ ab);rw[show(((0:Nat):Int))=(0:Int) from rfl]at this;rw[ht,aC,this]
 cases H9 s w with
 |none=>rfl
 |some j=>simp[xo,Kd]
def sy:List ak:=[[104,111,109,101],[115,104,111,112],[119,111,114,107],[112,97,114,107],[112,108,97,110,116],[104,97,108,108]]
def Qf:jx zi=bc sy:=by unfold jx KN;rw[zt (by refine⟨ae,ae,ae,ae⟩)];rfl
def U8(h:At b r){t:ak}{w:List ak}(ht:jx t=bc w)(hw:w.length<1000):RT b.l (oQ w r) (xe b t) (vJ b t) (λv i=>(v,i)):=by
 unfold xe vJ oQ;have e2:=h.next;rw[h.at_]at e2;simp only[h.at_,e2,aC,zvk ht hw,h.st.step];have hc:=LS h.st;have h0:=hc bd 14;rw[show Vl bd 14 r=.error (rf r 14) from rfl]at h0;by_cases hk:(eP r).aM=0
 .rw[aP hk,dt hk,aH,aH]
  cases hf:H9 (eP r).Text w with
  |none =>
   rw[show decide (Kd bh>=0)=bd from rfl,h0.1,h0.2];exact⟨rfl,rfl⟩
  |some i =>
   have h1:=hc bg 14;rw[show Vl bg 14 r=.ok ((),r) from rfl]at h1;have:decide (Kd (bc i)>=0)=bg:=dt (show((i:Int))>=0 by omega);rw[this,h1.1,h1.2.1];exact⟨rfl,rfl,h.st.tail ab⟩
 .rw[aO hk,df hk,cf,cf,h0.1,h0.2];exact⟨rfl,rfl⟩
def X3(h:At b r)(n:Nat)(lV:Nat)(hk:(eP r).aM≠3):RT b.l (aD (Vl (decide (n<lV)) 6 r) λ_ r=>.ok ((),r.tail)) (yH b (n:Int) (lV:Int)) (vI b (n:Int) (lV:Int)) (λ_ i=>i):=by
 unfold yH vI;rw[h.step,show decide ((n:Int)<(lV:Int))=decide (n<lV) from yI ab]
 refine(h.check _ _).bind λu r1 h1 hs=>?_
 unfold Vl at h1;split at h1
 .cases h1;exact⟨rfl,rfl,hs.tail hk⟩
 .cases h1
def TK(h:At b r)(c:Bool)(e:Int):RT b.l (se c e r) (jD b c e) (HE b c e) (λ_ i=>i):=by
 unfold jD HE se;rw[h.is,aC,aC,h.step]
 refine(h.check _ _).bind λu r1 h1 iQ=>?_
 unfold Vl at h1;split at h1
 .rename_i hb;cases h1
  refine(h.check _ _).bind λu r1 h1 iQ=>?_
  unfold Vl at h1;split at h1
  .cases h1;exact⟨rfl,rfl,iQ.tail (zo hb)⟩
  .cases h1
 .cases h1
def zKf:∀(n:Nat)(r:List ar)(acc:List zx)(K:Nat),St b.l r->r.length<n->n<=K->acc.length+r.length<=2000000 ->
  Fh b.l (qV n acc r) (j6 b K (zZ b.l r,acc)) (j8 b K (zZ b.l r,acc)) (λv i=>(v,i)):=by
 intro n
 induction n with
 |zero=>intro r acc K hs hn;omega
 |succ n ih =>
  intro r acc K hs hn hK ahH
  obtain⟨K,rfl⟩:∃k,K=k+1:=⟨K-1,ab⟩
  rw[qV,j6,j8];have a0:At { b with i:=zZ b.l r } r:=we rfl rfl hs
  refine(a0.number 0 1048576).adG λx r1 h1 iQ=>?_
  have q1:=OJ hs.wf h1;have a1:At { b with i:=zZ b.l r1 } r1:=we rfl rfl iQ
  refine(a1.number 0 1048576).adG λy r2 h2 lu=>?_
  have q2:=OJ iQ.wf h2;have a2:At { b with i:=zZ b.l r2 } r2:=we rfl rfl lu;have g1:=q1.lt;have g2:=q2.lt;dsimp only;rw[zt (by simp only[la,lc,bN];omega),aC,aC,a2.akM,aC,aC]
  cases hk:nT r2 with
  |true =>
   simp only[if_true,bJ,cf];exact ih r2 _ K lu ab ab (by simp only[la,lc,bN];omega)
  |false=>exact⟨rfl,rfl,lu⟩
def Uv{l r:List ar}(h:St l r):r.length+1<=KK:=by have:=h.lt;have:=h.len;have:=Zf;omega
def zEq(h:At b r):RT b.l (qV (r.length+1) [] r) (wb b) (kV b) (λv i=>(v,i)):=by unfold wb kV;rw[h.at_];have:=h.st.lt;have:=h.st.len;exact(zKf (b:={ b with i:=0 }) (r.length+1) r [] KK h.st (cT _) (Uv h.st) (by simp;omega)).rt
def zYc:∀(n:Nat)(r:List ar)(acc:List ak)(K:Nat),St b.l r->r.length<n->n<=K->acc.length+r.length<=2000000 ->
  RJ b.l (u4 n acc r) (oF b K (zZ b.l r,acc)) (oH b K (zZ b.l r,acc)) (λv i=>(i,v)):=by
 intro n
 induction n with
 |zero=>intro r acc K hs hn;omega
 |succ n ih =>
  intro r acc K hs hn hK ahH
  obtain⟨K,rfl⟩:∃k,K=k+1:=⟨K-1,ab⟩
  rw[u4,oF,oH];have a0:At { b with i:=zZ b.l r } r:=we rfl rfl hs;rw[a0.isName,aC,aC]
  cases hk:pa r with
  |true =>
   simp only[if_true,aH]
   refine a0.name.rj λs r1 h1 iQ=>?_
   have q1:=ku hs.wf h1;have g1:=q1.lt;dsimp only;rw[zt (by simp only[la,lc,bN];omega),aC,aC];exact ih r1 _ K iQ ab ab (by simp only[la,lc,bN];omega)
  |false=>exact⟨rfl,rfl,hs⟩
def zEr(h:At b r):RT b.l (YB r) (uC b) (HG b) (λv i=>(v,i)):=by
 unfold uC HG YB
 refine h.name.bind λs r1 h1 iQ=>?_
 have:=iQ.lt;have:=iQ.len;have hL:=zYc (b:={ b with i:=0 }) (r1.length+1) r1 [s] KK iQ (cT _) (Uv iQ) (by simp;omega)
 have:=hL.E9 (g:=λv r=>.ok (v,r)) (s2:=λx2=>bc (x2.2,x2.1)) (p2:=λ_=>bh) (f2:=λv i=>(v,i)) λv r2 h2 lu=>⟨rfl,rfl,lu⟩
 rw[L_]at this;exact this
end
end Go.Proofs.YtmjfiffpolkdeaaGreatDoor
namespace Go.Proofs.YtmjfiffpolkdeaaGreatDoor
open Go Go.RowKit Go.iE Go.EV Go.EQ
variable[Fuel]
noncomputable def pd(p:Prop):Bool:=@decide p (Classical.propDecidable p)
def yV{p:Prop}:pd p=bg↔p:=by unfold pd;exact @decide_eq_true_iff p (Classical.propDecidable p)
def Ja{p:Prop}[Decidable p]:decide p=pd p:=yI Iff.rfl
def kE{b:Bool}{p:Prop}(h:b=bg↔p):b=pd p:=by
 cases b with
 |true=>exact(yV.2 (h.1 rfl)).symm
 |false =>
  cases hp:pd p with
  |false=>rfl
  |true=>exact aU (h.2 (yV.1 hp)) ae
def kz{p q:Prop}(h:p↔q):pd p=pd q:=kE (yV.trans h)
def zo2{α β:Type}[Inhabited α][Inhabited β](a:List α)(b:List β)(G:α->β->Option Bool)(g:α->β->Bool)(L:Nat->Int->Option (Bool⊕Unit))
  (hL:∀K q,L (K+1) q=(bif (decide (q<((bf a:Nat):Int)))then(idx a q).bind λx=>aN (idx b q) λy=>aN (G x y) λr=>(bif (!r)then bc (bp bd)else L K (aS (q+1)))else bc (br ())))
  (hs:a.length<4611686018427387904) (hl:b.length=a.length):
  ∀(r:List α)(t:List β)(i K:Nat),a.drop i=r->b.drop i=t->i<=a.length->r.length<K->(∀x∈r,∀y∈t,G x y=bc (g x y))->L K (i:Int)=bc (bif (r.zip t).all (λp=>g p.1 p.2)then br ()else bp bd)
 |[],t,i,K,hr,ht,hi,hK,_=>by
  obtain⟨K,rfl⟩:∃k,K=k+1:=⟨K-1,by simp at hK;omega⟩
  have:=drop_nil hr hi;rw[hL,df ab];simp
 |x::r,[],i,K,hr,ht,hi,hK,_=>by
  have h1:=drop_nil ht ab;obtain⟨_,_,h3⟩:=yZ hr;omega
 |x::r,y::t,i,K,hr,ht,hi,hK,hG=>by
  obtain⟨K,rfl⟩:∃k,K=k+1:=⟨K-1,by simp at hK;omega⟩
  obtain⟨h1,h2,h3⟩:=yZ hr;obtain⟨k1,k2,k3⟩:=yZ ht;simp only[lc]at hK;rw[hL,dt ab,aH,zW h1,aC,zW k1,aC,hG x al y al,aC];simp only[abu,cv]
  cases hg:g x y with
  |false=>rfl
  |true =>
   simp only[bJ,cf,cb];rw[yw ab]
   exact zo2 a b G g L hL hs hl r t (i+1) K h2 k2 ab ab λx hx y hy=>hG x (gq _ hx) y (gq _ hy)
def zEs{α:Type}{g:α->α->Bool}:∀{a b:List α},a.length=b.length->(∀x∈a,∀y∈b,(g x y=bg↔x=y))->((a.zip b).all (λp=>g p.1 p.2)=bg↔a=b)
 |[],[],_,_=>af
 |[],_::_,h,_=>by simp at h
 |_::_,[],h,_=>by simp at h
 |x::a,y::b,h,hg=>by simp only[lc,Nat.add_right_cancel_iff]at h;simp only[abu,cv,bn,List.cons.injEq];rw[hg x al y al,zEs h λx hx y hy=>hg x (gq _ hx) y (gq _ hy)]
def wg{α:Type}[Inhabited α](a b:List α)(G:α->α->Option Bool)(L:Nat->Int->Option (Bool⊕Unit))
  (hL:∀K q,L (K+1) q=(bif (decide (q<((bf a:Nat):Int)))then(idx a q).bind λx=>aN (idx b q) λy=>aN (G x y) λr=>(bif (!r)then bc (bp bd)else L K (aS (q+1)))else bc (br ())))
  (hs:a.length<4611686018427387904) (hG:∀x∈a,∀y∈b,G x y=bc (pd (x=y))):
  (bif (!(decide (((bf a:Nat):Int)=((bf b:Nat):Int))))then bc bd else(L KK 0).bind (xo bc λ_=>bc bg))=bc (pd (a=b)):=by
 by_cases hl:a.length=b.length
 .rw[dt ab];simp only[bJ,cf];have:=zo2 a b G (λx y=>pd (x=y)) L hL hs hl.symm a b 0 KK rfl rfl (bP _) (vZ ab) hG;rw[show((0:Int))=((0:Nat):Int) from rfl,this]
  have hz:=zEs (g:=λx y=>pd (x=y)) hl λx _ y _=>yV
  have e:=kE hz;rw[<- e];cases (a.zip b).all (λp=>pd (p.1=p.2))<;>rfl
 .rw[df ab];simp only[cu,aH];exact aQ bc (kE ⟨λh=>(by cases h),λh=>aU (aQ bf h) hl⟩)
-- levels
mutual
def Vb:Expr->Nat
 |⟨_,_,_,_,az⟩=>nU az+1
def nU:List Expr->Nat
 |[]=>0
 |e::r=>max (Vb e) (nU r)
end
mutual
def wV:Expr->Nat
 |⟨_,_,_,_,az⟩=>An az+1
def An:List Expr->Nat
 |[]=>0
 |e::r=>wV e+An r
end
def Kh:∀e:Expr,0<wV e
 |⟨_,_,_,_,az⟩=>by rw[wV];omega
def Qg:∀l:List Expr,l.length<=An l
 |[]=>du _
 |e::r=>by rw[An,lc];have:=Qg r;have:=Kh e;omega
def zo3:∀(l:List Expr)(i:Nat),An (l.drop i)<=An l
 |l,0=>du _
 |[],i+1=>du _
 |e::r,i+1=>by rw[aa2,An];have:=zo3 r i;omega
mutual
def zEt:∀e:Expr,Vb e<=wV e
 |⟨_,_,_,_,az⟩=>by rw[Vb,wV];have:=Xk az;omega
def Xk:∀l:List Expr,nU l<=An l
 |[]=>du _
 |e::r=>by rw[nU,An];have:=zEt e;have:=Xk r;omega
end
def OL:∀{l:List Expr}{e:Expr},e∈l->wV e<=An l
 |x::r,e,h=>by
  rw[An]
  rcases bq.1 h with rfl|h
  .omega
  .have:=OL h;omega
def zEu:∀(n:Nat)(a b:Expr)(K:Nat),wV a<=n->2*n<=K->n<=1000000000->vK K a b=bc (pd (a=b)):=by
 intro n
 induction n with
 |zero=>intro a b K h;have:=Kh a;omega
 |succ n ih =>
  intro a b K h hK hn
  obtain⟨K,rfl⟩:∃k,K=k+2:=⟨K-2,ab⟩
  obtain⟨o1,n1,s1,k1,z1⟩:=a;obtain⟨o2,n2,s2,k2,z2⟩:=b;rw[wV]at h;have hz:=Qg z1
  have hl:vh (K+1) z1 z2=bc (pd (z1=z2)):=by
   rw[vh]
   refine wg z1 z2 (λx y=>vK K (Expr.mk x.Op x.N x.S x.Key x.aZ) (Expr.mk y.Op y.N y.S y.Key y.aZ)) _ (λK q=>rfl) ab λx hx y hy=>?_
   have h1:=OL hx;have:=ih x y K ab ab ab;cases x;cases y;exact this
  rw[vK];simp only[hl,aC];simp only[Ja]
  have e:pd ((⟨o1,n1,s1,k1,z1⟩:Expr)=⟨o2,n2,s2,k2,z2⟩)=(pd (o1=o2)&&(pd (n1=n2)&&(pd (s1=s2)&&(pd (k1=k2)&&pd (z1=z2))))):=by refine(kE ?_).symm;simp only[bn,yV,Expr.mk.injEq]
  rw[e];cases pd (o1=o2)<;>cases pd (n1=n2)<;>cases pd (s1=s2)<;>cases pd (k1=k2)<;>rfl
def Ki(e:Expr):Prop:=wV e<=1000000000
def zhm{a b:Expr}(h:Ki a):vK KK a b=bc (pd (a=b)):=zEu 1000000000 a b KK h (aa9 (vZ ab)) ab
def zT(e:Expr):Expr.mk e.Op e.N e.S e.Key e.aZ=e:=by cases e;rfl
def vi{p q:Prop}:pd (p/\q)=(pd p&&pd q):=(kE (by simp only[bn,yV])).symm
def zEv{a b:List Def}(hs:a.length<4611686018427387904)(hE:∀d∈a,Ki d.Body):xS a b=bc (pd (a=b)):=by
 unfold xS
 refine wg a b (λx y=>Oq (Def.mk x.aL (Expr.mk x.Body.Op x.Body.N x.Body.S x.Body.Key x.Body.aZ)) (Def.mk y.aL (Expr.mk y.Body.Op y.Body.N y.Body.S y.Body.Key y.Body.aZ))) _ (λK q=>rfl) hs λx hx y hy=>?_
 have h:=hE x hx;simp only[zT];obtain⟨n1,e1⟩:=x;obtain⟨n2,e2⟩:=y;unfold Oq;simp only[zT,zhm h,aC,Ja,Def.mk.injEq,vi];cases pd (n1=n2)<;>rfl
def zhn{a b:List ak}(hs:a.length<4611686018427387904):js a b=bc (pd (a=b)):=by
 unfold js
 refine wg a b (λx y=>bc (decide (x=y))) _ (λK q=>rfl) hs λx _ y _=>?_
 rw[Ja]
def zo4{a b:List aw}(hs:a.length<4611686018427387904):jy a b=bc (pd (a=b)):=by
 unfold jy
 refine wg a b (λx y=>bc (decide (x.aL=y.aL)&&(decide (x.N=y.N)))) _ (λK q=>rfl) hs λx _ y _=>?_
 obtain⟨n1,m1⟩:=x;obtain⟨n2,m2⟩:=y;simp only[Ja,aw.mk.injEq,vi]
def Vc{a b:List zx}(hs:a.length<4611686018427387904):xG a b=bc (pd (a=b)):=by
 unfold xG
 refine wg a b (λx y=>bc (decide (x.X=y.X)&&(decide (x.Y=y.Y)))) _ (λK q=>rfl) hs λx _ y _=>?_
 obtain⟨n1,m1⟩:=x;obtain⟨n2,m2⟩:=y;simp only[Ja,zx.mk.injEq,vi]
def aaN{a b:List zl}(hs:a.length<4611686018427387904):wR a b=bc (pd (a=b)):=by
 unfold wR
 refine wg a b (λx y=>bc (decide (x.X=y.X)&&(decide (x.Y=y.Y)&&(decide (x.Z_=y.Z_))))) _ (λK q=>rfl) hs λx _ y _=>?_
 obtain⟨n1,m1,k1⟩:=x;obtain⟨n2,m2,k2⟩:=y;simp only[Ja,zl.mk.injEq,vi]
def zsn{a b:List au}(hs:a.length<4611686018427387904)(hE:∀d∈a,d.Rows.length<4611686018427387904):xT a b=bc (pd (a=b)):=by
 unfold xT
 refine wg a b Ot _ (λK q=>rfl) hs λx hx y hy=>?_
 have h:=hE x hx;obtain⟨n1,r1,e1⟩:=x;obtain⟨n2,r2,e2⟩:=y;unfold Ot;simp only[zo4 h,aC,Ja,au.mk.injEq,vi];cases pd (n1=n2)<;>cases pd (e1=e2)<;>cases pd (r1=r2)<;>rfl
def TL{a b:Bool}:(a==b)=pd (a=b):=kE beq_iff_eq
def zyv{a b:List zM}(hs:a.length<4611686018427387904)(hE:∀d∈a,d.aA.length<4611686018427387904):xV a b=bc (pd (a=b)):=by
 unfold xV
 refine wg a b Ou _ (λK q=>rfl) hs λx hx y hy=>?_
 have h:=hE x hx;obtain⟨n1,r1,e1⟩:=x;obtain⟨n2,r2,e2⟩:=y;unfold Ou;simp only[Vc h,aC,Ja,TL,zM.mk.injEq,vi];cases pd (n1=n2)<;>cases pd (r1=r2)<;>rfl
def zEx{a b:List bD}(hs:a.length<4611686018427387904)(hE:∀d∈a,d.aA.length<4611686018427387904):xW a b=bc (pd (a=b)):=by
 unfold xW
 refine wg a b Ov _ (λK q=>rfl) hs λx hx y hy=>?_
 have h:=hE x hx;obtain⟨n1,r1,l1,e1⟩:=x;obtain⟨n2,r2,l2,e2⟩:=y;unfold Ov;simp only[Vc h,aC,Ja,bD.mk.injEq,vi];cases pd (n1=n2)<;>cases pd (r1=r2)<;>cases pd (l1=l2)<;>rfl
def zyw{a b:List av}(hs:a.length<4611686018427387904)(hE:∀d∈a,d.lB.length<4611686018427387904):xX a b=bc (pd (a=b)):=by
 unfold xX
 refine wg a b Ow _ (λK q=>rfl) hs λx hx y hy=>?_
 have h:=hE x hx;obtain⟨n1,⟨x1,y1,z1⟩,l1,e1⟩:=x;obtain⟨n2,⟨x2,ach,z2⟩,l2,e2⟩:=y;unfold Ow;simp only[aaN h,aC,Ja,av.mk.injEq,zl.mk.injEq,vi];cases pd (n1=n2)<;>cases pd (x1=x2)<;>cases pd (y1=ach)<;>cases pd (z1=z2)<;>cases pd (l1=l2)<;>rfl
def zo5{a b:zd}(h1:a.aB.length<4611686018427387904)(h2:a.Except.length<4611686018427387904)(h3:Ki a.Test):kZ a b=bc (pd (a=b)):=by
 obtain⟨a1,a2,a3,a4,a5,a6,a7,a8,a9,⟨p1,p2,p3,p4⟩,Qn,Qr,a12⟩:=a;obtain⟨b1,b2,b3,b4,b5,b6,b7,b8,b9,⟨q1,q2,q3,q4⟩,Qz,QQ,af0⟩:=b;unfold kZ;simp only[zhn h1,zhn h2,zT,zhm h3,aC,Ja,TL,zd.mk.injEq,zj.mk.injEq,vi]
 cases pd (a2=b2)<;>cases pd (a3=b3)<;>cases pd (a9=b9)<;>simp only[bJ,cu,aH,cf,aC,dA,eH,cb] <;>
 cases pd (a1=b1)<;>cases pd (a4=b4)<;>cases pd (a5=b5)<;>cases pd (a6=b6)<;>simp only[aC,aH,cf,dA,eH,cb] <;>
 cases pd (a7=b7)<;>cases pd (a8=b8)<;>simp only[aC,aH,cf,dA,eH,cb] <;>
 cases (pd (p1=q1)&&(pd (p2=q2)&&(pd (p3=q3)&&pd (p4=q4))))<;>cases pd (Qn=Qz)<;>cases pd (Qr=QQ)<;>rfl
def zyx{a b:List zd}(hs:a.length<4611686018427387904)(hE:∀d∈a,d.aB.length<4611686018427387904/\d.Except.length<4611686018427387904/\Ki d.Test):xU a b=bc (pd (a=b)):=by
 unfold xU
 refine wg a b (λx1 x2=>kZ (zd.mk x1.aL x1.aB x1.Except x1.gY x1.gW x1.hU x1.gZ x1.aM (Expr.mk x1.Test.Op x1.Test.N x1.Test.S x1.Test.Key x1.Test.aZ) x1.zj x1.Uses x1.gS x1.N) (zd.mk x2.aL x2.aB x2.Except x2.gY x2.gW x2.hU x2.gZ x2.aM (Expr.mk x2.Test.Op x2.Test.N x2.Test.S x2.Test.Key x2.Test.aZ) x2.zj x2.Uses x2.gS x2.N)) _ (λK q=>rfl) hs λx hx y hy=>?_
 obtain⟨h1,h2,h3⟩:=hE x hx;simp only[zT];exact zo5 h1 h2 h3
def ac_(p:xP):Prop:=
 (p.aF.length<4611686018427387904/\∀d∈p.aF,Ki d.Body)/\(p.Tables.length<4611686018427387904/\∀d∈p.Tables,d.Rows.length<4611686018427387904)/\(p.aB.length<4611686018427387904/\∀d∈p.aB,d.aA.length<4611686018427387904) /\
 (p.aE.length<4611686018427387904/\∀d∈p.aE,d.aB.length<4611686018427387904/\d.Except.length<4611686018427387904/\Ki d.Test)/\(p.aJ.length<4611686018427387904/\∀d∈p.aJ,d.aA.length<4611686018427387904)/\(p.aG.length<4611686018427387904/\∀d∈p.aG,d.lB.length<4611686018427387904)/\p.aK.length<4611686018427387904
def zEy{a b:xP}(h:ac_ a):L7 a b=bc (pd (a=b)):=by obtain⟨⟨d1,d2⟩,⟨t1,t2⟩,⟨z1,z2⟩,⟨r1,r2⟩,⟨c1,c2⟩,⟨v1,v2⟩,s1⟩:=h;obtain⟨afd,afg,afi,afe,afc,afh,aff,akX⟩:=a;obtain⟨afk,afn,afp,afl,afj,afo,afm,akZ⟩:=b;unfold L7;simp only[zEv d1 d2,zsn t1 t2,zyv z1 z2,zyx r1 r2,zEx c1 c2,zyw v1 v2,aaN s1,aC,Ja,xP.mk.injEq,vi];cases pd (afd=afk)<;>cases pd (afg=afn)<;>cases pd (afi=afp)<;>cases pd (afe=afl)<;>cases pd (afc=afj)<;>cases pd (afh=afo)<;>cases pd (aff=afm)<;>rfl
def Xl{α pW:Type}(l:List α)(g:α->Bool)(ok bad:pW)(L:Nat->Int->pW)
  (hL:∀K (i:Nat) x,l[i]?=bc x->L (K+1) (i:Int)=bif g x then L K ((i+1:Nat):Int)else bad) (hE:∀K,L (K+1) (l.length:Int)=ok):
  ∀(r:List α)(i K:Nat),l.drop i=r->i<=l.length->r.length<K->L K (i:Int)=bif r.all g then ok else bad
 |[],i,K,hr,hi,hK=>by
  obtain⟨K,rfl⟩:∃k,K=k+1:=⟨K-1,by simp at hK;omega⟩
  have:=drop_nil hr hi;subst this;rw[hE];rfl
 |x::r,i,K,hr,hi,hK=>by
  obtain⟨K,rfl⟩:∃k,K=k+1:=⟨K-1,by simp at hK;omega⟩
  obtain⟨h1,h2,h3⟩:=yZ hr;simp only[lc]at hK;rw[hL K i x h1,cv]
  cases g x with
  |false=>rfl
  |true=>exact Xl l g ok bad L hL hE r (i+1) K h2 ab ab
def Qh{α pW:Type}(l:List α)(g:α->Bool)(ok bad:pW)(L:Nat->Int->pW)(hs:l.length<=9223372036854775807)
  (hL:∀K (i:Nat) x,l[i]?=bc x->L (K+1) (i:Int)=bif g x then L K ((i+1:Nat):Int)else bad) (hE:∀K,L (K+1) (l.length:Int)=ok):
  L KK 0=bif l.all g then ok else bad:=Xl l g ok bad L hL hE l 0 KK rfl (bP _) (vZ ab)
def zo6{α σ pW:Type}(l:List α)(f:σ->α->σ)(fin:σ->pW)(I:Nat->σ->Prop)(L:Nat->Int->σ->pW)
  (hL:∀K (i:Nat) x s,l[i]?=bc x->I i s->L (K+1) (i:Int) s=L K ((i+1:Nat):Int) (f s x)/\I (i+1) (f s x)) (hE:∀K s,I l.length s->L (K+1) (l.length:Int) s=fin s):
  ∀(r:List α)(i K:Nat)(s:σ),l.drop i=r->i<=l.length->r.length<K->I i s->L K (i:Int) s=fin (r.foldl f s)/\I l.length (r.foldl f s)
 |[],i,K,s,hr,hi,hK,hI=>by
  obtain⟨K,rfl⟩:∃k,K=k+1:=⟨K-1,by simp at hK;omega⟩
  have:=drop_nil hr hi;subst this;exact⟨hE K s hI,hI⟩
 |x::r,i,K,s,hr,hi,hK,hI=>by
  obtain⟨K,rfl⟩:∃k,K=k+1:=⟨K-1,by simp at hK;omega⟩
  obtain⟨h1,h2,h3⟩:=yZ hr;simp only[lc]at hK;obtain⟨e1,e2⟩:=hL K i x s h1 hI;rw[e1,dB];exact zo6 l f fin I L hL hE r (i+1) K (f s x) h2 ab ab e2
def U9{α σ pW:Type}(l:List α)(f:σ->α->σ)(fin:σ->pW)(I:Nat->σ->Prop)(L:Nat->Int->σ->pW)(s:σ)(hs:l.length<4611686018427387904)(h0:I 0 s)
  (hL:∀K (i:Nat) x s,l[i]?=bc x->I i s->L (K+1) (i:Int) s=L K ((i+1:Nat):Int) (f s x)/\I (i+1) (f s x)) (hE:∀K s,I l.length s->L (K+1) (l.length:Int) s=fin s):
  L KK 0 s=fin (l.foldl f s)/\I l.length (l.foldl f s):=zo6 l f fin I L hL hE l 0 KK s rfl (bP _) (vZ ab) h0
def kG{α:Type}{l:List α}{i:Nat}{x:α}(h:l[i]?=bc x):decide ((i:Int)<(bf l:Nat))=bg:=dt (by have:=(bx.1 h).1;omega)
def xQ{α:Type}{l:List α}:decide (((bf l:Nat):Int)<(bf l:Nat))=bd:=df ab
def qi{α:Type}{l:List α}{i:Nat}{x:α}(h:l[i]?=bc x):i<l.length:=(bx.1 h).1
def Hj:Int⊕ak->ak
 |.inl n=>if n<0 then 45::32::Lib.decDigits n.natAbs else Lib.decDigits n.toNat
 |.inr s=>s
def sg(s:ak):ak:=bif s.isEmpty||decide (s.getLast?=bc 10)then s else s++[32]
def pF(s:ak)(x:Int⊕ak):ak:=sg s++Hj x
def e_(l:List (Int⊕ak)):ak:=l.flatMap λx=>32::Hj x
def zK:List (Int⊕ak)->ak
 |[]=>[59,10]
 |x::l=>Hj x++e_ l++[32,59,10]
def Good(t:ak):Prop:=t≠[]/\t.getLast?≠bc 10
def zKg{s:ak}(h:Good s):sg s=s++[32]:=by
 unfold sg
 have h1:s.isEmpty=bd:=by cases s with
  |nil=>exact aU rfl h.1
  |cons=>rfl
 rw[h1,df h.2];rfl
def y9{s t:ak}(h:Good t):Good (s++t):=by
 obtain⟨h1,h2⟩:=h;refine⟨by simp[h1],?_⟩;rw[List.getLast?_append]
 cases ht:t.getLast? with
 |none=>exact aU (List.getLast?_eq_none_iff.1 ht) h1
 |some a=>rw[ht]at h2;simpa using h2
def U_:∀{l:List (Int⊕ak)}{s:ak},Good s->(∀x∈l,Good (Hj x))->l.foldl pF s=s++e_ l/\Good (s++e_ l)
 |[],s,h,_=>by simp only[abI,e_,List.flatMap_nil,bM,true_and];exact h
 |x::l,s,h,hl=>by
  have e:pF s x=s++32::Hj x:=by rw[pF,zKg h];simp
  have hg:Good (s++32::Hj x):=by have:=y9 (s:=s++[32]) (hl x al);simpa using this
  have:=U_ (l:=l) hg (λy hy=>hl y (gq _ hy));rw[dB,e];simp only[e_,cN]at this ⊢;simpa using this
def zRm{o:Option (Bool⊕Unit)}{g r:Bool}{f:Unit->Option Bool}(h:o=bc (bif g then br ()else bp bd))(hr:g=bg->f ()=bc r):o.bind (xo bc f)=bc (g&&r):=by
 subst h
 cases g with
 |false=>rfl
 |true=>rw[aH,aC,xo,hr rfl,cb]
def zKh{o:Option Bool}{f:Option Bool}{g r:Bool}(h:o=bc g)(hr:g=bg->f=bc (!r)):(o.bind λx=>bif (!x)then bc bg else f)=bc (!(g&&r)):=by
 subst h
 cases g with
 |false=>rfl
 |true=>rw[aC,bJ,cf,hr rfl,cb]
def zRn{a:Nat}{m:Int}(n:Nat)(hm:m=(n:Int)):bc (decide ((a:Int)>m))=bc (!(decide (a<=n))):=by
 by_cases h:a<=n
 .rw[df ab,dt h];rfl
 .rw[dt ab,df h];rfl
def Xm{α:Type}(l:List α)(g:α->Bool)(L:Nat->Int->Option (Bool⊕Unit))(B:Int->Option Bool)(hs:l.length<=9223372036854775807)
  (hL:∀K q,L (K+1) q=(bif (decide (q<((bf l:Nat):Int)))then(B q).bind λr=>(bif r then bc (bp bd)else L K (aS (q+1)))else bc (br ())))
  (hB:∀(i:Nat) x,l[i]?=bc x->B (i:Int)=bc (!(g x))):L KK 0=bc (bif l.all g then br ()else bp bd):=by
 have:=Qh l g (bc (br ())) (bc (bp bd)) L hs (λK i x h=>?_) (λK=>by rw[hL,xQ];rfl)
 .rw[this];cases l.all g<;>rfl
 .have hi:=qi h;rw[hL,kG h,aH,hB i x h,aC,yw ab];cases g x<;>rfl
mutual
def JA:Expr->Bool
 |⟨_,_,s,k,az⟩=>EM az&&(decide (0<=s.length)&&decide (0<=k.length))
def EM:List Expr->Bool
 |[]=>bg
 |e::r=>JA e&&EM r
end
def zho:∀l:List Expr,EM l=l.all JA
 |[]=>by rw[EM];rfl
 |e::r=>by rw[EM,zho r,cv]
def rL(e:Expr):Bool:=decide (wV e<=5000)&&JA e
def Lr(l:List ak):Bool:=l.all (λx=>decide (0<=x.length))&&decide (l.length<=3000)
def si(r:zd):Bool:=decide (0<=r.aL.length)&&(Lr r.aB&&(Lr r.Except&&rL r.Test))
def zNi{pW:Type}(n lo:Nat)(g:Nat->Bool)(ok bad:pW)(L:Nat->Int->pW)(hL:∀K (i:Nat),lo<=i->i<n->L (K+1) (i:Int)=bif g i then L K ((i+1:Nat):Int)else bad)(hE:∀K (i:Nat),n<=i->L (K+1) (i:Int)=ok):
  ∀(m a K:Nat),lo<=a->n-a<=m->m<K->L K (a:Int)=bif pd (∀k,a<=k->k<n->g k=bg)then ok else bad
 |0,a,K,q8,h,hK=>by
  obtain⟨K,rfl⟩:∃k,K=k+1:=⟨K-1,ab⟩
  rw[hE K a ab,yV.2 (λk h1 h2=>ab)];rfl
 |m+1,a,K,q8,h,hK=>by
  obtain⟨K,rfl⟩:∃k,K=k+1:=⟨K-1,ab⟩
  by_cases ha:n<=a
  .rw[hE K a ha,yV.2 (λk h1 h2=>ab)];rfl
  .rw[hL K a q8 ab]
   cases hg:g a with
   |false =>
    have:pd (∀k,a<=k->k<n->g k=bg)=bd:=by
     cases hp:pd (∀k,a<=k->k<n->g k=bg)with
     |false=>rfl
     |true=>rw[yV.1 hp a aq ab]at hg;cases hg
    rw[this];rfl
   |true =>
    rw[aH,zNi n lo g ok bad L hL hE m (a+1) K ab ab ab]
    have:pd (∀k,a+1<=k->k<n->g k=bg)=pd (∀k,a<=k->k<n->g k=bg):=kz ⟨λh k h1 h2=>by
     by_cases hk:k=a
     .rw[hk];exact hg
     .exact h k ab h2,λh k h1 h2=>h k ab h2⟩
    rw[this]
def im(p:List zx)(i:Nat):zx:=p.getD (i % p.length) default
def GP(a b c:zx):Bool:=
 (decide (0<=a.X)&&(decide (a.X<=1048576)&&(decide (0<=a.Y)&&decide (a.Y<=1048576)))) &&
 (!(decide (a.X=b.X)==decide (a.Y=b.Y))&&!(decide (a.X=b.X)==decide (b.X=c.X)))
def GQ(p:List zx)(i:Nat):Bool:=GP (im p i) (im p (i+1)) (im p (i+2))
def zRo{α β:Type}{o:Option α}{v:α}{f:α->Option β}{r:Option β}(h:o=bc v)(h2:f v=r):o.bind f=r:=by rw[h,aC,h2]
def zEz(a b c:zx):(aN (Yd a) λx5=>(bif (!x5)then bc bg else(bif ((decide (a.X=b.X))==(decide (a.Y=b.Y)))then bc bg else(xj ⟨a,b⟩).bind λx6=>aN (xj ⟨b,c⟩) λx7=>bc (x6==x7))))=bc (!(GP a b c)):=by
 show(aN (bif (decide (0<=a.X))then(bif (decide (a.X<=1048576))then(bif (decide (0<=a.Y))then bc (decide (a.Y<=1048576))else bc bd)else bc bd)else bc bd) λx5=>(bif (!x5)then bc bg else(bif ((decide (a.X=b.X))==(decide (a.Y=b.Y)))then bc bg else(bc ((decide (a.X=b.X))==(decide (b.X=c.X)))))))=_
 unfold GP;cases decide (0<=a.X)
 .rfl
 cases decide (a.X<=1048576)
 .rfl
 cases decide (0<=a.Y)
 .rfl
 cases decide (a.Y<=1048576)
 .rfl
 cases (decide (a.X=b.X)==decide (a.Y=b.Y))<;>cases (decide (a.X=b.X)==decide (b.X=c.X))<;>rfl
def N_(a b:zx):Bool:=decide (a.X<b.X)||(decide (a.X=b.X)&&decide (a.Y<b.Y))
def NK(p:List zx)(i:Nat):Bool:=!(decide (0<i))||N_ (im p 0) (im p i)
def zYe(a b c d:zx):Bool:=decide (max (min a.X b.X) (min c.X d.X)<=min (max a.X b.X) (max c.X d.X))&&decide (max (min a.Y b.Y) (min c.Y d.Y)<=min (max a.Y b.Y) (max c.Y d.Y))
def Ge(p:List zx)(i k:Nat):Bool:=decide ((k+1) % p.length=i)||!(zYe (im p i) (im p (i+1)) (im p k) (im p (k+1)))
def AO(p:List zx):Prop:=(4<=p.length/\p.length<=60)/\(∀i,0<=i->i<p.length->(GQ p i&&NK p i)=bg)/\(∀i,0<=i->i<p.length->pd (∀k,i+2<=k->k<p.length->Ge p i k=bg)=bg)/\¬(im p 0).X=(im p 1).X
def zNj{p:List zx}{i:Nat}(h:0<p.length):idx p (((i % p.length:Nat)):Int)=bc (im p i):=EL (iN _ h)
def TB{p:List zx}{i:Nat}(h:i<p.length):idx p ((i:Nat):Int)=bc (im p i):=by
 have:=zNj (p:=p) (i:=i) ab
 rwa [eX h]at this
def zvl{i n:Nat}:Int.tmod (i:Int) (n:Int)=((i % n:Nat):Int):=rfl
def zYf{p:List zx}{i:Nat}:im p (i % p.length)=im p i:=by unfold im;rw[Nat.mod_mod]
def zRp{p:List zx}{i:Nat}:im p (i % p.length+1)=im p (i+1):=by unfold im;rw[Nat.mod_add_mod]
def Dx(p:List zx)(i:Nat):zD:=⟨im p i,im p (i+1)⟩
def zE1{p:List zx}(h0:0<p.length)(h1:p.length<=60):∃l,KV p=bc l/\l.length=p.length/\∀j<p.length,l[j]?=bc (Dx p j):=by
 have hr:(cQ p.length).length=p.length:=List.length_range
 have key:=U9 (cQ p.length) (λs i=>List.set s i (Dx p i)) (λs=>bc s) (λi s=>s.length=p.length/\∀j<i,s[j]?=bc (Dx p j)) (λK q s=>wE p ((bf p:Nat):Int) K (q,s))
  (List.replicate (bQ ((bf p:Nat):Int)) (zD.mk (zx.mk 0 0) (zx.mk 0 0))) ab ⟨af,λj hj=>ab⟩ (λK i x s hx hs=>?_) (λK s hs=>?_)
 .refine⟨_,?_,key.2.1,λj hj=>key.2.2 j ab⟩;unfold KV;rw[zt ab,aC,key.1];rfl
 .have hi:=qi hx;rw[hr]at hi
  have Sn:x=i:=by simpa[List.getElem?_range,hi]using hx.symm
  subst Sn;obtain⟨s1,s2⟩:=hs;refine⟨?_,by rw[List.length_set];exact s1,λj hj=>?_⟩
  .show wE p ((bf p:Nat):Int) (K+1) ((x:Int),s)=_
   rw[wE];simp only[dt (show(x:Int)<((bf p:Nat):Int) by omega),aH,TB hi,aC];rw[zt ab,aC,yw ab,zvl,zNj h0,aC,zt ab,aC];simp only[dD];rw[bF ab,aC];rfl
  .by_cases hjx:j=x
   .subst hjx;rw[List.getElem?_set_self ab]
   .rw[List.getElem?_set_ne (Ne.symm hjx)];exact s2 j ab
 .rw[hr,wE];simp only[xQ,cf]
def zy0(a b:zx):(HB a b).bind (λx=>bc (decide (x>=0)))=bc (!(N_ a b)):=by
 have hc:∀x y:Int,j7 x y=bc (if x<y then -1 else if x>y then 1 else 0):=λx y=>by
  unfold j7 HA;simp only[aC,decide_true,bJ,cf];by_cases h:x<y
  .rw[dt h,aP h];rfl
  .rw[df h,aO h];by_cases h2:x>y
   .rw[dt h2,aP h2];rfl
   .rw[df h2,aO h2];rfl
 have ho:∀x y:Int,Om [x,y]=bc (if x=0 then y else x):=λx y=>by
  unfold Om
  have e:KK=(KK-3)+3:=by have:=vZ (n:=10) ab;omega
  rw[e,kT];simp only[show decide ((0:Int)<((bf [x,y]:Nat):Int))=bg from rfl,aH,show idx [x,y] 0=bc x from rfl,aC];by_cases h:x=0
  .rw[dt h,aP h];simp only[bJ,cf];rw[show aS (0+1)=1 from rfl,kT];simp only[show decide ((1:Int)<((bf [x,y]:Nat):Int))=bg from rfl,aH,show idx [x,y] 1=bc y from rfl,aC];by_cases h2:y=0
   .rw[dt h2,h2];simp only[bJ,cf];rw[show aS (1+1)=2 from rfl,kT];rfl
   .rw[df h2];rfl
  .rw[df h,aO h];rfl
 unfold HB;simp only[hc,ho,aC];unfold N_;refine aQ bc ?_;by_cases h1:a.X<b.X
 .simp[h1]
 .by_cases h2:a.X>b.X
  .have:¬a.X=b.X:=ab;simp[h1,h2,this]
  .have:a.X=b.X:=ab;by_cases h3:a.Y<b.Y
   .simp[this,h3]
   .by_cases h4:a.Y>b.Y
    .simp[this,h3,h4]
    .simp[this,h3,h4]
def zvm{p:Prop}(h:¬p):pd p=bd:=(kE (b:=bd) ⟨λh=>(by cases h),λh2=>aU h2 h⟩).symm
def X4(n:Nat)(g:Nat->Bool)(L:Nat->Int->Option (Bool⊕Unit))(a:Nat)(hn:n<4611686018427387904)(hL:∀K (i:Nat),a<=i->i<n->L (K+1) (i:Int)=bif g i then L K ((i+1:Nat):Int)else bc (bp bd))(hE:∀K (i:Nat),n<=i->L (K+1) (i:Int)=bc (br ())):
  L KK (a:Int)=bc (bif pd (∀k,a<=k->k<n->g k=bg)then br ()else bp bd):=by rw[zNi n a g _ _ L hL hE n a KK aq ab (vZ ab)];cases pd (∀k,a<=k->k<n->g k=bg)<;>rfl
def We{o:Option (Bool⊕Unit)}{g r:Prop}{f:Unit->Option Bool}(h:o=bc (bif pd g then br ()else bp bd))(hr:g->f ()=bc (pd r)):o.bind (xo bc f)=bc (pd (g/\r)):=by
 rw[vi]
 exact zRm h λhg=>hr (yV.1 hg)
def X5{p:List zx}:wF p=bc (pd (AO p)):=by
 unfold wF UO;by_cases hh:4<=p.length/\p.length<=60
 .obtain⟨h4,mU⟩:=hh;obtain⟨l,e1,e2,e3⟩:=zE1 (p:=p) ab mU
  have hl:∀j<p.length,idx l (j:Int)=bc (Dx p j):=λj hj=>zW (e3 j hj)
  rw[df (show ¬((bf p:Nat):Int)<4 by omega),df (show ¬((bf p:Nat):Int)>60 by omega),cf,aC,cf,e1,aC,LR];have hp:pd (AO p)=pd ((∀i,0<=i->i<p.length->(GQ p i&&NK p i)=bg)/\(∀i,0<=i->i<p.length->pd (∀k,i+2<=k->k<p.length->Ge p i k=bg)=bg)/\¬(im p 0).X=(im p 1).X):=kz ⟨λh=>h.2,λh=>⟨⟨h4,mU⟩,h⟩⟩;rw[hp,e2]
  refine We ?_ λ_=>We ?_ λ_=>?_
  .refine X4 p.length (λi=>GQ p i&&NK p i) (jM p l (bf p:Nat)) 0 ab (λK i _ hi=>?_) (λK i hi=>?_)
   .rw[jM];simp only[dt (show(i:Int)<((bf p:Nat):Int) by omega),aH,hl i hi,aC,e2];rw[zt ab,aC,yw ab,zvl,hl _ (iN _ ab)];rw[show Dx p ((i+1) % p.length)=Dx p (i+1) by unfold Dx;rw[zYf,zRp],aC];have h0:idx p 0=bc (im p 0):=TB (p:=p) (i:=0) ab;refine zRo (zEz (im p i) (im p (i+1)) (im p (i+2))) ?_;unfold GQ NK;cases GP (im p i) (im p (i+1)) (im p (i+2))
    .rfl
    simp only[bJ,cf,cb];by_cases D9:0<i
    .rw[dt (show(i:Int)>0 by omega),dt D9,aH,h0,TB hi];simp only[aC,zy0,bJ,aaZ];cases N_ (im p 0) (im p i)<;>rfl
    .rw[df (show ¬(i:Int)>0 by omega),df D9];rfl
   .rw[jM,df ab];rfl
  .refine X4 p.length (λi=>pd (∀k,i+2<=k->k<p.length->Ge p i k=bg)) (jO l (bf p:Nat)) 0 ab (λK i _ hi=>?_) (λK i hi=>?_)
   .rw[jO,dt (show(i:Int)<((bf p:Nat):Int) by omega),aH,yv ab ab,show((i:Int)+2)=((i+2:Nat):Int) by omega];rw[X4 p.length (λk=>Ge p i k) (jN l (i:Int) (bf p:Nat)) (i+2) ab (λK k q8 hk=>?_) (λK k hk=>?_),yw ab]
    .cases pd (∀k,i+2<=k->k<p.length->Ge p i k=bg)<;>rfl
    .rw[jN,e2,dt (show(k:Int)<((bf p:Nat):Int) by omega),aH,yv (n:=(i:Int)+_) ab ab,yv ab ab,hl i hi,hl k hk]
     have hm:decide ((i:Int)+((bf p:Nat):Int)-(k:Int)>1)=!(decide ((k+1) % p.length=i)):=by
      by_cases mv:k+1=p.length
      .rw[mv,Nat.mod_self];by_cases D9:0=i
       .rw[dt D9,df ab];rfl
       .rw[df D9,dt ab];rfl
      .rw[eX ab];rw[df (show ¬k+1=i by omega),dt ab];rfl
     rw[hm];unfold Ge;cases decide ((k+1) % p.length=i)
     .simp only[cu,aH,aC,aaZ]
      show(aN (bif (decide (max (min (im p i).X (im p (i+1)).X) (min (im p k).X (im p (k+1)).X)<=min (max (im p i).X (im p (i+1)).X) (max (im p k).X (im p (k+1)).X)))then bc (decide (max (min (im p i).Y (im p (i+1)).Y) (min (im p k).Y (im p (k+1)).Y)<=min (max (im p i).Y (im p (i+1)).Y) (max (im p k).Y (im p (k+1)).Y)))else bc bd) λx4=>bc x4).bind _=_
      rw[kr,aC,aC,yw ab];unfold zYe;cases (decide (max (min (im p i).X (im p (i+1)).X) (min (im p k).X (im p (k+1)).X)<=min (max (im p i).X (im p (i+1)).X) (max (im p k).X (im p (k+1)).X))&&decide (max (min (im p i).Y (im p (i+1)).Y) (min (im p k).Y (im p (k+1)).Y)<=min (max (im p i).Y (im p (i+1)).Y) (max (im p k).Y (im p (k+1)).Y)))<;>rfl
     .rw[yw ab];rfl
    .rw[jN,e2,df ab];rfl
   .rw[jO,df ab];rfl
  .have:=hl 0 ab;rw[show((0:Nat):Int)=0 from rfl]at this;rw[this,aC,xj,aC];exact aQ bc (kE (by simp[Dx]))
 .rw[zvm (λh=>hh h.1)];by_cases h4:p.length<4
  .rw[dt (show((bf p:Nat):Int)<4 by omega)];rfl
  .rw[df (show ¬((bf p:Nat):Int)<4 by omega),dt (show((bf p:Nat):Int)>60 by omega)];rfl
def zRq:∀s<64,∀k<6,decide ((IntKind.i64.wrap ((cM IntKind.i64.bits (Int.fdiv (s:Nat) (2 ^ (min (bQ (k:Nat)) IntKind.i64.bits))) &&& cM IntKind.i64.bits 1).toNat:Int))=0)=!(dK s k):=ah
def zRr:∀s<64,∀k<6,(IntKind.i64.wrap ((cM IntKind.i64.bits (s:Nat) ||| cM IntKind.i64.bits (aS (1*2 ^ (min (bQ (k:Nat)) IntKind.i64.bits)))).toNat:Int))=((s ||| 2 ^ k:Nat):Int):=ah
def zYg:∀s<64,∀k<6,s ||| 2 ^ k<64/\0<s ||| 2 ^ k:=ah
def th:Nat->Nat->List ar->Except EE (Nat×List ar)
 |0,_,_=>sK
 |n+1,set,r=>match H9 (eP r).Text sy with
  |none=>if 0<set then .ok (set,r)else .error (rf r 14)
  | some k=>if 0<set/\(eP r).aM≠0 then .ok (set,r)else if dK set k then .error (rf r 5)else if(eP r).aM=0 then th n (set ||| 2 ^ k) r.tail else .error (rf r 14)
def zNk{t:ak}{k:Nat}(h:H9 t sy=bc k):k<6:=(bx.1 (V8 h)).1
def akn{b:BB}:∀(n:Nat)(r:List ar)(set K:Nat),St b.l r->r.length<n->n<=K->set<64->Fh b.l (th n set r) (A2 b K (zZ b.l r,(set:Int))) (A3 b K (zZ b.l r,(set:Int))) (λv i=>((v:Int),i)):=by
 intro n
 induction n with
 |zero=>intro r set K hs hn;omega
 |succ n ih =>
  intro r set K hs hn hK Rv
  obtain⟨K,rfl⟩:∃k,K=k+1:=⟨K-1,ab⟩
  have a0:At { b with i:=zZ b.l r } r:=we rfl rfl hs;have mu:=U8 a0 Qf ae
  have RM:=λc e=>a0.check c e
  rw[th,A2,A3];simp only[a0.next,aC,zvk Qf (show sy.length<1000 by decide)]
  cases hf:H9 (eP r).Text sy with
  |none =>
   dsimp only;rw[show decide (Kd bh<0)=bg from rfl];by_cases h0:0<set
   .rw[aP h0,dt (show((set:Int))>0 by omega)];exact⟨rfl,rfl,hs⟩
   .rw[aO h0,df (show ¬((set:Int))>0 by omega)];have h1:=RM bg 5;rw[show Vl bg 5 r=.ok ((),r) from rfl]at h1;unfold oQ at mu;rw[hf]at mu
    have h2:xe { b with i:=zZ b.l r } zi=bh/\vJ { b with i:=zZ b.l r } zi=bc (rf r 14):=by
     by_cases hk:(eP r).aM=0
     .rw[aP hk]at mu;exact mu
     .rw[aO hk]at mu;exact mu
    simp only[aH,cf,aC];rw[h1.1,h1.2.1];simp only[aC,er,xo,h2.1,h2.2];exact⟨rfl,rfl⟩
  |some k =>
   have Iu:=zNk hf;dsimp only;have e0:decide (Kd (bc k)<0)=bd:=df (show ¬((k:Int))<0 by omega);have e1:(ea (0<=Kd (bc k)))=bc ():=zt (show(0:Int)<=(k:Int) by omega);rw[e0,e1];by_cases hq:0<set/\(eP r).aM≠0
   .rw[aP hq,dt (show((set:Int))>0 by omega),df hq.2];exact⟨rfl,rfl,hs⟩
   .rw[aO hq]
    have e2:((bif decide ((set:Int)>0)then(bif bd then bc bg else bc (!(decide ((eP r).aM=0))))else bc bd))=bc bd:=by
     by_cases h0:0<set
     .have hk:(eP r).aM=0:=Classical.byContradiction λhh=>hq ⟨h0,hh⟩
      rw[dt (show((set:Int))>0 by omega),dt hk];rfl
     .rw[df (show ¬((set:Int))>0 by omega)];rfl
    rw[e2];simp only[aC,cf];have e3:Kd (bc k)=((k:Nat):Int):=rfl;rw[e3,zRq set Rv k Iu]
    cases hb:dK set k with
    |true =>
     have h1:=RM bd 5;rw[show Vl bd 5 r=.error (rf r 5) from rfl]at h1;rw[bJ,h1.1,h1.2];exact⟨rfl,rfl⟩
    |false =>
     have h1:=RM bg 5;rw[show Vl bg 5 r=.ok ((),r) from rfl]at h1;rw[cu,h1.1,h1.2.1];simp only[aC,er,xo,aO (show ¬(bd=bg) by simp)];unfold oQ at mu;by_cases hk:(eP r).aM=0
     .rw[aP hk,hf]at mu;rw[aP hk,mu.1,mu.2.1];have g:=zYg set Rv k Iu;simp only[aC,er];rw[zt (show(0:Int)<=(k:Int) by omega),aC,aC,zRr set Rv k Iu];have:=Xi hs.wf;exact ih r.tail _ K (hs.tail ab) ab ab g.1
     .rw[aO hk]at mu;rw[aO hk,mu.1,mu.2];exact⟨rfl,rfl⟩
def zYh{b:BB}{r:List ar}(h:At b r):RT b.l (th (r.length+1) 0 r) (LG b) (O9 b) (λv i=>((v:Int),i)):=by unfold LG O9;rw[h.at_];exact(akn (b:={ b with i:=0 }) (r.length+1) r 0 KK h.st (cT _) (Uv h.st) ae).rt
-- directions of the sun
def LJ{c:Bool}{e:Int}{r r2:List ar}{u:Unit}(h:Vl c e r=.ok (u,r2)):r2=r/\c=bg:=by
 unfold Vl at h;split at h
 .rename_i hc;cases h;exact⟨rfl,hc⟩
 .cases h
def zE2:∀(n:Nat)(e:Expr)(K:Nat),wV e<=n->n<=K->n<=1000000000->j5 K e=bc ((Vb e:Nat):Int):=by
 intro n
 induction n with
 |zero=>intro e K h;have:=Kh e;omega
 |succ n ih =>
  intro e K h hK hn
  obtain⟨K,rfl⟩:∃k,K=k+1:=⟨K-1,ab⟩
  obtain⟨op,ak3,ak4,kk,az⟩:=e;rw[wV]at h
  have loop:∀(l:List Expr)(i Q m:Nat),az.drop i=l->i<=az.length->l.length<Q->m<=1000000000->kS (j5 K) az (az.length:Int) Q ((m:Int),(i:Int))=bc ((max m (nU l):Nat):Int):=by
   intro l
   induction l with
   |nil =>
    intro i Q m hd hi hQ hm
    obtain⟨Q,rfl⟩:∃k,Q=k+1:=⟨Q-1,ab⟩
    have:=drop_nil hd hi;rw[kS,df (show ¬((i:Int)<(az.length:Int)) by omega)];simp[nU]
   |cons a l ihl =>
    intro i Q m hd hi hQ hm
    obtain⟨Q,rfl⟩:∃k,Q=k+1:=⟨Q-1,ab⟩
    obtain⟨h1,h2,h3⟩:=yZ hd;simp only[lc]at hQ
    have Sc:wV a+An l<=n:=by have:=zo3 az i;rw[hd,An]at this;omega
    have hlen:=Qg az;have hla:=zEt a;rw[kS,dt (show((i:Int)<(az.length:Int)) by omega),aH,zW h1,aC,show Expr.mk a.Op a.N a.S a.Key a.aZ=a by cases a;rfl,ih a K ab ab ab,aC,yw ab];have e:max (m:Int) ((Vb a:Nat):Int)=((max m (Vb a):Nat):Int):=ab;simp only;rw[e,ihl (i+1) Q (max m (Vb a)) h2 ab ab ab,nU,Nat.max_assoc]
  have hlen:=Qg az;have rQ:=Xk az;rw[j5,Vb];have:=loop az 0 KK 0 rfl ab (vZ ab) ab;rw[show(((0:Nat):Int))=(0:Int) from rfl]at this;simp only;rw[this,aC,Nat.zero_max,yv ab ab];rfl
-- expressions
set_option maxRecDepth 100000
-- an expression has no more nodes than what was read has tokens
def Pe{op:Int}{a b:Expr}:wV (QG op a b)=wV a+wV b+1:=by unfold QG;rw[wV,An,An,An];omega
def zE3:∀(n:Nat),(∀(lv:Nat)(r:List ar),lv<=8->r.length<n->gm r->∀e r2,DE lv r=.ok (e,r2)->wV e+r2.length<=r.length)/\(∀(lv:Nat)(e:Expr)(r:List ar),lv<8->r.length<n->gm r->∀e2 r2,LP lv e r=.ok (e2,r2)->wV e2+r2.length<=wV e+r.length):=by
 intro n
 induction n with
 |zero=>exact⟨λ_ _ _ h=>ab,λ_ _ _ _ h=>ab⟩
 |succ n ih =>
  have zq:∀(lv:Nat)(e:Expr)(r:List ar),lv<8->r.length<n+1->gm r->∀e2 r2,LP lv e r=.ok (e2,r2)->wV e2+r2.length<=wV e+r.length:=by
   intro lv e r rQ hn hr e2 r2 h;rw[J4 hr]at h;split at h
   .cases h;omega
   .rename_i op iS;obtain⟨o,ho,_⟩:=Kg iS;have ht:=zE hr (kv ho).1;obtain⟨a,r1,h1,h2⟩:=yf h;have g:=ht.lt;have ha:=wU ht.wf h1;have g1:=ha.lt;have k1:=ih.1 (lv+1) _ ab ab ht.wf _ _ h1;split at h2
    .cases h2;rw[Pe];omega
    .have:=ih.2 lv _ _ rQ ab ha.wf _ _ h2;rw[Pe]at this;omega
  refine⟨λlv=>?_,zq⟩
  have key:∀(k lv:Nat),8-lv=k->lv<=8->∀(r:List ar),r.length<n+1->gm r->∀e r2,DE lv r=.ok (e,r2)->wV e+r2.length<=r.length:=by
   intro k
   induction k with
   |zero =>
    intro lv hk hl r hn hr e r2 h;obtain rfl:lv=8:=ab;rw[Bl hr]at h;unfold Wc at h;split at h
    .obtain⟨a,r1,h1,h2⟩:=yf h;cases h2;have:=(OJ hr h1).lt;rw[wV,An];omega
    .split at h
     .rename_i hb;have ht:=zE hr (zo hb);obtain⟨a,r1,h1,h2⟩:=yf h;obtain⟨b,r3,h3,h4⟩:=yf h2;cases h4;have q1:=ku ht.wf h1;have q2:=ku q1.wf h3;have:=ht.lt;have:=q1.lt;have:=q2.lt;rw[wV,An];omega
     .split at h
      .rename_i hb;have ht:=zE hr (zo hb);obtain⟨a,r1,h1,h2⟩:=yf h;cases h2;have:=ht.lt;have:=(ku ht.wf h1).lt;rw[wV,An];omega
      .split at h
       .rename_i hb;have ht:=zE hr (zo hb);obtain⟨a,r1,h1,h2⟩:=yf h;obtain⟨b,r3,h3,h4⟩:=yf h2;cases h4;have g:=ht.lt;have q1:=ih.1 0 _ ab ab ht.wf _ _ h1;have:=(wT (wU ht.wf h1).wf h3).lt;omega
       .obtain⟨a,r1,h1,h2⟩:=yf h;cases h2;have:=(ku hr h1).lt;rw[wV,An];omega
   |succ k II =>
    intro lv hk hl r hn hr e r2 h;rw[BC ab hr]at h;split at h
    .rename_i hb;unfold B8 at h;have ht:=zE hr (zo hb.2);have g:=ht.lt;obtain⟨a,r1,h1,h⟩:=yf h;obtain⟨u,r3,h3,h⟩:=yf h;obtain⟨b,r4,h4,h⟩:=yf h;obtain⟨u,r5,h5,h⟩:=yf h;obtain⟨c,r6,h6,h⟩:=yf h;cases h;have w1:=wU ht.wf h1;have w3:=wT w1.wf h3;have w4:=wU w3.wf h4;have w5:=wT w4.wf h5;have:=w1.lt;have:=w3.lt;have:=w4.lt;have:=w5.lt;have q1:=ih.1 0 _ ab ab ht.wf _ _ h1;have q4:=ih.1 0 _ ab ab w3.wf _ _ h4;have q6:=ih.1 0 _ ab ab w5.wf _ _ h6;rw[wV,An,An,An,An];omega
    .split at h
     .rename_i hb;have ht:=zE hr (zo hb.2);have g:=ht.lt;obtain⟨a,r1,h1,h⟩:=yf h;cases h;have q1:=ih.1 3 _ ab ab ht.wf _ _ h1;rw[wV,An,An];omega
     .split at h
      .rename_i hb;have ht:=zE hr (zo hb.2);have g:=ht.lt;obtain⟨a,r1,h1,h⟩:=yf h;cases h;have q1:=ih.1 7 _ ab ab ht.wf _ _ h1;rw[wV,An,An];omega
      .obtain⟨a,r1,h1,h⟩:=yf h;have q1:=II (lv+1) ab ab r hn hr _ _ h1;have w1:=wU hr h1;have:=w1.lt;have:=ih.2 lv a r1 ab ab w1.wf _ _ h;omega
  exact λr hl=>key _ lv rfl hl r
def zYi{lv:Nat}{r r2:List ar}{e:Expr}(hl:lv<=8)(hr:gm r)(h:DE lv r=.ok (e,r2)):wV e+r2.length<=r.length:=(zE3 (r.length+1)).1 lv r hl (cT _) hr e r2 h
def zo8{l r r2:List ar}{e:Expr}(hs:St l r)(h:DE 0 r=.ok (e,r2)):j5 KK e=bc ((Vb e:Nat):Int):=by have h1:=zYi ab hs.wf h;have h2:=hs.lt;have h3:=hs.len;have h4:=Zf;exact zE2 1000000 e KK ab ab ab
section
variable{b:BB}{r:List ar}{L:List ak}
end
def Di(r:List ar):Except EE (Def×List ar):=aD (ja r) λs r=>aD (vd uy r) λ_ r=>aD (DE 0 r) λe r=>aD (se (decide (Vb e<=12)) 6 r) λ_ r=>.ok (Def.mk s e,r)
noncomputable def Dz(over:Bool)(r:List ar):Except EE (zM×List ar):=aD (ja r) λs r=>aD (qV (r.length+1) [] r) λc r=>aD (se (pd (AO c)) 10 r) λ_ r=>.ok (zM.mk s over c,r)
section
variable{b:BB}{r:List ar}
def zE4(h:At b r)(h0:b.n0=[])(hb:b.D=[]):RT b.l (Di r) (A1 b) (KX b) (λd i=>(i,[d],[[(d.aL,bg)]])):=by
 unfold A1 KX Di
 refine(zRh h h0).bind λs r1 h1 iQ=>?_
 dsimp only;have a1:At { b with i:=zZ b.l r1,n0:=[[(s,bg)]] } r1:=we rfl rfl iQ
 refine(a1.want uy).bind λu r2 h2 lu=>?_
 have a2:At { b with i:=zZ b.l r2,n0:=[[(s,bg)]] } r2:=we rfl rfl lu
 refine a2.expr.bind λe r3 h3 rA=>?_
 have a3:At { b with i:=zZ b.l r3,n0:=[[(s,bg)]] } r3:=we rfl rfl rA;simp only[fE,zT];rw[zo8 lu h3,aC,aC,show decide (((Vb e:Nat):Int)<=12)=decide (Vb e<=12) from yI ab]
 refine(TK a3 (decide (Vb e<=12)) 6).bind λu r4 h4 rB=>?_
 rw[zt (by rw[hb];simp only[la,lc,bN];omega),aC,aC];rw[hb];exact⟨rfl,rfl,rB⟩
end
def nK{α:Type}(t:ak)(d:α)(f:List ar->Except EE (α×List ar))(r:List ar):Except EE (α×List ar):=if fK t r then f r.tail else .ok (d,r)
def rM(t:ak)(r:List ar):List ar:=if fK t r then r.tail else r
abbrev BD:=Int×Expr×zj×Int×Int×Int
def aaV(v:BD)(i:Int):Int×Int×Int×Int×ak×ak×List Expr×Int×Int×Int×Int×Int×Int×Int:=(i,v.1,v.2.1.Op,v.2.1.N,v.2.1.S,v.2.1.Key,v.2.1.aZ,v.2.2.1.lz,v.2.2.1.ly,v.2.2.1.ln,v.2.2.1.Den,v.2.2.2.1,v.2.2.2.2.1,v.2.2.2.2.2)
def y_:Expr:=Expr.mk 0 0 [] [] []
def C3:zj:=zj.mk 0 0 0 0
def TD(r:List ar):Except EE (BD×List ar):=aD (Jz 0 3 r) λa r=>aD (vd qD r) λ_ r=>aD (Jz 0 4096 r) λb r=>aD (vd wB r) λ_ r=>aD (Jz 0 4096 r) λc r=>aD (Jz 1 4096 r) λd r=>aD (vd z8 r) λ_ r=>.ok ((1,y_,zj.mk a b c d,0,0,0),r)
def Uw(r:List ar):Except EE (BD×List ar):=aD (th (r.length+1) 0 r) λs r=>aD (vd z8 r) λ_ r=>.ok ((2,y_,C3,((s:Nat):Int),0,0),r)
def TE(r:List ar):Except EE (BD×List ar):=aD (oQ sy r) λa r=>aD (oQ sy r) λb r=>aD (Jz 0 1048576 r) λn r=>aD (vd z8 r) λ_ r=>.ok ((3,y_,C3,a,b,n),r)
def Ux(r:List ar):Except EE (BD×List ar):=aD (DE 0 r) λe r=>aD (se (decide (Vb e<=12)) 6 r) λ_ r=>.ok ((0,e,C3,0,0,0),r)
def Wf(r:List ar):Except EE (BD×List ar):=if fK jh r then TD r.tail else if fK kH r then Uw r.tail else if fK jg r then TE r.tail else Ux r
def DA(r:List ar):Except EE (zd×List ar):=aD (ja r) λs r=>aD (nK Z9 [] YB r) λz r=>aD (nK yx [] YB r) λx r=>aD (nK wP 0 (Jz 0 1073741824) r) λf r=>aD (nK xi 0 (Jz (f+1) 1073741824) r) λu r=>aD (nK xp 0 (Jz 0 1073741824) r) λg r=>aD (vd wQ (rM yB r)) λ_ r2=>aD (Wf r2) λb r3=>.ok (zd.mk s z x f u g (fK yB r) b.1 b.2.1 b.2.2.1 b.2.2.2.1 b.2.2.2.2.1 b.2.2.2.2.2,r3)
def zRu{lo hi n:Int}{r r2:List ar}(h:Jz lo hi r=.ok (n,r2)):lo<=n/\n<=hi:=by
 unfold Jz at h;split at h
 .split at h
  .rename_i hh;cases h;exact hh
  .cases h
 .cases h
def zKj{lo hi n:Int}{t:ak}{r r2:List ar}(hl:lo<=0/\0<=hi)(h:nK t 0 (Jz lo hi) r=.ok (n,r2)):lo<=n/\n<=hi:=by
 unfold nK at h;split at h
 .exact zRu h
 .cases h;exact hl
section
variable{b:BB}{r:List ar}{L:List ak}
def Me{α:Type}{t:ak}{d:α}{f:List ar->Except EE (α×List ar)}{sf:Int->Option (α×Int)}{pf:Int->Option EE}(h:At b r)(hf:fK t r=bg->RT b.l (f r.tail) (sf (zZ b.l r.tail)) (pf (zZ b.l r.tail)) (λv i=>(v,i))):
  RJ b.l (nK t d f r) (aN (zL b.l b.i t) λx3=>(bif x3.1 then(sf x3.2).bind λx4=>bc (x4.2,x4.1)else bc (x3.2,d))) (aN (zL b.l b.i t) λx4=>(bif x4.1 then(er (pf x4.2) (λx5=>bc (bp x5)) (aN (sf x4.2) λx6=>bc (br (x6.2,x6.1))))else bc (br (x4.2,d)))) (λv i=>(i,v)):=by
 unfold nK;rw[h.has,aC,aC]
 cases hb:fK t r with
 |true =>
  simp only[if_true,aH]
  have:=(hf hb).rj (g:=λv r=>.ok (v,r)) (s2:=λx4=>bc (x4.2,x4.1)) (p2:=λx6=>bc (br (x6.2,x6.1))) (fj:=λv i=>(i,v)) λv r1 h1 hs=>⟨rfl,rfl,hs⟩
  rw[L_]at this;exact this
 |false =>
  simp only[aO (show ¬(bd=bg) by simp),cf];exact⟨rfl,rfl,h.st⟩
def zRv{l:List ar}{t:ak}(h:St l r):St l (rM t r)/\(if fK t r then zZ l r.tail else zZ l r)=zZ l (rM t r):=by
 unfold rM;split
 .rename_i hb;exact⟨h.tail (zo hb),rfl⟩
 .exact⟨h,rfl⟩
def zRw(h:At b r)(h0:b.n3=[])(hb:b.R=[]):RT b.l (DA r) (HD b) (VV b) (λd i=>(i,[d],[[(d.aL,bg)]])):=by
 unfold HD VV DA
 refine(zRj h h0).bind λs r1 h1 iQ=>?_
 dsimp only;have a1:At { b with i:=zZ b.l r1,n3:=[[(s,bg)]] } r1:=we rfl rfl iQ
 refine(Me (t:=Z9) (d:=[]) (f:=YB) (sf:=λi=>uC { b with i:=i,n3:=[[(s,bg)]] }) (pf:=λi=>HG { b with i:=i,n3:=[[(s,bg)]] }) a1 λhb=>zEr (we rfl rfl (iQ.tail (zo hb)))).E9 λz r2 h2 lu=>?_
 have a2:At { b with i:=zZ b.l r2,n3:=[[(s,bg)]] } r2:=we rfl rfl lu
 refine(Me (t:=yx) (d:=[]) (f:=YB) (sf:=λi=>uC { b with i:=i,n3:=[[(s,bg)]] }) (pf:=λi=>HG { b with i:=i,n3:=[[(s,bg)]] }) a2 λhb=>zEr (we rfl rfl (lu.tail (zo hb)))).E9 λx r3 h3 rA=>?_
 have a3:At { b with i:=zZ b.l r3,n3:=[[(s,bg)]] } r3:=we rfl rfl rA
 refine(Me (t:=wP) (d:=0) (f:=Jz 0 1073741824) (sf:=λi=>zr b.l (i) 0 1073741824) (pf:=λi=>zU b.l (i) 0 1073741824) a3 λhb=>(we rfl rfl (rA.tail (zo hb)):At { b with i:=zZ b.l r3.tail,n3:=[[(s,bg)]] } r3.tail).number 0 1073741824).E9 λf r4 h4 rB=>?_
 have hf:=zKj ab h4;have a4:At { b with i:=zZ b.l r4,n3:=[[(s,bg)]] } r4:=we rfl rfl rB;dsimp only;rw[yv (n:=f+1) ab ab]
 refine(Me (t:=xi) (d:=0) (f:=Jz (f+1) 1073741824) (sf:=λi=>zr b.l (i) (f+1) 1073741824) (pf:=λi=>zU b.l (i) (f+1) 1073741824) a4 λhb=>(we rfl rfl (rB.tail (zo hb)):At { b with i:=zZ b.l r4.tail,n3:=[[(s,bg)]] } r4.tail).number (f+1) 1073741824).E9 λu r5 h5 B4=>?_
 have a5:At { b with i:=zZ b.l r5,n3:=[[(s,bg)]] } r5:=we rfl rfl B4
 refine(Me (t:=xp) (d:=0) (f:=Jz 0 1073741824) (sf:=λi=>zr b.l (i) 0 1073741824) (pf:=λi=>zU b.l (i) 0 1073741824) a5 λhb=>(we rfl rfl (B4.tail (zo hb)):At { b with i:=zZ b.l r5.tail,n3:=[[(s,bg)]] } r5.tail).number 0 1073741824).E9 λg r6 h6 M9=>?_
 have a6:At { b with i:=zZ b.l r6,n3:=[[(s,bg)]] } r6:=we rfl rfl M9;dsimp only;obtain⟨Eb,e7⟩:=zRv (t:=yB) M9;rw[a6.has,aC,aC];dsimp only;rw[e7];have a7:At { b with i:=zZ b.l (rM yB r6),n3:=[[(s,bg)]] } (rM yB r6):=we rfl rfl Eb
 refine(a7.want wQ).bind λw r8 h8 IC=>?_
 have a8:At { b with i:=zZ b.l r8,n3:=[[(s,bg)]] } r8:=we rfl rfl IC
 refine RJ.E9 (fj:=aaV) (x:=Wf r8) ?_ λv ab3 h9 hs9=>?_
 .unfold Wf;rw[a8.has,aC,aC]
  cases mD:fK jh r8 with
  |true =>
   simp only[if_true,aH,TD];have s0:=IC.tail (zo mD);have b0:At { b with i:=zZ b.l r8.tail,n3:=[[(s,bg)]] } r8.tail:=we rfl rfl s0
   refine(b0.number 0 3).rj λp1 k1 _ s1=>?_
   have b1:At { b with i:=zZ b.l k1,n3:=[[(s,bg)]] } k1:=we rfl rfl s1
   refine(b1.want qD).rj λp2 k2 _ s2=>?_
   have b2:At { b with i:=zZ b.l k2,n3:=[[(s,bg)]] } k2:=we rfl rfl s2
   refine(b2.number 0 4096).rj λp3 k3 _ s3=>?_
   have b3:At { b with i:=zZ b.l k3,n3:=[[(s,bg)]] } k3:=we rfl rfl s3
   refine(b3.want wB).rj λp4 k4 _ s4=>?_
   have b4:At { b with i:=zZ b.l k4,n3:=[[(s,bg)]] } k4:=we rfl rfl s4
   refine(b4.number 0 4096).rj λp5 k5 _ s5=>?_
   have b5:At { b with i:=zZ b.l k5,n3:=[[(s,bg)]] } k5:=we rfl rfl s5
   refine(b5.number 1 4096).rj λp6 k6 _ s6=>?_
   have b6:At { b with i:=zZ b.l k6,n3:=[[(s,bg)]] } k6:=we rfl rfl s6
   exact(b6.want z8).rj λp7 k7 _ s7=>⟨rfl,rfl,s7⟩
  |false =>
   simp only[aO (show ¬(bd=bg) by simp),cf];rw[a8.has,aC,aC]
   cases lj:fK kH r8 with
   |true =>
    simp only[if_true,aH,Uw];have s0:=IC.tail (zo lj);have b0:At { b with i:=zZ b.l r8.tail,n3:=[[(s,bg)]] } r8.tail:=we rfl rfl s0
    refine(zYh b0).rj λp1 k1 _ s1=>?_
    have b1:At { b with i:=zZ b.l k1,n3:=[[(s,bg)]] } k1:=we rfl rfl s1
    exact(b1.want z8).rj λp7 k7 _ s7=>⟨rfl,rfl,s7⟩
   |false =>
    simp only[aO (show ¬(bd=bg) by simp),cf];rw[a8.has,aC,aC]
    cases hb3:fK jg r8 with
    |true =>
     simp only[if_true,aH,TE];have s0:=IC.tail (zo hb3);have b0:At { b with i:=zZ b.l r8.tail,n3:=[[(s,bg)]] } r8.tail:=we rfl rfl s0
     refine(U8 b0 Qf ae).rj λp1 k1 _ s1=>?_
     have b1:At { b with i:=zZ b.l k1,n3:=[[(s,bg)]] } k1:=we rfl rfl s1
     refine(U8 b1 Qf ae).rj λp2 k2 _ s2=>?_
     have b2:At { b with i:=zZ b.l k2,n3:=[[(s,bg)]] } k2:=we rfl rfl s2
     refine(b2.number 0 1048576).rj λp3 k3 _ s3=>?_
     have b3:At { b with i:=zZ b.l k3,n3:=[[(s,bg)]] } k3:=we rfl rfl s3
     exact(b3.want z8).rj λp7 k7 _ s7=>⟨rfl,rfl,s7⟩
    |false =>
     simp only[aO (show ¬(bd=bg) by simp),cf,Ux]
     refine a8.expr.rj λe k1 h1 s1=>?_
     have b1:At { b with i:=zZ b.l k1,n3:=[[(s,bg)]] } k1:=we rfl rfl s1;simp only[fE,zT];rw[zo8 IC h1,aC,aC,show decide (((Vb e:Nat):Int)<=12)=decide (Vb e<=12) from yI ab]
     exact(TK b1 (decide (Vb e<=12)) 6).rj λu k2 _ s2=>⟨rfl,rfl,s2⟩
 .dsimp only;rw[zt (by rw[hb];simp only[la,lc,bN];omega),aC,aC];obtain⟨v1,v2,v3,v4,v5,v6⟩:=v;rw[hb];refine⟨?_,rfl,hs9⟩;simp only[aaV,zT];rfl
end
noncomputable def ZE(r:List ar):Except EE (xP×List ar):=
 if fK zO r then aD (Di r.tail) λd r=>.ok (⟨[d],[],[],[],[],[],[],0⟩,r)
 else if fK zR r then aD (Dz bd r.tail) λz r=>.ok (⟨[],[],[z],[],[],[],[],0⟩,r)
 else if fK zu r then aD (Dz bg r.tail) λz r=>.ok (⟨[],[],[z],[],[],[],[],0⟩,r)
 else aD (DA r.tail) λx r=>.ok (⟨[],[],[],[x],[],[],[],0⟩,r)
def RP{α mC:Type}(l:List ar)(x:Except EE (α×List ar))(s:Option mC)(p:Option (EE⊕mC))(S:α->Int->mC->Prop):Prop:=match x with
 |.ok (v,r)=>(∃y,s=bc y/\p=bc (.inr y)/\S v (zZ l r) y)/\St l r
 |.error e=>s=bh/\p=bc (.inl e)
def RT.DG{α β rm mC:Type}{l:List ar}{x:Except EE (α×List ar)}{s:Option β}{p:Option EE}{f:α->Int->β}{g:α->List ar->Except EE (rm×List ar)}{s2:β->Option mC}{p2:β->Option (EE⊕mC)}{S2:rm->Int->mC->Prop}(h:RT l x s p f)(h2:∀v r,x=.ok (v,r)->St l r->RP l (g v r) (s2 (f v (zZ l r))) (p2 (f v (zZ l r))) S2):RP l (aD x g) (s.bind s2) (er p (λq=>bc (.inl q)) (s.bind p2)) S2:=by
 match x,h,h2 with
 |.error e,⟨h,h'⟩,_=>exact⟨by rw[h];rfl,by rw[h'];rfl⟩
 |.ok (v,r),⟨h,h',hs⟩,h2 =>
  have:=h2 v r rfl hs;rw[h,h'];exact this
abbrev NM:=List (List (ak×Bool))
abbrev ael:=Int×Int×Bool×List Def×List zM×List zd×List bD×NM×NM×NM×NM
def QS(v:xP)(i:Int)(y:ael):Prop:=y.1=i/\y.2.1=v.aI/\y.2.2.2.1=v.aF/\y.2.2.2.2.1=v.aB/\y.2.2.2.2.2.1=v.aE/\y.2.2.2.2.2.2.1=v.aJ
def X6{r:List ar}{t:ak}(hk:¬(eP r).aM=3):fK t r=decide ((eP r).Text=t):=by unfold fK;rw[df hk];rfl
def X7{n:Nat}{r r2:List ar}{u:Unit}(h:(aD (Vl (decide (0<n)) 6 r) λ_ r=>.ok ((),r.tail))=(.ok (u,r2):Except EE (Unit×List ar))):r2=r.tail:=by obtain⟨a,r1,h1,h2⟩:=yf h;obtain⟨rfl,_⟩:=LJ h1;cases h2;rfl
section
variable{c:BB}{r:List ar}
def Xn(hs:St c.l r)(hk:(eP r).aM=3){K:Nat}{h:Int}{hh:Bool}{D:List Def}{Z:List zM}{R:List zd}{C:List bD}{n0 n2 n3 n4:NM}{p:xP}(hp:(h,D,Z,R,C)=(p.aI,p.aF,p.aB,p.aE,p.aJ)):
  RP c.l (.ok (p,r)) (yo c (K+1) (zZ c.l r,h,hh,D,Z,R,C,n0,n2,n3,n4)) (yp c (K+1) (zZ c.l r,h,hh,D,Z,R,C,n0,n2,n3,n4)) QS:=by rw[yo,yp];have e1:=Kf hs;have e2:zA c.l ((zb c (zZ c.l r,h,hh,D,Z,R,C,n0,n2,n3,n4)).i)=bc ((eP r).aM,(eP r).Text,(eP r).N,(eP r).Pos):=e1;have e3:zA c.l ((za c (zZ c.l r,h,hh,D,Z,R,C,n0,n2,n3,n4)).i)=bc ((eP r).aM,(eP r).Text,(eP r).N,(eP r).Pos):=e1;rw[e2,e3,aC,aC];simp only[Prod.mk.injEq]at hp;obtain⟨rfl,rfl,rfl,rfl,rfl⟩:=hp;dsimp only;rw[hk,dt rfl];exact⟨⟨_,rfl,rfl,rfl,rfl,rfl,rfl,rfl,rfl⟩,hs⟩
def zYj(hs:St c.l r)(hk:(eP r).aM≠3)(hw:(eP r).Text=yn∨(eP r).Text=zO∨(eP r).Text=zR∨(eP r).Text=zu)(hd:∀p r2,ZE r=.ok (p,r2)->(eP r2).aM=3)(K:Nat):
  RP c.l (ZE r) (yo c (K+2) (zZ c.l r,0,bd,[],[],[],[],[],[],[],[])) (yp c (K+2) (zZ c.l r,0,bd,[],[],[],[],[],[],[],[])) QS:=by
 rw[yo,yp,show za=zb from rfl];have a0:At { (zb c (zZ c.l r,0,bd,[],[],[],[],[],[],[],[]))with l:=c.l,T:=c.T,V:=c.V,S:=c.S,n1:=c.n1,n5:=c.n5 } r:=we rfl rfl hs;have e1:zA c.l ((zb c (zZ c.l r,0,bd,[],[],[],[],[],[],[],[])).i)=bc ((eP r).aM,(eP r).Text,(eP r).N,(eP r).Pos):=Kf hs;have e2:Ad c.l ((zb c (zZ c.l r,0,bd,[],[],[],[],[],[],[],[])).i) zu=bc (fK zu r):=NJ hs zu;simp only[e1,e2,aC];rw[df hk,cu,aH,aH];unfold ZE at hd ⊢;simp only[X6 hk]at hd ⊢
 rcases hw with hw|hw|hw|hw<;>simp only[hw]at hd ⊢
 .simp only[show decide (yn=zO)=bd by decide,show decide (yn=yG)=bd by decide,show decide (yn=zR)=bd by decide,show decide (yn=zu)=bd by decide,decide_true,aH,cf,cr,if_false]at hd ⊢
  show RP c.l (aD (aD (Vl (decide (0<200)) 6 r) λ_ r=>.ok ((),r.tail)) λ_ r1=>aD (DA r1) λx r=>.ok ((⟨[],[],[],[x],[],[],[],0⟩:xP),r)) _ _ QS
  refine(X3 a0 0 200 hk).DG λu r1 h1 iQ=>?_
  obtain rfl:=X7 h1
  refine(zRw (we rfl rfl iQ:At { (zb c (zZ c.l r,0,bd,[],[],[],[],[],[],[],[]))with l:=c.l,i:=zZ c.l r.tail,T:=c.T,V:=c.V,S:=c.S,n1:=c.n1,n5:=c.n5 } r.tail) rfl rfl).DG λx r2 h2 lu=>?_
  exact Xn (c:=c) (p:=⟨[],[],[],[x],[],[],[],0⟩) lu (hd _ _ (by rw[h2];rfl)) rfl
 .simp only[decide_true,aH,if_true]at hd ⊢
  show RP c.l (aD (aD (Vl (decide (0<60)) 6 r) λ_ r=>.ok ((),r.tail)) λ_ r1=>aD (Di r1) λx r=>.ok ((⟨[x],[],[],[],[],[],[],0⟩:xP),r)) _ _ QS
  refine(X3 a0 0 60 hk).DG λu r1 h1 iQ=>?_
  obtain rfl:=X7 h1
  refine(zE4 (we rfl rfl iQ:At { (zb c (zZ c.l r,0,bd,[],[],[],[],[],[],[],[]))with l:=c.l,i:=zZ c.l r.tail,T:=c.T,V:=c.V,S:=c.S,n1:=c.n1,n5:=c.n5 } r.tail) rfl rfl).DG λx r2 h2 lu=>?_
  exact Xn (c:=c) (p:=⟨[x],[],[],[],[],[],[],0⟩) lu (hd _ _ (by rw[h2];rfl)) rfl
 all_goals
  simp only[show decide (zR=zO)=bd by decide,show decide (zR=yG)=bd by decide,show decide (zR=zu)=bd by decide,show decide (zu=zO)=bd by decide,show decide (zu=yG)=bd by decide,show decide (zu=zR)=bd by decide,decide_true,aH,cf,if_true,cr,if_false]at hd ⊢;unfold Dz at hd ⊢;simp only[yg]at hd ⊢
  show RP c.l (aD (aD (Vl (decide (0<60)) 6 r) λ_ r=>.ok ((),r.tail)) λ_ r1=>aD (ja r1) λs r=>aD (qV (r.length+1) [] r) λk r=>aD (se (pd (AO k)) 10 r) λ_ r=>.ok ((⟨[],[],[zM.mk s _ k],[],[],[],[],0⟩:xP),r)) _ _ QS
  refine(X3 a0 0 60 hk).DG λu r1 h1 iQ=>?_
  obtain rfl:=X7 h1
  refine(zRi (we rfl rfl iQ:At { (zb c (zZ c.l r,0,bd,[],[],[],[],[],[],[],[]))with l:=c.l,i:=zZ c.l r.tail,T:=c.T,V:=c.V,S:=c.S,n1:=c.n1,n5:=c.n5 } r.tail) rfl).DG λs r2 h2 lu=>?_
  refine(zEq (we rfl rfl lu:At { (zb c (zZ c.l r,0,bd,[],[],[],[],[],[],[],[]))with l:=c.l,i:=zZ c.l r2,T:=c.T,V:=c.V,S:=c.S,n1:=c.n1,n2:=[[(s,bg)]],n5:=c.n5 } r2)).DG λk r3 h3 rA=>?_
  dsimp only;rw[X5,aC,aC]
  refine(TK (we rfl rfl rA:At { (zb c (zZ c.l r,0,bd,[],[],[],[],[],[],[],[]))with l:=c.l,i:=zZ c.l r3,T:=c.T,V:=c.V,S:=c.S,n1:=c.n1,n2:=[[(s,bg)]],n5:=c.n5 } r3) _ _).DG λu r4 h4 rB=>?_
  exact Xn (c:=c) (p:=⟨[],[],[zM.mk s _ k],[],[],[],[],0⟩) rB (hd _ _ (by rw[h2];show aD (qV (r2.length+1) [] r2) _=_;rw[h3];show aD (se (pd (AO k)) 10 r3) _=_;rw[h4];rfl)) rfl
end
abbrev T3:=Int×ak×Int
def t3(t:ar):T3:=(t.aM,t.Text,t.N)
def X8{s t:ak}{c:UInt8}{r:ak}{k v:Int}{n:Nat}(hd:s.dropWhile zy=c::r)(ht:pC (c::r)=.ok (k,t,v))(h:s.length<n+1):((c::r).drop t.length).length<n:=by
 obtain⟨h1,_,h3⟩:=Yy ht
 have h4:(c::r).length<=s.length:=by rw[<- hd];exact(List.dropWhile_sublist _).length_le
 have:0<t.length:=db.2 h1;rw[bU];omega
def U0:∀(n m p:Nat)(s:ak),s.length<n->s.length<m->Hi n p s=Hi m p s
 |0,_,_,_,h,_=>aU h (eA _)
 |_+1,0,_,_,_,h=>aU h (eA _)
 |n+1,m+1,p,s,hn,hm=>by
  rw[Hi,Hi]
  cases hd:s.dropWhile zy with
  |nil=>rfl
  |cons c r =>
   dsimp only
   cases ht:pC (c::r)with
   |error e=>rfl
   |ok x =>obtain⟨k,t,v⟩:=x;dsimp only;rw[U0 n m _ _ (X8 hd ht hn) (X8 hd ht hm)]
def Bm(p:Nat)(s:ak):Except (Nat×Int) (List ar):=Hi (s.length+1) p s
def zhp{c:UInt8}{r:ak}(hc:zy c=bg)(p:Nat):Bm p (c::r)=Bm (p+1) r:=by unfold Bm;rw[zyu hc];exact U0 _ _ _ _ (by simp only[lc];omega) ab
def Dj(l:List ar):Except (Nat×Int) (List ar)->Except (Nat×Int) (List ar)
 |.ok r=>.ok (l++r)
 |.error e=>.error e
def zvn(a b:List ar):∀x,Dj a (Dj b x)=Dj (a++b) x
 |.ok r=>by simp[Dj]
 |.error e=>rfl
def zvo:∀x,Dj [] x=x
 |.ok r=>rfl
 |.error e=>rfl
def BL(s:ak):Prop:=∀c r,s=c::r->zy c=bg
def zNn:BL []:=λ_ _ h=>by cases h
def Pf{c:UInt8}{r:ak}(h:zy c=bg):BL (c::r):=λ_ _ e=>by cases e;exact h
def zYk{a b:ak}(ha:BL a)(hb:BL b):BL (a++b):=by
 cases a with
 |nil=>exact hb
 |cons c r=>exact Pf (ha c r rfl)
def mh(t:T3):Prop:=pC t.2.1=.ok t
def zd2{c:UInt8}(h:zy c=bg):c.toNat=32∨c.toNat=9∨c.toNat=10:=by simpa[zy]using h
def Wg{c:UInt8}(h:zy c=bg):vc c=bd/\ye c=bd/\yO c=bd/\c≠61:=by
 have h:=zd2 h
 have h1:vc c=bd:=by unfold vc;rw[df (show ¬97<=c.toNat by omega)];rfl
 have h2:ye c=bd:=by unfold ye;rw[df (show ¬48<=c.toNat by omega)];rfl
 refine⟨h1,h2,by rw[yO,h1,h2];rfl,?_⟩;rintro rfl;exact aU h ae
def zRx{f:UInt8->Bool}(hf:∀c,zy c=bg->f c=bd){r:ak}(h:BL r):r.takeWhile f=[]:=by
 cases r with
 |nil=>rfl
 |cons c r=>rw[List.takeWhile_cons,hf c (h c r rfl)];rfl
def Z1{f:UInt8->Bool}(hf:∀c,zy c=bg->f c=bd){a r:ak}(h:BL r)(ha:a.takeWhile f=a):(a++r).takeWhile f=a:=by
 have:∀x∈a,f x=bg:=by have:=List.all_takeWhile (p:=f) (l:=a);rw[ha]at this;exact bj.1 this
 rw[aa0 this,zRx hf h,bM]
def zRy{t:T3}(h:mh t){r:ak}(hr:BL r):pC (t.2.1++r)=.ok t:=by
 obtain⟨k,x,n⟩:=t;unfold mh at h;dsimp only at h ⊢
 cases x with
 |nil=>cases h
 |cons c x =>
  rw[bO,yJ];rw[yJ]at h;by_cases hl:vc c=bg
  .rw[aP hl]at h ⊢;by_cases hn:((c::x).takeWhile yO).length<=20
   .rw[aP hn]at h
    have e:(c::x).takeWhile yO=c::x:=by have:=Except.ok.inj h;exact aQ (λy=>y.2.1) this
    have e2:=Z1 (f:=yO) (λc h=>(Wg h).2.2.1) hr e;rw[bO]at e2;rw[e]at h hn;rw[e2,aP hn];exact h
   .rw[aO hn]at h;cases h
  .rw[aO hl]at h ⊢;by_cases hd:ye c=bg
   .rw[aP hd]at h ⊢
    cases hv:Bk ((c::x).takeWhile ye)with
    |none=>rw[hv]at h;cases h
    |some v =>
     rw[hv]at h;have e:(c::x).takeWhile ye=c::x:=aQ (λy=>y.2.1) (Except.ok.inj h);have e2:=Z1 (f:=ye) (λc h=>(Wg h).2.1) hr e;rw[bO]at e2;rw[e]at h hv;rw[e2,hv];exact h
   .rw[aO hd]at h ⊢;rw[Am]at h ⊢
    have agy:∀{d:UInt8},r.head?=bc d->d≠61:=λ{d} e=>by
     cases r with
     |nil=>cases e
     |cons a r=>cases e;exact(Wg (hr _ _ rfl)).2.2.2
    by_cases h1:x.head?=bc 61/\(c=60∨c=61)
    .rw[aP h1]at h
     rw[aP ⟨by cases x with
      |nil=>simp at h1
      |cons a x=>simpa using h1.1,h1.2⟩]
     exact h
    .rw[aO h1]at h;by_cases h2:c∈DK
     .rw[aP h2]at h;have e:[c]=c::x:=aQ (λy=>y.2.1) (Except.ok.inj h)
      obtain rfl:x=[]:=by simpa using e.symm
      rw[cl,aO (λhh=>agy hh.1 rfl),aP h2];exact h
     .rw[aO h2]at h;cases h
def zKk{t:T3}(h:mh t):∃c r,t.2.1=c::r/\zy c=bd:=by
 obtain⟨k,x,n⟩:=t;unfold mh at h;dsimp only at h ⊢
 cases x with
 |nil=>cases h
 |cons c x =>
  refine⟨c,x,rfl,?_⟩
  cases hb:zy c with
  |false=>rfl
  |true =>
   exfalso;obtain⟨h1,h2,_,_⟩:=Wg hb;rw[yJ,h1,aO af,h2,aO af]at h;have hc:=zd2 hb
   rw[zhj (λhm=>by
    have:∀d∈DK,¬(d.toNat=32∨d.toNat=9∨d.toNat=10):=ae
    exact this c hm hc)]at h
   cases h
def mkT(t:T3)(p:Nat):ar:=ar.mk t.1 t.2.1 t.2.2 (p:Int)
def zKl{t:T3}(h:mh t){r:ak}(hr:BL r)(p:Nat):Bm p (t.2.1++r)=Dj [mkT t p] (Bm (p+t.2.1.length) r):=by
 obtain⟨c,x,e,hb⟩:=zKk h;have hk:=zRy h hr;obtain⟨k,y,n⟩:=t;dsimp only at e hk ⊢;subst e;unfold Bm;rw[bO]at hk ⊢;rw[zoy hb,hk];dsimp only
 rw[show(c::(x++r)).drop (c::x).length=r from by rw[<- bO];exact List.drop_left,
  U0 _ (r.length+1) _ r (by simp only[lc,la];omega) ab]
 cases Hi (r.length+1) (p+(c::x).length) r<;>rfl
def LX(s:ak)(ts:List T3):Prop:=∀p r,BL r->∃l,l.map t3=ts/\Bm p (s++r)=Dj l (Bm (p+s.length) r)
def zNo:LX [] []:=λp r _=>⟨[],rfl,by rw[zvo];rfl⟩
def TF{t:T3}(h:mh t):LX t.2.1 [t]:=λp r hr=>⟨[mkT t p],rfl,zKl h hr p⟩
def zvp{c:UInt8}{s:ak}{ts:List T3}(hc:zy c=bg)(h:LX s ts):LX (c::s) ts:=λp r hr=>by obtain⟨l,h1,h2⟩:=h (p+1) r hr;refine⟨l,h1,?_⟩;rw[bO,zhp hc,h2,lc,eD,Nat.add_comm 1]
def TG{a b:ak}{ts us:List T3}(ha:LX a ts)(hb:LX b us)(h:BL b):LX (a++b) (ts++us):=λp r hr=>by obtain⟨l,h1,h2⟩:=ha p (b++r) (zYk h hr);obtain⟨m,h3,h4⟩:=hb (p+a.length) r hr;refine⟨l++m,by rw[List.map_append,h1,h3],?_⟩;rw[gO,h2,h4,zvn,la,eD]
def zYl{s:ak}{ts:List T3}(h:LX s ts):∃l p,l.map t3=ts/\tJ s=.ok (l++[xq p]):=by obtain⟨l,h1,h2⟩:=h 0 [] zNn;refine⟨l,0+s.length,h1,?_⟩;rw[bM]at h2;exact h2
-- a token of each kind
def Wh{f:UInt8->Bool}{l:ak}(h:l.all f=bg):l.takeWhile f=l:=by have:=aa0 (l₂:=[]) (bj.1 h);simpa using this
def zvq{w:ak}(h:H8 w=bg):mh (0,w,0):=by
 cases w with
 |nil=>cases h
 |cons c r =>
  have ha:=Yx h;have e:(c::r).takeWhile yO=c::r:=Wh ha;simp only[H8,bn,aW]at h;unfold mh;dsimp only;rw[yJ,aP h.1,e,aP h.2.1]
def zKm{w:ak}(h:zw w=bg):mh (0,w,0):=by unfold zw at h;rw[bn]at h;exact zvq h.1
def YC:∀n:Nat,(Lib.decDigits n).all ye=bg
 |n=>by
  rw[Lib.decDigits];have one:∀m<10,ye (eJ (48+m))=bg:=ae;split
  .rename_i h;rw[cv,one n h];rfl
  .rename_i h;rw[List.all_append,YC (n / 10),cv,one (n % 10) ab];rfl
def zpc:∀(a b:ak)(n:Nat),V9 (a++b) n=V9 b (V9 a n)
 |[],_,_=>rfl
 |c::a,b,n=>by rw[bO,V9,V9];exact zpc a b _
def zvr:∀n:Nat,Ke 0 (Lib.decDigits n)=n
 |n=>by
  rw[Lib.decDigits];have one:∀m<10,rK (eJ (48+m))=m:=ae;unfold Ke;split
  .rename_i h;rw[V9,V9,one _ h];omega
  .rename_i h;have:=zvr (n / 10);unfold Ke at this;rw[zpc,this];rw[V9,V9,one _ (iN _ ab)];omega
def TH(n:Nat):Lib.decDigits n≠[]:=by rw[Lib.decDigits];split<;>simp
def zvs:∀n:Nat,(Lib.decDigits n).head?=bc 48->n=0
 |n=>by
  rw[Lib.decDigits];have one:∀m<10,eJ (48+m)=48->m=0:=ae;split
  .rename_i h;intro e;exact one n h (by simpa using e)
  .rename_i h;intro e;have h2:=TH (n / 10)
   have e2:(Lib.decDigits (n / 10)).head?=bc 48:=by
    cases hx:Lib.decDigits (n / 10)with
    |nil=>exact aU hx h2
    |cons a b=>rw[hx]at e;simpa using e
   have:=zvs (n / 10) e2;omega
def zKn{n:Nat}(h:n<=1099511627776):Bk (Lib.decDigits n)=bc n:=by
 unfold Bk
 rw[zvr,aP ⟨YC n,TH n,λe=>by
  have:=zvs n e;subst this
  rw[Lib.decDigits];rfl,h⟩]
def zRz{n:Nat}(h:n<=1099511627776):mh (1,Lib.decDigits n,(n:Int)):=by
 unfold mh;dsimp only;have hn:=TH n;have ha:=YC n;have hb:=zKn h
 cases hx:Lib.decDigits n with
 |nil=>exact aU hx hn
 |cons c r =>
  rw[hx]at ha hb;have e:(c::r).takeWhile ye=c::r:=Wh ha
  have hc:ye c=bg:=by rw[cv,bn]at ha;exact ha.1
  have hl:vc c=bd:=by have:=Xf hc;unfold vc;rw[df (show ¬97<=c.toNat by omega)];rfl
  rw[yJ,hl,aO af,aP hc,e,hb]
def uv(u:Bool):List ak->List ak->Bool
 |_,[]=>bg
 |seen,s::r=>zw s&&(!(u&&decide (s∈seen))&&uv u (seen++[s]) r)
def aaO:∀(l seen:List ak),uv bd seen l=l.all zw
 |[],_=>rfl
 |s::r,seen=>by rw[uv,aaO r,cv,dA,cu,cb]
def YD:∀(l seen:List ak),uv bg seen l=bg->l.all zw=bg
 |[],_,_=>rfl
 |s::r,seen,h=>by simp only[uv,bn]at h;rw[cv,h.1,YD r _ h.2.2];rfl
def KM(m:List (ak×Bool))(L:List ak):Prop:=∀x,(xh x m).getD bd=decide (x∈L)
def zpd{α β:Type}[DecidableEq α](a x:α)(b:β):∀l:List (α×β),xh x (oV a b l)=if x=a then bc b else xh x l
 |[]=>by simp[oV,xh]
 |(k,c)::r=>by
  have ih:=zpd a x b r;simp only[oV];by_cases h:a=k
  .rw[aP h];subst h;by_cases h2:x=a
   .simp[xh,h2]
   .simp[xh,h2]
  .rw[aO h];simp only[xh,ih];by_cases h2:x=k
   .subst h2;simp[Ne.symm h]
   .simp[h2]
def KM.add{m:List (ak×Bool)}{L:List ak}(h:KM m L)(s:ak):KM (oV s bg m) (L++[s]):=λx=>by
 rw[zpd];by_cases hx:x=s
 .rw[aP hx];simp[hx]
 .rw[aO hx,h x];exact yI (by simp[hx])
def zFa(u:Bool)(l:List ak)(hs:l.length<4611686018427387904)(hn:∀s∈l,0<=s.length):
  ∀(r:List ak)(i K:Nat)(m:List (ak×Bool))(seen:List ak),l.drop i=r->i<=l.length->r.length<K->KM m seen ->
   uW u l (l.length:Nat) K ((i:Int),m)=bc (bif uv u seen r then .inr ()else .inl bd)
 |[],i,K,m,seen,hr,hi,hK,hm=>by
  obtain⟨K,rfl⟩:∃k,K=k+1:=⟨K-1,by simp at hK;omega⟩
  have:=drop_nil hr hi;subst this;rw[uW,xQ];rfl
 |x::r,i,K,m,seen,hr,hi,hK,hm=>by
  obtain⟨K,rfl⟩:∃k,K=k+1:=⟨K-1,by simp at hK;omega⟩
  obtain⟨h1,h2,h3⟩:=yZ hr;simp only[lc]at hK;rw[uW,kG h1,aH,uv];simp only[zW h1,aC,yl (hn x (bG h1)),hm x]
  cases zw x with
  |false=>rfl
  |true =>
   simp only[bJ,cf,cb]
   cases hu:(u&&decide (x∈seen))with
   |true =>
    simp only[bn]at hu;rw[hu.1,hu.2];rfl
   |false =>
    have:(bif u then bc (decide (x∈seen))else bc bd)=bc bd:=by
     cases u
     .rfl
     .simpa using hu
    rw[this];simp only[aC,cf,cu,cb];rw[yw ab];exact zFa u l hs hn r (i+1) K _ _ h2 ab ab (hm.add x)
def Xo{u:Bool}{l:List ak}(hs:l.length<4611686018427387904)(hn:∀s∈l,0<=s.length):kW l u=bc (uv u [] l):=by unfold kW;rw[show(0:Int)=((0:Nat):Int) from rfl,zFa u l hs hn l 0 KK [] [] rfl (bP _) (vZ ab) (λx=>by simp[xh])];cases uv u [] l<;>rfl
def zhq{α β:Type}(g:α->β):∀(l:List α)(s:List β),l.foldl (λs x=>s++[g x]) s=s++l.map g
 |[],s=>af
 |x::l,s=>by rw[dB,zhq g l];simp
def zy2{α pW:Type}(l:List α)(g:α->ak)(L:Nat->(Int×List ak)->pW)(fin:List ak->pW)(hs:l.length<=1000)
  (hL:∀K (i:Nat) x s,l[i]?=bc x->bf s<=1000->L (K+1) ((i:Int),s)=L K (((i+1:Nat):Int),s++[g x])) (hE:∀K s,L (K+1) ((l.length:Int),s)=fin s):L KK (0,[])=fin (l.map g):=by have:=(U9 l (λs x=>s++[g x]) fin (λi s=>s.length=i/\i<=l.length) (λK q s=>L K (q,s)) [] ab ⟨rfl,bP _⟩ (λK i x s h hi=>⟨hL K i x s h ab,by have:=qi h;simp;omega⟩) (λK s _=>hE K s)).1;rw[zhq]at this;simpa using this
def qj{α:Type}[Inhabited α](l:List α)(g:α->ak)(m:Nat)(L:Nat->(Int×List ak)->Option (List ak))(B:α->Option ak)(hs:l.length<=1000)(hn:∀x∈l,0<=(g x).length)
  (hL:∀K q,L (K+1) q=(bif (decide (q.1<((bf l:Nat):Int)))then(idx l q.1).bind λx1=>aN (B x1) λx2=>aN (ea (bf (q.2++([x2]:List ak))*16<=140737488355328)) λ_=>L K ((aS (q.1+1)),(q.2++([x2]:List ak)))else bc q.2))
  (hB:∀x,B x=bc (g x)):(L KK (0,[])).bind (λx1=>(bif (decide (((bf l:Nat):Int)<=(m:Int)))then(kW x1 bg).bind λx2=>bc x2 else bc bd))=bc (decide (l.length<=m)&&uv bg [] (l.map g)):=by
 rw[zy2 l g L bc hs (λK i x s h h2=>?_) (λK s=>by rw[hL];simp only[xQ,cf]),aC,Xo (by simp;omega) (λs h=>?_),Md _ m rfl]
 .cases decide (l.length<=m)<;>rfl
 .obtain⟨x,h1,rfl⟩:=List.mem_map.1 h;exact hn x h1
 .have:=qi h;rw[hL];simp only[kG h,aH,zW h,aC,hB];rw[zt (by rw[la,eQ];omega),aC,yw ab]
-- expressions
def jb(op:Int):Int:=if op<=3 then 0 else if op=9∨op=15 then 1 else if op=16 then 3 else 2
def xm(e:Expr):Bool:=decide (0<=e.Op/\e.Op<17/\((e.aZ.length:Nat):Int)=jb e.Op)&&(decide (if e.Op=0 then 0<=e.N/\e.N<=1099511627776 else e.N=0) &&
 ((if e.Op=1∨e.Op=2∨e.Op=3 then zw e.S else decide (e.S=[]))&&(if e.Op=2 then zw e.Key else decide (e.Key=[]))))
def lU:Nat->Expr->Bool
 |0,_=>bd
 |d+1,e=>xm e&&e.aZ.all (lU d)
def zKo{n:Int}(h0:0<=n)(h1:n<17):n=0∨n=1∨n=2∨n=3∨n=9∨n=15∨n=16∨(¬n=0/\¬n=1/\¬n=2/\¬n=3/\¬n=9/\¬n=15/\¬n=16/\¬n<=3):=ab
def Kj{n:Int}:decide ((min (max n 0) 1099511627776)=n)=decide (0<=n/\n<=1099511627776):=yI ab
def Ao{s:ak}:decide ([]=s)=decide (s=[]):=yI ⟨Eq.symm,Eq.symm⟩
def kA{n:Int}:decide (0=n)=decide (n=0):=yI ⟨Eq.symm,Eq.symm⟩
def zYm{n:Int}{s k:ak}{az:List Expr} :xm ⟨0,n,s,k,az⟩=(decide (((az.length:Nat):Int)=0)&&(decide (0<=n/\n<=1099511627776)&&(decide (s=[])&&decide (k=[])))):=by simp[xm,jb]
def agP{RK:Nat}{d n:Int}{s k:ak}{az:List Expr}{r:Bool}(hd:¬d=0)(hS:0<=s.length)(hK:0<=k.length)(h:xm ⟨0,n,s,k,az⟩=bg->xw (yb RK) d az ((bf az:Nat):Int) KK 0=bc (bif r then br ()else bp bd)):yb (RK+1) ⟨0,n,s,k,az⟩ d=bc (xm ⟨0,n,s,k,az⟩&&r):=by
 rw[zYm ]at h ⊢;rw[yb];simp only[df hd,Kj,Ao,kA,yl hS,yl hK,bJ,cu,cf,aH,aC,xo,Int.reduceEq,Int.reduceLT,Int.reduceGE,Int.reduceLE,decide_true,decide_false,ge_iff_le]
 cases ha:decide (((az.length:Nat):Int)=0)<;>cases hb:decide (0<=n/\n<=1099511627776)<;>cases hc:decide (s=[])<;>cases he:decide (k=[])<;>(first|rfl|(rw[ha,hb,hc,he]at h;rw[h rfl];cases r<;>rfl))
def zYn{n:Int}{s k:ak}{az:List Expr} :xm ⟨1,n,s,k,az⟩=(decide (((az.length:Nat):Int)=0)&&(decide (n=0)&&(zw s&&decide (k=[])))):=by simp[xm,jb]
def agQ{RK:Nat}{d n:Int}{s k:ak}{az:List Expr}{r:Bool}(hd:¬d=0)(hS:0<=s.length)(hK:0<=k.length)(h:xm ⟨1,n,s,k,az⟩=bg->xw (yb RK) d az ((bf az:Nat):Int) KK 0=bc (bif r then br ()else bp bd)):yb (RK+1) ⟨1,n,s,k,az⟩ d=bc (xm ⟨1,n,s,k,az⟩&&r):=by
 rw[zYn ]at h ⊢;rw[yb];simp only[df hd,Kj,Ao,kA,yl hS,yl hK,bJ,cu,cf,aH,aC,xo,Int.reduceEq,Int.reduceLT,Int.reduceGE,Int.reduceLE,decide_true,decide_false,ge_iff_le]
 cases ha:decide (((az.length:Nat):Int)=0)<;>cases hb:decide (n=0)<;>cases hc:zw s<;>cases he:decide (k=[])<;>(first|rfl|(rw[ha,hb,hc,he]at h;rw[h rfl];cases r<;>rfl))
def zYo{n:Int}{s k:ak}{az:List Expr} :xm ⟨2,n,s,k,az⟩=(decide (((az.length:Nat):Int)=0)&&(decide (n=0)&&(zw s&&zw k))):=by simp[xm,jb]
def agR{RK:Nat}{d n:Int}{s k:ak}{az:List Expr}{r:Bool}(hd:¬d=0)(hS:0<=s.length)(hK:0<=k.length)(h:xm ⟨2,n,s,k,az⟩=bg->xw (yb RK) d az ((bf az:Nat):Int) KK 0=bc (bif r then br ()else bp bd)):yb (RK+1) ⟨2,n,s,k,az⟩ d=bc (xm ⟨2,n,s,k,az⟩&&r):=by
 rw[zYo ]at h ⊢;rw[yb];simp only[df hd,Kj,Ao,kA,yl hS,yl hK,bJ,cu,cf,aH,aC,xo,Int.reduceEq,Int.reduceLT,Int.reduceGE,Int.reduceLE,decide_true,decide_false,ge_iff_le]
 cases he:zw k with
 |false=>simp only[eH,dA];rfl
 |true =>
  simp only[bJ,cf,aC,xo,kA,decide_true]
  cases ha:decide (((az.length:Nat):Int)=0)<;>cases hb:decide (n=0)<;>cases hc:zw s<;>(first|rfl|(rw[ha,hb,hc,he]at h;rw[h rfl];cases r<;>rfl))
def zYp{n:Int}{s k:ak}{az:List Expr} :xm ⟨3,n,s,k,az⟩=(decide (((az.length:Nat):Int)=0)&&(decide (n=0)&&(zw s&&decide (k=[])))):=by simp[xm,jb]
def agS{RK:Nat}{d n:Int}{s k:ak}{az:List Expr}{r:Bool}(hd:¬d=0)(hS:0<=s.length)(hK:0<=k.length)(h:xm ⟨3,n,s,k,az⟩=bg->xw (yb RK) d az ((bf az:Nat):Int) KK 0=bc (bif r then br ()else bp bd)):yb (RK+1) ⟨3,n,s,k,az⟩ d=bc (xm ⟨3,n,s,k,az⟩&&r):=by
 rw[zYp ]at h ⊢;rw[yb];simp only[df hd,Kj,Ao,kA,yl hS,yl hK,bJ,cu,cf,aH,aC,xo,Int.reduceEq,Int.reduceLT,Int.reduceGE,Int.reduceLE,decide_true,decide_false,ge_iff_le]
 cases ha:decide (((az.length:Nat):Int)=0)<;>cases hb:decide (n=0)<;>cases hc:zw s<;>cases he:decide (k=[])<;>(first|rfl|(rw[ha,hb,hc,he]at h;rw[h rfl];cases r<;>rfl))
def zYq{n:Int}{s k:ak}{az:List Expr} :xm ⟨9,n,s,k,az⟩=(decide (((az.length:Nat):Int)=1)&&(decide (n=0)&&(decide (s=[])&&decide (k=[])))):=by simp[xm,jb]
def agT{RK:Nat}{d n:Int}{s k:ak}{az:List Expr}{r:Bool}(hd:¬d=0)(hS:0<=s.length)(hK:0<=k.length)(h:xm ⟨9,n,s,k,az⟩=bg->xw (yb RK) d az ((bf az:Nat):Int) KK 0=bc (bif r then br ()else bp bd)):yb (RK+1) ⟨9,n,s,k,az⟩ d=bc (xm ⟨9,n,s,k,az⟩&&r):=by
 rw[zYq ]at h ⊢;rw[yb];simp only[df hd,Kj,Ao,kA,yl hS,yl hK,bJ,cu,cf,aH,aC,xo,Int.reduceEq,Int.reduceLT,Int.reduceGE,Int.reduceLE,decide_true,decide_false,ge_iff_le]
 cases ha:decide (((az.length:Nat):Int)=1)<;>cases hb:decide (n=0)<;>cases hc:decide (s=[])<;>cases he:decide (k=[])<;>(first|rfl|(rw[ha,hb,hc,he]at h;rw[h rfl];cases r<;>rfl))
def zR0{n:Int}{s k:ak}{az:List Expr} :xm ⟨15,n,s,k,az⟩=(decide (((az.length:Nat):Int)=1)&&(decide (n=0)&&(decide (s=[])&&decide (k=[])))):=by simp[xm,jb]
def aiy{RK:Nat}{d n:Int}{s k:ak}{az:List Expr}{r:Bool}(hd:¬d=0)(hS:0<=s.length)(hK:0<=k.length)(h:xm ⟨15,n,s,k,az⟩=bg->xw (yb RK) d az ((bf az:Nat):Int) KK 0=bc (bif r then br ()else bp bd)):yb (RK+1) ⟨15,n,s,k,az⟩ d=bc (xm ⟨15,n,s,k,az⟩&&r):=by
 rw[zR0 ]at h ⊢;rw[yb];simp only[df hd,Kj,Ao,kA,yl hS,yl hK,bJ,cu,cf,aH,aC,xo,Int.reduceEq,Int.reduceLT,Int.reduceGE,Int.reduceLE,decide_true,decide_false,ge_iff_le]
 cases ha:decide (((az.length:Nat):Int)=1)<;>cases hb:decide (n=0)<;>cases hc:decide (s=[])<;>cases he:decide (k=[])<;>(first|rfl|(rw[ha,hb,hc,he]at h;rw[h rfl];cases r<;>rfl))
def zR1{n:Int}{s k:ak}{az:List Expr} :xm ⟨16,n,s,k,az⟩=(decide (((az.length:Nat):Int)=3)&&(decide (n=0)&&(decide (s=[])&&decide (k=[])))):=by simp[xm,jb]
def aiz{RK:Nat}{d n:Int}{s k:ak}{az:List Expr}{r:Bool}(hd:¬d=0)(hS:0<=s.length)(hK:0<=k.length)(h:xm ⟨16,n,s,k,az⟩=bg->xw (yb RK) d az ((bf az:Nat):Int) KK 0=bc (bif r then br ()else bp bd)):yb (RK+1) ⟨16,n,s,k,az⟩ d=bc (xm ⟨16,n,s,k,az⟩&&r):=by
 rw[zR1 ]at h ⊢;rw[yb];simp only[df hd,Kj,Ao,kA,yl hS,yl hK,bJ,cu,cf,aH,aC,xo,Int.reduceEq,Int.reduceLT,Int.reduceGE,Int.reduceLE,decide_true,decide_false,ge_iff_le]
 cases ha:decide (((az.length:Nat):Int)=3)<;>cases hb:decide (n=0)<;>cases hc:decide (s=[])<;>cases he:decide (k=[])<;>(first|rfl|(rw[ha,hb,hc,he]at h;rw[h rfl];cases r<;>rfl))
def zYr{op n:Int}{s k:ak}{az:List Expr}(q8:0<=op)(CM:op<17)(h0:¬op=0)(h1:¬op=1)(h2:¬op=2)(h3:¬op=3)(h9:¬op=9)(Fx:¬op=15)(qB:¬op=16)(Fy:¬op<=3):xm ⟨op,n,s,k,az⟩=(decide (((az.length:Nat):Int)=2)&&(decide (n=0)&&(decide (s=[])&&decide (k=[])))):=by simp[xm,jb,h0,h1,h2,h3,h9,Fx,qB,Fy,q8,CM]
def agU{RK:Nat}{op d n:Int}{s k:ak}{az:List Expr}{r:Bool}(q8:0<=op)(CM:op<17)(h0:¬op=0)(h1:¬op=1)(h2:¬op=2)(h3:¬op=3)(h9:¬op=9)(Fx:¬op=15)(qB:¬op=16)(Fy:¬op<=3)(hd:¬d=0)(hS:0<=s.length)(hK:0<=k.length)(h:xm ⟨op,n,s,k,az⟩=bg->xw (yb RK) d az ((bf az:Nat):Int) KK 0=bc (bif r then br ()else bp bd)):yb (RK+1) ⟨op,n,s,k,az⟩ d=bc (xm ⟨op,n,s,k,az⟩&&r):=by
 rw[zYr q8 CM h0 h1 h2 h3 h9 Fx qB Fy]at h ⊢;rw[yb];simp only[df h0,df h1,df h2,df h3,df h9,df Fx,df qB,df Fy,df (Int.not_lt.2 q8),df (Int.not_le.2 CM),df hd,Kj,Ao,kA,yl hS,yl hK,bJ,cu,cf,aH,aC,xo,Int.reduceEq,Int.reduceLT,Int.reduceGE,Int.reduceLE,decide_true,decide_false,ge_iff_le]
 cases ha:decide (((az.length:Nat):Int)=2)<;>cases hb:decide (n=0)<;>cases hc:decide (s=[])<;>cases he:decide (k=[])<;>(first|rfl|(rw[ha,hb,hc,he]at h;rw[h rfl];cases r<;>rfl))
def zYs{RK:Nat}{d:Int}{e:Expr}{r:Bool}(hd:¬d=0)(hS:0<=e.S.length)(hK:0<=e.Key.length)(h:xm e=bg->xw (yb RK) d e.aZ ((bf e.aZ:Nat):Int) KK 0=bc (bif r then br ()else bp bd)):yb (RK+1) e d=bc (xm e&&r):=by
 obtain⟨op,n,s,k,az⟩:=e;by_cases q8:0<=op
 .by_cases CM:op<17
  .obtain rfl|rfl|rfl|rfl|rfl|rfl|rfl|⟨h0,h1,h2,h3,h9,Fx,qB,Fy⟩:=zKo q8 CM
   .exact agP hd hS hK h
   .exact agQ hd hS hK h
   .exact agR hd hS hK h
   .exact agS hd hS hK h
   .exact agT hd hS hK h
   .exact aiy hd hS hK h
   .exact aiz hd hS hK h
   .exact agU q8 CM h0 h1 h2 h3 h9 Fx qB Fy hd hS hK h
  .have:xm ⟨op,n,s,k,az⟩=bd:=by simp[xm,CM]
   rw[this,yb];simp only[df hd,df (show ¬op<0 by omega),dt (show op>=17 by omega)];rfl
 .have:xm ⟨op,n,s,k,az⟩=bd:=by simp[xm,q8]
  rw[this,yb];simp only[df hd,dt (show op<0 by omega)];rfl
def zR2{e:Expr}(h:JA e=bg):0<=e.S.length/\0<=e.Key.length:=by obtain⟨op,n,s,k,az⟩:=e;rw[JA]at h;simp only[bn,aW]at h;exact h.2
def zy3{e x:Expr}(h:JA e=bg)(hx:x∈e.aZ):JA x=bg:=by obtain⟨op,n,s,k,az⟩:=e;rw[JA,zho]at h;simp only[bn]at h;exact bj.1 h.1 x hx
def zKp{e:Expr}{n:Nat}(h:wV e<=n):e.aZ.length<n:=by
 obtain⟨op,m,s,k,az⟩:=e;rw[wV]at h;have:=Qg az
 show az.length<n
 omega
def zKq{e x:Expr}{n:Nat}(h:wV e<=n)(hx:x∈e.aZ):wV x<=n:=by obtain⟨op,m,s,k,az⟩:=e;rw[wV]at h;have:=OL (show x∈az from hx);omega
def zKr:∀(d:Nat)(e:Expr)(K:Nat),d<K->d<=1000->wV e<=5000->JA e=bg->yb K e (d:Int)=bc (lU d e):=by
 intro d
 induction d with
 |zero =>
  intro e K hK _ _ _
  obtain⟨K,rfl⟩:∃k,K=k+1:=⟨K-1,ab⟩
  rw[yb];rfl
 |succ d ih =>
  intro e K hK hd hn hs
  obtain⟨K,rfl⟩:∃k,K=k+1:=⟨K-1,ab⟩
  have h1:=zR2 hs;have hz:=zKp hn;rw[lU]
  refine zYs ab ab ab λ_=>?_
  refine Xm e.aZ (lU d) _ (λq=>aN (idx e.aZ q) λx1=>aN (yb K (Expr.mk x1.Op x1.N x1.S x1.Key x1.aZ) (aS (((d+1:Nat):Int)-1))) λx2=>bc (!x2)) ab (λK q=>?_) λi x hx=>?_
  .rw[xw];simp only[dq,aC]
  .have CU:=bG hx;rw[zW hx,aC,zT,yv ab ab,show(((d+1:Nat):Int)-1)=(d:Int) by omega,ih x K ab ab (zKq hn CU) (zy3 hs CU)];rfl
def Qi{e:Expr}(h:rL e=bg):wV e<=5000/\JA e=bg:=by unfold rL at h;simp only[bn,aW]at h;exact h
def aaP{e:Expr}(h:rL e=bg):kX e=bc (lU 12 e):=by unfold kX;obtain⟨h1,h2⟩:=Qi h;rw[zT,show(12:Int)=((12:Nat):Int) from rfl,zKr 12 e KK (vZ ab) ab ab h2];rfl
def U1{a b:Int}{l:List Int}(h:l.length<1000):zX a b l=bc (l.all λn=>decide (a<=n)&&decide (n<=b)):=by
 unfold zX;rw[Xm l (λn=>decide (a<=n)&&decide (n<=b)) (oI a b l (bf l:Nat)) (λq=>aN (idx l q) λx1=>(bif (decide (x1<a))then bc bg else bc (decide (x1>b)))) ab (λK q=>?_) λi x hx=>?_]
 .cases l.all λn=>decide (a<=n)&&decide (n<=b)<;>rfl
 .rw[oI];simp only[dq]
 .rw[zW hx,aC];by_cases h1:a<=x
  .rw[df (show ¬x<a by omega),dt h1,cf,cb];by_cases h2:x<=b
   .rw[dt h2,df (show ¬x>b by omega)];rfl
   .rw[df h2,dt (show x>b by omega)];rfl
  .rw[dt (show x<a by omega),df h1];rfl
def oR{a b x:Int}:zX a b [x]=bc (pd (a<=x/\x<=b)):=by rw[U1 af];exact aQ bc (kE af)
def YE{a b x y:Int}:zX a b [x,y]=bc (pd ((a<=x/\x<=b)/\(a<=y/\y<=b))):=by rw[U1 af];exact aQ bc (kE af)
def zR3{a b x y z:Int}:zX a b [x,y,z]=bc (pd ((a<=x/\x<=b)/\(a<=y/\y<=b)/\(a<=z/\z<=b))):=by rw[U1 af];exact aQ bc (kE af)
def jc:Expr:=⟨0,0,[],[],[]⟩
def Qk(r:zd):Prop:=
 (0<=r.aM/\r.aM<=3)/\(r.aM=0->lU 12 r.Test=bg)/\(¬r.aM=0->r.Test=jc) /\
 (r.aM=1->(0<=r.zj.lz/\r.zj.lz<=3)/\(0<=r.zj.ly/\r.zj.ly<=4096)/\(0<=r.zj.ln/\r.zj.ln<=4096)/\(1<=r.zj.Den/\r.zj.Den<=4096))/\(¬r.aM=1->r.zj=⟨0,0,0,0⟩) /\
 (r.aM=2->1<=r.Uses/\r.Uses<=63)/\(r.aM=3->(0<=r.Uses/\r.Uses<=5)/\(0<=r.gS/\r.gS<=5)/\(0<=r.N/\r.N<=1048576)) /\
 (¬r.aM=2->¬r.aM=3->r.Uses=0)/\(¬r.aM=3->r.gS=0/\r.N=0)
def zYt(r:zd):Prop:=(0<=r.gY/\r.gY<=1073741824)/\(0<=r.hU/\r.hU<=1073741824)/\(0<=r.gW/\r.gW<=1073741824)/\(r.gW=0∨r.gY<r.gW)
def Wi(r:zd):Prop:=((r.aB.all zw=bg/\r.Except.all zw=bg)/\zYt r)/\Qk r
def zpe{l:List ak}(h:Lr l=bg):l.length<=3000/\∀s∈l,0<=s.length:=by unfold Lr at h;simp only[bn,aW,bj]at h;exact⟨h.2,h.1⟩
def Jb{r:zd}(h:si r=bg):0<=r.aL.length/\(r.aB.length<=3000/\∀s∈r.aB,0<=s.length)/\(r.Except.length<=3000/\∀s∈r.Except,0<=s.length)/\rL r.Test=bg:=by unfold si at h;simp only[bn,aW]at h;exact⟨h.1,zpe h.2.1,zpe h.2.2.1,h.2.2.2⟩
def Hf{e:Expr}(h:rL e=bg):Ki e:=by have:=(Qi h).1;unfold Ki;omega
def zFb{A B C:Bool}{un fr:Int}:((bif (!A)then bc bg else(bif (!B)then bc bg else(bif (!C)then bc bg else(bif (!(decide (un=0)))then bc (decide (un<=fr))else bc bd)))):Option Bool)=bc (!(A&&(B&&(C&&pd (un=0∨fr<un))))):=by
 have:pd (un=0∨fr<un)=(decide (un=0)||decide (fr<un)):=(kE af).symm;rw[this]
 have lt:decide (un<=fr)=!(decide (fr<un)):=by
  by_cases h:un<=fr
  .rw[dt h,df ab];rfl
  .rw[df h,dt ab];rfl
 rw[lt];cases A<;>cases B<;>cases C<;>cases decide (un=0)<;>rfl
def zR4{p:Prop}(h:p):pd p=bg:=yV.2 h
def zFc{r:zd}(h:si r=bg):oJ r=bc (pd (Wi r)):=by
 obtain⟨_,⟨z1,z2⟩,⟨x1,x2⟩,te⟩:=Jb h;obtain⟨nm,zs,ex,fr,un,gr,va,ki,t,⟨ps,pb,pn,pz⟩,us,ot,n⟩:=r;simp only at z1 z2 x1 x2 te;have n1:=Xo (u:=bd) (l:=zs) ab (λs hs=>by have:=z2 s hs;omega);have n2:=Xo (u:=bd) (l:=ex) ab (λs hs=>by have:=x2 s hs;omega);rw[aaO]at n1 n2
 have sm:∀x,kZ ⟨nm,zs,ex,fr,un,gr,va,ki,t,⟨ps,pb,pn,pz⟩,us,ot,n⟩ x=bc (pd ((⟨nm,zs,ex,fr,un,gr,va,ki,t,⟨ps,pb,pn,pz⟩,us,ot,n⟩:zd)=x)):=λx=>zo5 (a:=⟨nm,zs,ex,fr,un,gr,va,ki,t,⟨ps,pb,pn,pz⟩,us,ot,n⟩) (by show zs.length<_;omega) (by show ex.length<_;omega) (Hf te)
 have hp:pd (Wi ⟨nm,zs,ex,fr,un,gr,va,ki,t,⟨ps,pb,pn,pz⟩,us,ot,n⟩)=((zs.all zw&&(ex.all zw&&(pd ((0<=fr/\fr<=1073741824)/\(0<=gr/\gr<=1073741824)/\(0<=un/\un<=1073741824))&&pd (un=0∨fr<un))))&&pd (Qk ⟨nm,zs,ex,fr,un,gr,va,ki,t,⟨ps,pb,pn,pz⟩,us,ot,n⟩)):=by
  refine(kE ?_).symm;simp only[bn,yV,Wi,zYt];constructor
  .rintro⟨⟨a,b,⟨c,d,e⟩,f⟩,g⟩;exact⟨⟨⟨a,b⟩,c,d,e,f⟩,g⟩
  .rintro⟨⟨⟨a,b⟩,c,d,e,f⟩,g⟩;exact⟨⟨a,b,⟨c,d,e⟩,f⟩,g⟩
 rw[hp];unfold oJ;simp only[n1,n2,zR3,aC];rw[zFb,aC];cases hh:(zs.all zw&&(ex.all zw&&(pd ((0<=fr/\fr<=1073741824)/\(0<=gr/\gr<=1073741824)/\(0<=un/\un<=1073741824))&&pd (un=0∨fr<un))))
 .rfl
 simp only[bJ,cf,cb];by_cases k0:ki=0
 .subst k0;simp only[decide_true,aH,zT,aaP te,aC]
  have hb:pd (Qk ⟨nm,zs,ex,fr,un,gr,va,0,t,⟨ps,pb,pn,pz⟩,us,ot,n⟩)=(lU 12 t&&pd ((⟨nm,zs,ex,fr,un,gr,va,0,t,⟨ps,pb,pn,pz⟩,us,ot,n⟩:zd)=⟨nm,zs,ex,fr,un,gr,va,0,t,⟨0,0,0,0⟩,0,0,0⟩)):=by refine(kE ?_).symm;simp only[bn,yV,Qk,zd.mk.injEq,zj.mk.injEq];simp
  rw[hb,sm];cases lU 12 t<;>rfl
 .by_cases k1:ki=1
  .subst k1;simp only[df k0,decide_true,aH,cf,zT,oR,YE,aC]
   have hb:pd (Qk ⟨nm,zs,ex,fr,un,gr,va,1,t,⟨ps,pb,pn,pz⟩,us,ot,n⟩)=(pd (0<=ps/\ps<=3)&&(pd ((0<=pb/\pb<=4096)/\(0<=pn/\pn<=4096))&&(pd (1<=pz/\pz<=4096)&&pd ((⟨nm,zs,ex,fr,un,gr,va,1,t,⟨ps,pb,pn,pz⟩,us,ot,n⟩:zd)=⟨nm,zs,ex,fr,un,gr,va,1,⟨0,0,[],[],[]⟩,⟨ps,pb,pn,pz⟩,0,0,0⟩)))):=by
    refine(kE ?_).symm;simp only[bn,yV,Qk,zd.mk.injEq,zj.mk.injEq,jc];simp
    grind
   rw[hb];cases pd (0<=ps/\ps<=3)
   .rfl
   cases pd ((0<=pb/\pb<=4096)/\(0<=pn/\pn<=4096))
   .rfl
   cases pd (1<=pz/\pz<=4096)
   .rfl
   simp only[aH,aC,sm,cb]
  .by_cases k2:ki=2
   .subst k2;simp only[df k0,df k1,decide_true,aH,cf,zT,oR,YE,aC]
    have hb:pd (Qk ⟨nm,zs,ex,fr,un,gr,va,2,t,⟨ps,pb,pn,pz⟩,us,ot,n⟩)=(pd (1<=us/\us<=63)&&pd ((⟨nm,zs,ex,fr,un,gr,va,2,t,⟨ps,pb,pn,pz⟩,us,ot,n⟩:zd)=⟨nm,zs,ex,fr,un,gr,va,2,⟨0,0,[],[],[]⟩,⟨0,0,0,0⟩,us,0,0⟩)):=by
     refine(kE ?_).symm;simp only[bn,yV,Qk,zd.mk.injEq,zj.mk.injEq,jc];simp
     grind
    rw[hb];cases pd (1<=us/\us<=63)
    .rfl
    simp only[aH,aC,sm,cb]
   .by_cases k3:ki=3
    .subst k3;simp only[df k0,df k1,df k2,decide_true,aH,cf,zT,oR,YE,aC]
     have hb:pd (Qk ⟨nm,zs,ex,fr,un,gr,va,3,t,⟨ps,pb,pn,pz⟩,us,ot,n⟩)=(pd ((0<=us/\us<=5)/\(0<=ot/\ot<=5))&&(pd (0<=n/\n<=1048576)&&pd ((⟨nm,zs,ex,fr,un,gr,va,3,t,⟨ps,pb,pn,pz⟩,us,ot,n⟩:zd)=⟨nm,zs,ex,fr,un,gr,va,3,⟨0,0,[],[],[]⟩,⟨0,0,0,0⟩,us,ot,n⟩))):=by
      refine(kE ?_).symm;simp only[bn,yV,Qk,zd.mk.injEq,zj.mk.injEq,jc];simp
      grind
     rw[hb];cases pd ((0<=us/\us<=5)/\(0<=ot/\ot<=5))
     .rfl
     cases pd (0<=n/\n<=1048576)
     .rfl
     simp only[aH,aC,sm,cb]
    .simp only[df k0,df k1,df k2,df k3,cf,aC]
     have hb:pd (Qk ⟨nm,zs,ex,fr,un,gr,va,ki,t,⟨ps,pb,pn,pz⟩,us,ot,n⟩)=bd:=by refine(kE (b:=bd) ⟨λh=>(by cases h),λh=>?_⟩).symm;obtain⟨⟨h1,h2⟩,_⟩:=h;simp only at h1 h2;omega
     rw[hb]
def Vd{α:Type}(l:List α)(P:α->Prop)(L:Nat->Int->Option (Bool⊕Unit))(B:Int->Option Bool)(hs:l.length<4611686018427387904)
  (hL:∀K q,L (K+1) q=(bif (decide (q<((bf l:Nat):Int)))then(B q).bind λr=>(bif r then bc (bp bd)else L K (aS (q+1)))else bc (br ())))
  (hB:∀(i:Nat) x,l[i]?=bc x->B (i:Int)=bc (!(pd (P x)))):L KK 0=bc (bif pd (∀x∈l,P x)then br ()else bp bd):=by rw[Xm l (λx=>pd (P x)) L B ab hL hB];have:l.all (λx=>pd (P x))=pd (∀x∈l,P x):=kE (by simp only[bj,yV]);rw[this]
def Gr(p:zl):Prop:=(0<=p.X/\p.X<=1048576)/\(0<=p.Y/\p.Y<=1048576)/\(0<=p.Z_/\p.Z_<=4096)
def Dk(p:zl):Prop:=(-4096<=p.X/\p.X<=4096)/\(-4096<=p.Y/\p.Y<=4096)/\(1<=p.Z_/\p.Z_<=4096)
def Kk(t:au):Prop:=(t.Rows.length<=60/\uv bg [] (t.Rows.map aw.aL)=bg)/\(-1099511627776<=t.nn/\t.nn<=1099511627776)/\∀x∈t.Rows,-1099511627776<=x.N/\x.N<=1099511627776
def Gf(c:bD):Prop:=(0<=c.np/\c.np<=2)/\(0<=c.pH/\c.pH<=1099511627776)/\AO c.aA
def BE(v:av):Prop:=(0<=v.nB/\v.nB<=20)/\(1<=((v.lB.length:Nat):Int)/\((v.lB.length:Nat):Int)<=20)/\Gr v.iW/\∀x∈v.lB,Gr x
def jj{α:Type}(l:List α)(g:α->ak)(m:Nat):Prop:=l.length<=m/\uv bg [] (l.map g)=bg
def Ph(p:xP):Prop:=(∀d∈p.aF,lU 12 d.Body=bg)/\(∀t∈p.Tables,Kk t)/\(∀z∈p.aB,AO z.aA)/\(∀r∈p.aE,Wi r)/\(∀c∈p.aJ,Gf c)/\(∀v∈p.aG,BE v)/\(∀d∈p.aK,Dk d)
def Ap(p:xP):Prop:=
 (jj p.aF Def.aL 60/\jj p.Tables au.aL 60/\jj p.aB zM.aL 60/\jj p.aE zd.aL 200/\jj p.aJ bD.aL 30/\jj p.aG av.aL 60)/\Ph p/\(0<=p.aI/\p.aI<=24)/\p.aK.length<=24
def Ve{α:Type}{l:List α}{g:α->ak}{m:Nat}:(decide (l.length<=m)&&uv bg [] (l.map g))=pd (jj l g m):=kE (by simp[jj])
def zR5{l:List Def}(hs:l.length<=1000)(hn:∀x∈l,0<=x.aL.length):Oo l 60=bc (pd (jj l Def.aL 60)):=by
 rw[<- Ve];unfold Oo
 exact qj l Def.aL 60 (HH l 60 (bf l:Nat)) (λx=>bc x.aL) hs hn (λK q=>rfl) λx=>rfl
def zR6{l:List au}(hs:l.length<=1000)(hn:∀x∈l,0<=x.aL.length):KY l 60=bc (pd (jj l au.aL 60)):=by
 rw[<- Ve];unfold KY
 exact qj l au.aL 60 (uE l 60 (bf l:Nat)) (λx=>bc x.aL) hs hn (λK q=>rfl) λx=>rfl
def zR7{l:List zM}(hs:l.length<=1000)(hn:∀x∈l,0<=x.aL.length):KZ l 60=bc (pd (jj l zM.aL 60)):=by
 rw[<- Ve];unfold KZ
 exact qj l zM.aL 60 (uF l 60 (bf l:Nat)) (λx=>bc x.aL) hs hn (λK q=>rfl) λx=>rfl
def zR8{l:List zd}(hs:l.length<=1000)(hn:∀x∈l,0<=x.aL.length):K1 l 200=bc (pd (jj l zd.aL 200)):=by
 rw[<- Ve];unfold K1
 exact qj l zd.aL 200 (uG l 200 (bf l:Nat)) (λx=>bc x.aL) hs hn (λK q=>rfl) λx=>rfl
def zR9{l:List bD}(hs:l.length<=1000)(hn:∀x∈l,0<=x.aL.length):K2 l 30=bc (pd (jj l bD.aL 30)):=by
 rw[<- Ve];unfold K2
 exact qj l bD.aL 30 (uH l 30 (bf l:Nat)) (λx=>bc x.aL) hs hn (λK q=>rfl) λx=>rfl
def zSa{l:List av}(hs:l.length<=1000)(hn:∀x∈l,0<=x.aL.length):K3 l 60=bc (pd (jj l av.aL 60)):=by
 rw[<- Ve];unfold K3
 exact qj l av.aL 60 (uI l 60 (bf l:Nat)) (λx=>bc x.aL) hs hn (λK q=>rfl) λx=>rfl
def zSb{l:List aw}(hs:l.length<=1000)(hn:∀x∈l,0<=x.aL.length):K4 l 60=bc (pd (jj l aw.aL 60)):=by
 rw[<- Ve];unfold K4
 exact qj l aw.aL 60 (uJ l 60 (bf l:Nat)) (λx=>bc x.aL) hs hn (λK q=>rfl) λx=>rfl
structure Cm(p:xP):Prop where
 d:p.aF.length<=300
 t:p.Tables.length<=300
 z:p.aB.length<=300
 r:p.aE.length<=300
 c:p.aJ.length<=300
 v:p.aG.length<=300
 s:p.aK.length<=64
 ds:∀x∈p.aF,0<=x.aL.length/\rL x.Body=bg
 ts:∀x∈p.Tables,0<=x.aL.length/\x.Rows.length<=64/\∀y∈x.Rows,0<=y.aL.length
 zs:∀x∈p.aB,0<=x.aL.length/\x.aA.length<=64
 rs:∀x∈p.aE,si x=bg
 cs:∀x∈p.aJ,0<=x.aL.length/\x.aA.length<=64
 vs:∀x∈p.aG,0<=x.aL.length/\x.lB.length<=64
def Kl{o:Option Bool}{f:Option Bool}{g r:Prop}(h:o=bc (pd g))(hr:g->f=bc (!(pd r))):(o.bind λx=>bif (!x)then bc bg else f)=bc (!(pd (g/\r))):=by
 rw[vi]
 exact zKh h λhg=>hr (yV.1 hg)
def qv{o:Option Bool}{g:Prop}(h:o=bc (pd g)):(o.bind λx=>bc (!x))=bc (!(pd g)):=by rw[h];rfl
def pdb{b:Bool}:bc b=bc (pd (b=bg)):=aQ bc (kE Iff.rfl)
section code
variable{c0:List Def}{c1:Int}{c2:List au}{c3:List zM}{c4:List zd}{c5:List bD}{c6:List av}{c7:List zl}{c8:Int}
def aiJ(hl:c0.length<=300)(h:∀x∈c0,0<=x.aL.length/\rL x.Body=bg):uX c0 (bf c0:Nat) c2 c3 c4 c5 c6 c7 c8 KK 0=bc (bif pd (∀d∈c0,lU 12 d.Body=bg)then .inr ()else .inl bd):=by
 refine Vd c0 (λd=>lU 12 d.Body=bg) (uX c0 (bf c0:Nat) c2 c3 c4 c5 c6 c7 c8) (λq=>aN (idx c0 q) λx1=>aN (kX (Expr.mk x1.Body.Op x1.Body.N x1.Body.S x1.Body.Key x1.Body.aZ)) λx2=>bc (!x2)) ab (λK q=>?_) λi x hx=>?_
 .rw[uX];simp only[dq,aC]
 .rw[zW hx,aC,zT];exact qv ((aaP (h x (bG hx)).2).trans pdb)
def aiK{c0:List au}{c2:List Def}(hl:c0.length<=300)(h:∀x∈c0,0<=x.aL.length/\x.Rows.length<=64/\∀y∈x.Rows,0<=y.aL.length):qa c0 (bf c0:Nat) c2 c3 c4 c5 c6 c7 c8 KK 0=bc (bif pd (∀d∈c0,Kk d)then .inr ()else .inl bd):=by
 have key:=Qh c0 (λx=>pd (Kk x)) (bc (br ())) (bc (bp bd)) (qa c0 (bf c0:Nat) c2 c3 c4 c5 c6 c7 c8) ab (λK i x hx=>?_) (λK=>by rw[qa,xQ];rfl)
 .have:c0.all (λx=>pd (Kk x))=pd (∀x∈c0,Kk x):=kE (by simp only[bj,yV]);rw[key,this];cases pd (∀x∈c0,Kk x)<;>rfl
 .have hi:=qi hx;obtain⟨_,h2,h3⟩:=h x (bG hx);rw[qa,kG hx,aH,zW hx,aC,yw ab];rw[Kl (zSb (l:=x.Rows) ab (λy hy=>by have:=h3 y hy;omega)) (λ_=>qv oR),aC]
  have hp:pd (Kk x)=(pd (jj x.Rows aw.aL 60/\-1099511627776<=x.nn/\x.nn<=1099511627776)&&pd (∀y∈x.Rows,-1099511627776<=y.N/\y.N<=1099511627776)):=by rw[<- vi];exact kz ⟨λ⟨a,b,c⟩=>⟨⟨a,b⟩,c⟩,λ⟨⟨a,b⟩,c⟩=>⟨a,b,c⟩⟩
  simp only[hp];cases pd (jj x.Rows aw.aL 60/\-1099511627776<=x.nn/\x.nn<=1099511627776)
  .rfl
  rw[bJ,cf,cb];rw[Vd x.Rows (λy=>-1099511627776<=y.N/\y.N<=1099511627776) (A4 c0 (bf c0:Nat) (i:Int) x.Rows (bf x.Rows:Nat) c2 c3 c4 c5 c6 c7 c8) (λq=>aN (idx x.Rows q) λx1=>aN (zX (-1099511627776) 1099511627776 ([x1.N]:List Int)) λx2=>bc (!x2)) ab (λK q=>?_) λj y hy=>?_]
  .cases pd (∀y∈x.Rows,-1099511627776<=y.N/\y.N<=1099511627776)<;>rfl
  .rw[A4];simp only[dq,aC]
  .rw[zW hy,aC];exact qv oR
def aiL{c0:List zM}{c2:List Def}{c3:List au}(hl:c0.length<=300):uY c0 (bf c0:Nat) c2 c3 c4 c5 c6 c7 c8 KK 0=bc (bif pd (∀d∈c0,AO d.aA)then .inr ()else .inl bd):=by
 refine Vd c0 (λd=>AO d.aA) (uY c0 (bf c0:Nat) c2 c3 c4 c5 c6 c7 c8) (λq=>aN (idx c0 q) λx1=>aN (wF x1.aA) λx2=>bc (!x2)) ab (λK q=>?_) λi x hx=>?_
 .rw[uY];simp only[dq,aC]
 .rw[zW hx,aC];exact qv X5
def aiM{c0:List zd}{c2:List Def}{c3:List au}{c4:List zM}(hl:c0.length<=300)(h:∀x∈c0,si x=bg):uZ c0 (bf c0:Nat) c2 c3 c4 c5 c6 c7 c8 KK 0=bc (bif pd (∀d∈c0,Wi d)then .inr ()else .inl bd):=by
 refine Vd c0 Wi (uZ c0 (bf c0:Nat) c2 c3 c4 c5 c6 c7 c8) (λq=>aN (idx c0 q) λx1=>aN (oJ (zd.mk x1.aL x1.aB x1.Except x1.gY x1.gW x1.hU x1.gZ x1.aM (Expr.mk x1.Test.Op x1.Test.N x1.Test.S x1.Test.Key x1.Test.aZ) x1.zj x1.Uses x1.gS x1.N)) λx2=>bc (!x2)) ab (λK q=>?_) λi x hx=>?_
 .rw[uZ];simp only[dq,aC]
 .rw[zW hx,aC,zT];exact qv (zFc (h x (bG hx)))
def aiN{c0:List bD}{c2:List Def}{c3:List au}{c4:List zM}{c5:List zd}(hl:c0.length<=300):u0 c0 (bf c0:Nat) c2 c3 c4 c5 c6 c7 c8 KK 0=bc (bif pd (∀d∈c0,Gf d)then .inr ()else .inl bd):=by
 refine Vd c0 Gf (u0 c0 (bf c0:Nat) c2 c3 c4 c5 c6 c7 c8) (λq=>aN (idx c0 q) λx1=>(aN (zX 0 2 ([x1.np]:List Int)) λx3=>(bif (!x3)then bc bg else(zX 0 1099511627776 ([x1.pH]:List Int)).bind λx4=>(bif (!x4)then bc bg else(wF x1.aA).bind λx5=>bc (!x5))))) ab (λK q=>?_) λi x hx=>?_
 .rw[u0];simp only[dq]
 .rw[zW hx,aC]
  exact Kl oR λ_=>Kl oR λ_=>qv X5
def aiO{c0:List av}{c2:List Def}{c3:List au}{c4:List zM}{c5:List zd}{c6:List bD}(hl:c0.length<=300)(h:∀x∈c0,0<=x.aL.length/\x.lB.length<=64):qb c0 (bf c0:Nat) c2 c3 c4 c5 c6 c7 c8 KK 0=bc (bif pd (∀d∈c0,BE d)then .inr ()else .inl bd):=by
 have key:=Qh c0 (λx=>pd (BE x)) (bc (br ())) (bc (bp bd)) (qb c0 (bf c0:Nat) c2 c3 c4 c5 c6 c7 c8) ab (λK i x hx=>?_) (λK=>by rw[qb,xQ];rfl)
 .have:c0.all (λx=>pd (BE x))=pd (∀x∈c0,BE x):=kE (by simp only[bj,yV]);rw[key,this];cases pd (∀x∈c0,BE x)<;>rfl
 .have hi:=qi hx;obtain⟨_,h2⟩:=h x (bG hx);rw[qb,kG hx,aH,zW hx,aC,yw ab];rw[Kl oR (λ_=>qv oR),aC]
  have hp:pd (BE x)=(pd ((0<=x.nB/\x.nB<=20)/\(1<=((x.lB.length:Nat):Int)/\((x.lB.length:Nat):Int)<=20))&&pd (∀y∈([x.iW]++x.lB),Gr y)):=by
   rw[<- vi]
   exact kz ⟨λ⟨a,b,c,d⟩=>⟨⟨a,b⟩,λy hy=>by
    rcases bw.1 hy with h1|h1
    .rw[bS.1 h1];exact c
    .exact d y h1⟩,λ⟨⟨a,b⟩,c⟩=>⟨a,b,c _ af,λy hy=>c y (by simp[hy])⟩⟩
  simp only[hp];cases pd ((0<=x.nB/\x.nB<=20)/\(1<=((x.lB.length:Nat):Int)/\((x.lB.length:Nat):Int)<=20))
  .rfl
  have hlen:([x.iW]++x.lB).length<=65:=by simp;omega
  rw[bJ,cf,cb,zt ab,aC];rw[Vd ([x.iW]++x.lB) Gr (A5 c0 (bf c0:Nat) (i:Int) (bf ([x.iW]++x.lB):Nat) c2 c3 c4 c5 c6 c7 c8 ([x.iW]++x.lB)) (λq=>aN (ea (0<=q/\q<(((bf ([x.iW]++x.lB)):Nat):Int))) λ_=>aN ((([x.iW]++x.lB))[(bQ q)]?) λx2=>(aN (zX 0 1048576 ([x2.X,x2.Y]:List Int)) λx4=>(bif (!x4)then bc bg else(zX 0 4096 ([x2.Z_]:List Int)).bind λx5=>bc (!x5)))) ab (λK q=>?_) λj y hy=>?_]
  .cases pd (∀y∈([x.iW]++x.lB),Gr y)<;>rfl
  .rw[A5];simp only[dq]
  .have hj:=qi hy;rw[zt ab,aC,dD,hy,aC,Kl YE (λ_=>qv oR)];exact aQ (λb=>bc (!b)) (kz ⟨λ⟨⟨a,b⟩,c⟩=>⟨a,b,c⟩,λ⟨a,b,c⟩=>⟨⟨a,b⟩,c⟩⟩)
def aiP{c0:List zl}{c2:List Def}{c3:List au}{c4:List zM}{c5:List zd}{c6:List bD}{c7:List av}(hl:c0.length<=64):u5 c0 (bf c0:Nat) c2 c3 c4 c5 c6 c7 c8 KK 0=bc (bif pd (∀d∈c0,Dk d)then .inr ()else .inl bd):=by
 refine Vd c0 Dk (u5 c0 (bf c0:Nat) c2 c3 c4 c5 c6 c7 c8) (λq=>aN (idx c0 q) λx1=>(aN (zX (-4096) 4096 ([x1.X,x1.Y]:List Int)) λx3=>(bif (!x3)then bc bg else(zX 1 4096 ([x1.Z_]:List Int)).bind λx4=>bc (!x4)))) ab (λK q=>?_) λi x hx=>?_
 .rw[u5];simp only[dq]
 .rw[zW hx,aC,Kl YE (λ_=>qv oR)];exact aQ (λb=>bc (!b)) (kz ⟨λ⟨⟨a,b⟩,c⟩=>⟨a,b,c⟩,λ⟨a,b,c⟩=>⟨⟨a,b⟩,c⟩⟩)
end code
def OM{p:xP}(h:Cm p):HI p=bc (pd (Ap p)):=by
 unfold HI;have hd:=h.d;have ht:=h.t;have hz:=h.z;have hr:=h.r;have hc:=h.c;have hv:=h.v;have hs:=h.s;rw[Kl (zR5 (l:=p.aF) ab (λx hx=>by have:=(h.ds x hx).1;omega)) λ_=>Kl (zR6 (l:=p.Tables) ab (λx hx=>by have:=(h.ts x hx).1;omega)) λ_=>Kl (zR7 (l:=p.aB) ab (λx hx=>by have:=(h.zs x hx).1;omega)) λ_=>Kl (zR8 (l:=p.aE) ab (λx hx=>by have:=(Jb (h.rs x hx)).1;omega)) λ_=>Kl (zR9 (l:=p.aJ) ab (λx hx=>by have:=(h.cs x hx).1;omega)) λ_=>qv (zSa (l:=p.aG) ab (λx hx=>by have:=(h.vs x hx).1;omega)),aC]
 have hp:pd (Ap p)=(pd (jj p.aF Def.aL 60/\jj p.Tables au.aL 60/\jj p.aB zM.aL 60/\jj p.aE zd.aL 200/\jj p.aJ bD.aL 30/\jj p.aG av.aL 60)&&pd ((∀d∈p.aF,lU 12 d.Body=bg)/\(∀t∈p.Tables,Kk t)/\(∀z∈p.aB,AO z.aA)/\(∀r∈p.aE,Wi r)/\(∀c∈p.aJ,Gf c)/\(∀v∈p.aG,BE v)/\(∀d∈p.aK,Dk d)/\(0<=p.aI/\p.aI<=24)/\(0<=((p.aK.length:Nat):Int)/\((p.aK.length:Nat):Int)<=24))):=by rw[<- vi];exact kz ⟨λ⟨a,⟨b1,b2,b3,b4,b5,b6,b7⟩,c,d⟩=>⟨a,b1,b2,b3,b4,b5,b6,b7,c,ab⟩,λ⟨a,b1,b2,b3,b4,b5,b6,b7,c,d⟩=>⟨a,⟨b1,b2,b3,b4,b5,b6,b7⟩,c,ab⟩⟩
 rw[hp];cases pd (jj p.aF Def.aL 60/\jj p.Tables au.aL 60/\jj p.aB zM.aL 60/\jj p.aE zd.aL 200/\jj p.aJ bD.aL 30/\jj p.aG av.aL 60)
 .rfl
 rw[bJ,cf,cb]
 exact We (aiJ hd h.ds) λ_=>We (aiK ht h.ts) λ_=>We (aiL hz) λ_=>We (aiM hr h.rs) λ_=>We (aiN hc) λ_=>We (aiO hv h.vs) λ_=>We (aiP hs) λ_=>by rw[YE];rfl
def zvt:∀(k n:Nat),n<10 ^ (k+1)->(Lib.decDigits n).length<=k+1
 |k,n,h=>by
  rw[Lib.decDigits];by_cases p9:n<10
  .rw[dif_pos p9,eQ];omega
  .cases k with
   |zero=>omega
   |succ k =>
    have:=zvt k (n / 10) (by rw[fC]at h;omega);rw[dif_neg p9,la,eQ];omega
def LK{n:Nat}(h:n<=9223372036854775807):(Lib.decDigits n).length<=21:=by have:=zvt 19 n ab;omega
def jI(n:Int):Prop:=-9223372036854775807<=n/\n<=9223372036854775807
def Km{n:Int}:Hj (.inl n)=if n<0 then 45::32::Lib.decDigits n.natAbs else Lib.decDigits n.toNat:=rfl
def LL{n:Int}(h:jI n):(Hj (.inl n)).length<=23:=by
 obtain⟨h0,h1⟩:=h;rw[Km];split
 .have:=LK (n:=n.natAbs) ab;simp only[lc];omega
 .have:=LK (n:=n.toNat) ab;omega
def Pj{n:Int}(h0:0<=n)(h1:n<=9223372036854775807):Jk n=bc (Lib.decDigits n.toNat):=by unfold Jk L6;rw[zt ab,aC,Lib.itoa,aO ab]
def z7{a b:ak}(h:a.length+b.length<=140737488355328):yz a b=bc (((b.length:Nat):Int),a++b):=by unfold yz;rw[zt h];rfl
def ON{a b:ak}(h:a.length+b.length<=140737488355328):oK a b=bc (((b.length:Nat):Int),a++b):=by unfold oK;rw[zt h];rfl
def Ko{a:ak}(h:a.length+2<=140737488355328):tI a=bc (a++[32,41]):=by unfold tI;rw[zt h];rfl
-- forms
def bR(op:Int):Int:=if op=16 then 0 else if op=14 then 1 else if op=13 then 2 else if op=15 then 3 else if op=10∨op=11∨op=12 then 4 else if op=4∨op=5 then 5 else if op=6∨op=7∨op=8 then 6 else if op=9 then 7 else 8
def pB(op:Int):ak:=if op=14 then Li else if op=13 then I7 else if op=10 then qq else if op=11 then Bw else if op=12 then qp else if op=4 then Bu else if op=5 then yX else if op=6 then Bt else if op=7 then Bv else Bs
def ah5{n:Int}(h0:0<=n)(h1:n<17):n=0∨n=1∨n=2∨n=3∨n=4∨n=5∨n=6∨n=7∨n=8∨n=9∨n=10∨n=11∨n=12∨n=13∨n=14∨n=15∨n=16:=ab
def pR(op:Int):Bool:=decide (4<=op/\op<=14/\¬op=9)
def zKt(k:Nat){c2 n:Int}{s afC:ak}{az:List Expr}(h0:0<=c2)(h1:c2<17):((HM ([(zf.mk Li 14 1),(zf.mk I7 13 2),(zf.mk qq 10 4),(zf.mk Bw 11 4),(zf.mk qp 12 4),(zf.mk Bu 4 5),(zf.mk yX 5 5),(zf.mk Bt 6 6),(zf.mk Bv 7 6),(zf.mk Bs 8 6)]:List zf) (10:Nat) c2 n s afC az (k+11) 0).bind (xo bc λ_=>(bif (decide (c2=16))then bc (0,([]:ak))else(bif (decide (c2=15))then bc (3,([]:ak))else(bif (decide (c2=9))then bc (7,([]:ak))else bc (8,([]:ak)))))))=bc (bR c2,bif pR c2 then pB c2 else[]):=by obtain rfl|rfl|rfl|rfl|rfl|rfl|rfl|rfl|rfl|rfl|rfl|rfl|rfl|rfl|rfl|rfl|rfl:=ah5 h0 h1<;>rfl
def zFd{e:Expr}(h0:0<=e.Op)(h1:e.Op<17):Ox e=bc (bR e.Op,bif pR e.Op then pB e.Op else[]):=by
 unfold Ox jC
 obtain⟨k,hk⟩:∃k,KK=k+11:=⟨KK-11,by have:=vZ (n:=100) ab;omega⟩
 rw[aC,hk];exact zKt k h0 h1
def Gs:ak:=[32,41]
def E0(op:Int):0<=bR op/\bR op<=8:=by unfold bR;(repeat' split)<;>omega
def TR(op:Int):(pB op).length<=3:=by unfold pB;(repeat' split)<;>decide
def iM(t:ak)(lv form:Int):ak:=if lv<form then Gp++(t++Gs)else t
def xn(e:Expr)(i:Nat):Expr:=e.aZ.getD i jc
def zF:Nat->Expr->ak
 |0,_=>[]
 |d+1,e =>
  if e.Op=0 then Lib.decDigits e.N.toNat else if e.Op=1 then e.S else if e.Op=2 then wC++(e.S++(gU++e.Key))else if e.Op=3 then oC++e.S
  else if e.Op=16 then oA++(iM (zF d (xn e 0)) (bR (xn e 0).Op) 0++(yF++(iM (zF d (xn e 1)) (bR (xn e 1).Op) 0++(yE++iM (zF d (xn e 2)) (bR (xn e 2).Op) 0))))
  else if e.Op=15 then VS++iM (zF d (xn e 0)) (bR (xn e 0).Op) 3
  else if e.Op=9 then ud++iM (zF d (xn e 0)) (bR (xn e 0).Op) 7
  else iM (zF d (xn e 0)) (bR (xn e 0).Op) (if bR e.Op=4 then 5 else bR e.Op)++(gU++(pB e.Op++(gU++iM (zF d (xn e 1)) (bR (xn e 1).Op) (bR e.Op+1))))
def Aq(t:ak)(a b:Int):(iM t a b).length<=t.length+4:=by
 unfold iM;split
 .simp only[la,show Gp.length=2 from rfl,show Gs.length=2 from rfl];omega
 .omega
def vj{s:ak}(h:zw s=bg):s.length<=20/\s≠[]:=by unfold zw at h;simp only[bn]at h;exact zve h.1
def YF{e:Expr}(h:xm e=bg):(0<=e.Op/\e.Op<17/\((e.aZ.length:Nat):Int)=jb e.Op)/\(0<=e.N/\e.N<=1099511627776)/\e.S.length<=20/\e.Key.length<=20/\((e.Op=1∨e.Op=2∨e.Op=3)->zw e.S=bg)/\(e.Op=2->zw e.Key=bg):=by
 unfold xm at h;simp only[bn,aW]at h;obtain⟨h1,h2,h3,h4⟩:=h;refine⟨h1,?_,?_,?_,λho=>by rwa [aP ho]at h3,λho=>by rwa [aP ho]at h4⟩
 .split at h2
  .exact h2
  .omega
 .split at h3
  .exact(vj h3).1
  .rw[aY h3];decide
 .split at h4
  .exact(vj h4).1
  .rw[aY h4];decide
def zvu:∀(d:Nat)(e:Expr),lU d e=bg->(zF d e).length<=100*4 ^ d
 |0,e,h=>by cases h
 |d+1,e,h=>by
  rw[lU,bn]at h;obtain⟨hh,ha⟩:=h;obtain⟨⟨h0,h1,hl⟩,⟨n0,n1⟩,hs,hk,_⟩:=YF hh;have hp:0<4 ^ d:=Nat.pow_pos ab
  have arg:∀i,i<e.aZ.length->(zF d (xn e i)).length<=100*4 ^ d:=λi hi=>by refine zvu d _ (bj.1 ha _ ?_);unfold xn;rw[bY,bF hi];exact dX hi
  rw[fC,zF];by_cases o0:e.Op=0
  .rw[aP o0];have:=LK (n:=e.N.toNat) ab;omega
  rw[aO o0];by_cases o1:e.Op=1
  .rw[aP o1];omega
  rw[aO o1];by_cases o2:e.Op=2
  .rw[aP o2];simp only[la,show wC.length=6 from rfl,show gU.length=1 from rfl];omega
  rw[aO o2];by_cases o3:e.Op=3
  .rw[aP o3];simp only[la,show oC.length=5 from rfl];omega
  rw[aO o3];by_cases nj:e.Op=16
  .rw[aP nj]
   have:e.aZ.length=3:=by rw[nj]at hl;have:jb 16=3:=rfl;omega
   have a0:=arg 0 ab;have a1:=arg 1 ab;have a2:=arg 2 ab;have b0:=Aq (zF d (xn e 0)) (bR (xn e 0).Op) 0;have b1:=Aq (zF d (xn e 1)) (bR (xn e 1).Op) 0;have b2:=Aq (zF d (xn e 2)) (bR (xn e 2).Op) 0;simp only[la,show oA.length=3 from rfl,show yF.length=6 from rfl,show yE.length=6 from rfl];omega
  rw[aO nj];by_cases pw:e.Op=15
  .rw[aP pw]
   have:e.aZ.length=1:=by rw[pw]at hl;have:jb 15=1:=rfl;omega
   have a0:=arg 0 ab;have b0:=Aq (zF d (xn e 0)) (bR (xn e 0).Op) 3;simp only[la,show VS.length=4 from rfl];omega
  rw[aO pw];by_cases o9:e.Op=9
  .rw[aP o9]
   have:e.aZ.length=1:=by rw[o9]at hl;have:jb 9=1:=rfl;omega
   have a0:=arg 0 ab;have b0:=Aq (zF d (xn e 0)) (bR (xn e 0).Op) 7;simp only[la,show ud.length=2 from rfl];omega
  rw[aO o9]
  have:e.aZ.length=2:=by
   have:jb e.Op=2:=by unfold jb;rw[aO ab,aO ab,aO nj]
   omega
  have a0:=arg 0 ab;have a1:=arg 1 ab;have b0:=Aq (zF d (xn e 0)) (bR (xn e 0).Op) (if bR e.Op=4 then 5 else bR e.Op);have b1:=Aq (zF d (xn e 1)) (bR (xn e 1).Op) (bR e.Op+1);have:=TR e.Op;simp only[la,show gU.length=1 from rfl];omega
inductive OX:Nat->Expr->Prop
 |num {d:Nat} {n:Int}:0<=n->n<=1099511627776->OX (d+1) ⟨0,n,[],[],[]⟩
 |name {d:Nat} {s:ak}:zw s=bg->OX (d+1) ⟨1,0,s,[],[]⟩
 |table {d:Nat} {s k:ak}:zw s=bg->zw k=bg->OX (d+1) ⟨2,0,s,k,[]⟩
 |lA {d:Nat} {s:ak}:zw s=bg->OX (d+1) ⟨3,0,s,[],[]⟩
 |neg {d:Nat} {a:Expr}:OX d a->OX (d+1) ⟨9,0,[],[],[a]⟩
 |not {d:Nat} {a:Expr}:OX d a->OX (d+1) ⟨15,0,[],[],[a]⟩
 |cond {d:Nat} {a b c:Expr}:OX d a->OX d b->OX d c->OX (d+1) ⟨16,0,[],[],[a,b,c]⟩
 |bin {d:Nat} {op:Int} {a b:Expr}:pR op=bg->OX d a->OX d b->OX (d+1) (QG op a b)
def Lh{α:Type}{l:List α}(h:((l.length:Nat):Int)=0):l=[]:=List.length_eq_zero_iff.1 ab
def adw{α:Type}{l:List α}(h:((l.length:Nat):Int)=1):∃a,l=[a]:=List.length_eq_one_iff.1 ab
def ah2{α:Type}{l:List α}(h:((l.length:Nat):Int)=2):∃a b,l=[a,b]:=by
 match l,h with
 |[a,b],_=>exact⟨a,b,rfl⟩
 |[],h=>simp at h
 |[a],h=>simp at h
 |a::b::c::r,h=>simp only[lc]at h;omega
def ah3{α:Type}{l:List α}(h:((l.length:Nat):Int)=3):∃a b c,l=[a,b,c]:=by
 match l,h with
 |[a,b,c],_=>exact⟨a,b,c,rfl⟩
 |[],h=>simp at h
 |[a],h=>simp at h
 |[a,b],h=>simp at h
 |a::b::c::d::r,h=>simp only[lc]at h;omega
def zYu{op:Int}(h0:0<=op)(h1:op<17)(a0:¬op=0)(a1:¬op=1)(a2:¬op=2)(a3:¬op=3)(a9:¬op=9)(Qv:¬op=15)(Qw:¬op=16):pR op=bg:=dt ab
def Mf{op:Int}(h:pR op=bg):4<=op/\op<=14/\¬op=9:=aY h
def zpg{op:Int}(h:pR op=bg):jb op=2:=by have:=Mf h;unfold jb;rw[aO ab,aO ab,aO ab]
def GN:∀(d:Nat)(e:Expr),lU d e=bg->OX d e
 |0,e,h=>by cases h
 |d+1,e,h=>by
  rw[lU,bn]at h;obtain⟨hh,ha⟩:=h
  have ih:∀x∈e.aZ,OX d x:=λx hx=>GN d x (bj.1 ha x hx)
  obtain⟨op,n,s,k,az⟩:=e;simp only[xm,bn,aW]at hh;obtain⟨⟨h0,h1,hl⟩,hn,hs,hk⟩:=hh;dsimp only at ih;by_cases a0:op=0
  .subst a0;obtain rfl:=Lh hl;simp at hn hs hk
   obtain⟨rfl,rfl⟩:s=[]/\k=[]:=⟨hs,hk⟩
   exact .num hn.1 hn.2
  by_cases a1:op=1
  .subst a1;obtain rfl:=Lh hl;simp at hn hs hk;subst hn hk;exact .name hs
  by_cases a2:op=2
  .subst a2;obtain rfl:=Lh hl;simp at hn hs hk;subst hn;exact .table hs hk
  by_cases a3:op=3
  .subst a3;obtain rfl:=Lh hl;simp at hn hs hk;subst hn hk;exact .lA hs
  rw[aO a0]at hn;rw[aO ab,aW]at hs;rw[aO a2,aW]at hk;subst hn hs hk;by_cases a9:op=9
  .subst a9;obtain⟨a,rfl⟩:=adw hl;exact .neg (ih a af)
  by_cases Qv:op=15
  .subst Qv;obtain⟨a,rfl⟩:=adw hl;exact .not (ih a af)
  by_cases Qw:op=16
  .subst Qw;obtain⟨a,b,c,rfl⟩:=ah3 hl;exact .cond (ih a af) (ih b af) (ih c af)
  have hb:=zYu h0 h1 a0 a1 a2 a3 a9 Qv Qw;rw[zpg hb]at hl;obtain⟨a,b,rfl⟩:=ah2 hl;exact .bin hb (ih a af) (ih b af)
def zYv{d:Nat}{e:Expr}(h:OX d e):lU d e=bg:=by
 induction h with
 |num h1 h2=>simp[lU,xm,jb,h1,h2]
 |name h=>simp[lU,xm,jb,h]
 |table h1 h2=>simp[lU,xm,jb,h1,h2]
 |lA h=>simp[lU,xm,jb,h]
 |neg _ ih=>simp[lU,xm,jb,ih]
 |not _ ih=>simp[lU,xm,jb,ih]
 |cond _ _ _ i1 i2 i3=>simp[lU,xm,jb,i1,i2,i3]
 |@bin d op a b hb _ _ i1 i2 =>
  have h3:=Mf hb;have n0:¬op=0:=ab;have n1:¬op=1:=ab;have n2:¬op=2:=ab;have n3:¬op=3:=ab;simp[lU,xm,QG,zpg hb,n0,n1,n2,n3,i1,i2];omega
-- tokens
def aT(w:ak):T3:=(0,w,0)
def iw(w:ak):T3:=(2,w,0)
def vm(n:Int):T3:=(1,Lib.decDigits n.toNat,n)
def rW(op:Int):T3:=if op=13∨op=14 then aT (pB op)else iw (pB op)
def oW(t:List T3)(lv form:Int):List T3:=if lv<form then iw AI::(t++[iw qO])else t
def ZF(op:Int):Int:=if bR op=4 then 5 else bR op
def yi:Nat->Expr->List T3
 |0,_=>[]
 |d+1,e =>
  if e.Op=0 then[vm e.N]else if e.Op=1 then[aT e.S]else if e.Op=2 then[aT yG,aT e.S,aT e.Key]else if e.Op=3 then[aT zR,aT e.S]
  else if e.Op=16 then aT Vk::(yi d (xn e 0)++(aT uc::(yi d (xn e 1)++(aT je::yi d (xn e 2)))))
  else if e.Op=15 then aT qE::oW (yi d (xn e 0)) (bR (xn e 0).Op) 3
  else if e.Op=9 then iw yX::oW (yi d (xn e 0)) (bR (xn e 0).Op) 7
  else oW (yi d (xn e 0)) (bR (xn e 0).Op) (ZF e.Op)++(rW e.Op::oW (yi d (xn e 1)) (bR (xn e 1).Op) (bR e.Op+1))
def Hg{op:Int}(h:pR op=bg)(d:Nat)(a b:Expr):yi (d+1) (QG op a b)=oW (yi d a) (bR a.Op) (ZF op)++(rW op::oW (yi d b) (bR b.Op) (bR op+1)):=by have h3:=Mf h;rw[yi];unfold QG;dsimp only;rw[aO ab,aO ab,aO ab,aO ab,aO ab,aO ab,aO ab];rfl
def zph{op:Int}(h:pR op=bg)(d:Nat)(a b:Expr):zF (d+1) (QG op a b)=iM (zF d a) (bR a.Op) (ZF op)++(gU++(pB op++(gU++iM (zF d b) (bR b.Op) (bR op+1)))):=by have h3:=Mf h;rw[zF];unfold QG;dsimp only;rw[aO ab,aO ab,aO ab,aO ab,aO ab,aO ab,aO ab];rfl
def ED{t:List T3}{op:Int}:oW t (bR op) 0=t:=aO (by have:=E0 op;omega)
def Qx{t:ak}{op:Int}:iM t (bR op) 0=t:=aO (by have:=E0 op;omega)
def sq(ts:List T3):ak:=ts.flatMap λt=>32::t.2.1
def jq:List T3->ak
 |[]=>[]
 |t::ts=>t.2.1++sq ts
def TT(a b:List T3):sq (a++b)=sq a++sq b:=List.flatMap_append
def N'{a:List T3}(h:a≠[]):sq a=32::jq a:=by
 cases a with
 |nil=>exact aU rfl h
 |cons t ts=>rfl
def zYw{a b:List T3}(h:a≠[]):jq (a++b)=jq a++sq b:=by
 cases a with
 |nil=>exact aU rfl h
 |cons t ts=>rw[bO,jq,jq,TT,gO]
def Vf{t:T3}{b:List T3}(h:b≠[]):jq (t::b)=t.2.1++32::jq b:=by rw[jq,N' h]
def Pz{a b:List T3}(ha:a≠[])(hb:b≠[]):jq (a++b)=jq a++32::jq b:=by rw[zYw ha,N' hb]
def zYx(a:List T3):BL (sq a):=by
 cases a with
 |nil=>exact zNn
 |cons t ts=>exact Pf rfl
def zYy:∀{ts:List T3},(∀t∈ts,mh t)->LX (sq ts) ts
 |[],_=>zNo
 |t::ts,h=>by have:=TG (zvp (c:=32) rfl (TF (h t al))) (zYy λx hx=>h x (gq _ hx)) (zYx ts);exact this
def akh{ts:List T3}(h:∀t∈ts,mh t):LX (jq ts) ts:=by
 cases ts with
 |nil=>exact zNo
 |cons t ts=>exact TG (TF (h t al)) (zYy λx hx=>h x (gq _ hx)) (zYx ts)
def ph(ts:List T3):Prop:=∀t∈ts,mh t
def AP:ph []:=λ_ h=>by cases h
def xa{t:T3}{ts:List T3}(h:mh t)(hs:ph ts):ph (t::ts):=λx hx=>by
 rcases bq.1 hx with rfl|hx
 .exact h
 .exact hs x hx
def LM{a b:List T3}(ha:ph a)(hb:ph b):ph (a++b):=λx hx=>by
 rcases bw.1 hx with hx|hx
 .exact ha x hx
 .exact hb x hx
def OO{n:Int}(h0:0<=n)(h1:n<=1099511627776):mh (vm n):=by have:=zRz (n:=n.toNat) ab;rw[Int.toNat_of_nonneg h0]at this;exact this
def zNq{w:ak}(h:H8 w=bg):mh (aT w):=zvq h
def Wj{w:ak}(h:zw w=bg):mh (aT w):=zKm h
def LN{op:Int}(h:pR op=bg):op=4∨op=5∨op=6∨op=7∨op=8∨op=10∨op=11∨op=12∨op=13∨op=14:=by have:=Mf h;omega
def zNr{op:Int}(h:pR op=bg):mh (rW op):=by
 rcases LN h with rfl|rfl|rfl|rfl|rfl|rfl|rfl|rfl|rfl|rfl<;>rfl
def Xp(op:Int):(rW op).2.1=pB op:=by unfold rW;split<;>rfl
def PA{t:List T3}{a b:Int}(h:t≠[]):oW t a b≠[]:=by
 unfold oW;split
 .simp
 .exact h
def Wk{t:List T3}{a b:Int}(h:ph t):ph (oW t a b):=by
 unfold oW;split
 .exact xa rfl (LM h (xa rfl AP))
 .exact h
def PD{t:List T3}{s:ak}{a b:Int}(hn:t≠[])(h:s=jq t):iM s a b=jq (oW t a b):=by
 unfold iM oW;split
 .rw[Vf af,Pz hn af,<- h];rfl
 .exact h
def qW{d:Nat}{e:Expr}(h:OX d e):yi d e≠[]/\ph (yi d e)/\zF d e=jq (yi d e):=by
 induction h with
 |@num d n h1 h2 =>
  refine⟨by simp[yi],?_,?_⟩
  .exact xa (OO h1 h2) AP
  .show Lib.decDigits n.toNat=Lib.decDigits n.toNat++[]
   rw[bM]
 |@name d s h =>
  refine⟨by simp[yi],xa (Wj h) AP,?_⟩
  show s=s++[]
  rw[bM]
 |@table d s k h1 h2 =>
  refine⟨by simp[yi],xa rfl (xa (Wj h1) (xa (Wj h2) AP)),?_⟩
  show wC++(s++(gU++k))=yG++((32::s)++((32::k)++[]))
  rw[bM];rfl
 |@lA d s h =>
  refine⟨by simp[yi],xa rfl (xa (Wj h) AP),?_⟩
  show oC++s=zR++((32::s)++[])
  rw[bM];rfl
 |@neg d a _ ih =>
  obtain⟨i1,i2,i3⟩:=ih;refine⟨by simp[yi],xa rfl (Wk i2),?_⟩
  show ud++iM (zF d a) (bR a.Op) 7=jq (iw yX::oW (yi d a) (bR a.Op) 7)
  rw[Vf (PA i1),PD i1 i3];rfl
 |@not d a _ ih =>
  obtain⟨i1,i2,i3⟩:=ih;refine⟨by simp[yi],xa rfl (Wk i2),?_⟩
  show VS++iM (zF d a) (bR a.Op) 3=jq (aT qE::oW (yi d a) (bR a.Op) 3)
  rw[Vf (PA i1),PD i1 i3];rfl
 |@cond d a b c _ _ _ ia ib ic =>
  obtain⟨a1,a2,a3⟩:=ia;obtain⟨b1,b2,b3⟩:=ib;obtain⟨c1,c2,c3⟩:=ic;refine⟨by simp[yi],xa rfl (LM a2 (xa rfl (LM b2 (xa rfl c2)))),?_⟩
  show oA++(iM (zF d a) (bR a.Op) 0++(yF++(iM (zF d b) (bR b.Op) 0++(yE++iM (zF d c) (bR c.Op) 0))))=jq (aT Vk::(yi d a++(aT uc::(yi d b++(aT je::yi d c)))))
  rw[Vf af,Pz a1 af,Vf af,Pz b1 af,Vf c1,Qx,Qx,Qx,a3,b3,c3];rfl
 |@bin d op a b hb _ _ ia ib =>obtain⟨a1,a2,a3⟩:=ia;obtain⟨b1,b2,b3⟩:=ib;rw[Hg hb,zph hb];refine⟨af,LM (Wk a2) (xa (zNr hb) (Wk b2)),?_⟩;rw[Pz (PA a1) af,Vf (PA b1),PD a1 a3,PD b1 b3,Xp];rfl
def tk(a:T3)(p:Int):ar:=ar.mk a.1 a.2.1 a.2.2 p
def map_nil{l:List ar}(h:l.map t3=[]):l=[]:=List.map_eq_nil_iff.1 h
def map_cons{l:List ar}{a:T3}{ts:List T3}(h:l.map t3=a::ts):∃p l',l=tk a p::l'/\l'.map t3=ts:=by obtain⟨t,l',rfl,rfl,h2⟩:=List.map_eq_cons_iff.1 h;exact⟨t.Pos,l',rfl,h2⟩
def kB{l:List ar}{a b:List T3}(h:l.map t3=a++b):∃l1 l2,l=l1++l2/\l1.map t3=a/\l2.map t3=b:=List.map_eq_append_iff.1 h
def zKv{t:T3}(h:mh t):t.1=0∨t.1=1∨t.1=2:=by
 obtain⟨k,x,n⟩:=t;unfold mh at h;dsimp only at h ⊢
 cases x with
 |nil=>cases h
 |cons c x =>
  rw[yJ]at h;split at h
  .split at h
   .exact .inl (aQ (λy:T3=>y.1) (Except.ok.inj h)).symm
   .cases h
  .split at h
   .split at h
    .exact .inr (.inl (aQ (λy:T3=>y.1) (Except.ok.inj h)).symm)
    .cases h
   .split at h
    .exact .inr (.inr (aQ (λy:T3=>y.1) (Except.ok.inj h)).symm)
    .cases h
def gm.cons{t:ar}{r:List ar}(h:t.aM≠3)(hr:gm r):gm (t::r):=by
 cases r with
 |nil=>exact hr.elim
 |cons u r=>exact⟨h,hr⟩
def zNs{t:T3}(h:mh t):t.1≠3:=by have:=zKv h;omega
def jS{a:T3}{p:Int}{r:List ar}(h:mh a)(hr:gm r):gm (tk a p::r):=gm.cons (zNs h) hr
def qX:∀{ts:List T3}{l r:List ar},ph ts->l.map t3=ts->gm r->gm (l++r)
 |[],l,r,_,h,hr=>by rw[map_nil h];exact hr
 |t::ts,l,r,ho,h,hr=>by obtain⟨p,l',rfl,h2⟩:=map_cons h;exact jS (ho t al) (qX (λx hx=>ho x (gq _ hx)) h2 hr)
def NO(lv:Nat)(r:List ar):Prop:=∀j,lv<=j->pE j r=bh
def NO.le{lv k:Nat}{r:List ar}(h:NO lv r)(hk:lv<=k):NO k r:=λj hj=>h j ab
def J5{r:List ar}{lv:Nat}(h:ra r=bh):NO lv r:=λj _=>by rw[pE,h]
def wh(s:ak)(a:T3)(p:Int)(r:List ar):fK s (tk a p::r)=((!(decide (a.1=3)))&&decide (a.2.1=s)):=rfl
def oS{n:Nat}{s:ak}(h:s.all ye=bd):Lib.decDigits n≠s:=λe=>by have:=YC n;rw[e,h]at this;cases this
def E2{s w:ak}(h:zw s=bg)(hw:zw w=bd):s≠w:=λe=>by rw[e,hw]at h;cases h
def zFh{d:Nat}{e:Expr}(h:OX d e):∀t ts,yi d e=t::ts->(t.2.1=Vk->bR e.Op=0)/\(t.2.1=qE->bR e.Op<=3)/\(t.2.1=yX->bR e.Op<=7):=by
 induction h with
 |@num d n h1 h2 =>
  intro t ts e;obtain⟨rfl,rfl⟩:=List.cons.inj (show[vm n]=t::ts from e);exact⟨λe=>aU e (oS rfl),λe=>aU e (oS rfl),λe=>aU e (oS rfl)⟩
 |@name d s h =>
  intro t ts e;obtain⟨rfl,rfl⟩:=List.cons.inj (show[aT s]=t::ts from e);exact⟨λe=>aU e (E2 h ah),λe=>aU e (E2 h ah),λe=>aU e (E2 h ah)⟩
 |@table d s k h1 h2 =>
  intro t ts e;obtain⟨rfl,_⟩:=List.cons.inj (show[aT yG,aT s,aT k]=t::ts from e);exact⟨λe=>aU e ae,λe=>aU e ae,λe=>aU e ae⟩
 |@lA d s h =>
  intro t ts e;obtain⟨rfl,_⟩:=List.cons.inj (show[aT zR,aT s]=t::ts from e);exact⟨λe=>aU e ae,λe=>aU e ae,λe=>aU e ae⟩
 |@neg d a _ _ =>
  intro t ts e;obtain⟨rfl,_⟩:=List.cons.inj (show iw yX::_=t::ts from e);exact⟨λe=>aU e ae,λe=>aU e ae,λ_=>show bR 9<=7 by decide⟩
 |@not d a _ _ =>
  intro t ts e;obtain⟨rfl,_⟩:=List.cons.inj (show aT qE::_=t::ts from e);exact⟨λe=>aU e ae,λ_=>show bR 15<=3 by decide,λe=>aU e ae⟩
 |@cond d a b c _ _ _ _ _ _ =>
  intro t ts e;obtain⟨rfl,_⟩:=List.cons.inj (show aT Vk::_=t::ts from e);exact⟨λ_=>show bR 16=0 by decide,λe=>aU e ae,λe=>aU e ae⟩
 |@bin d op a b hb ha _ ia _ =>
  intro t ts e;rw[Hg hb]at e
  have hl:1<=bR op/\bR op<=ZF op/\bR op<=6:=by rcases LN hb with rfl|rfl|rfl|rfl|rfl|rfl|rfl|rfl|rfl|rfl<;>decide
  show(_->bR op=0)/\(_->bR op<=3)/\(_->bR op<=7)
  by_cases hp:bR a.Op<ZF op
  .rw[oW,aP hp]at e;obtain⟨rfl,_⟩:=List.cons.inj e;exact⟨λe=>aU e ae,λe=>aU e ae,λe=>aU e ae⟩
  .rw[oW,aO hp]at e
   cases hq:yi d a with
   |nil=>exact aU hq (qW ha).1
   |cons u us =>
    rw[hq]at e;obtain⟨rfl,_⟩:=List.cons.inj e;obtain⟨h1,h2,h3⟩:=ia _ _ hq;exact⟨λe=>by have:=h1 e;omega,λe=>by have:=h2 e;omega,λe=>by have:=h3 e;omega⟩
def X9{x r:List ar}{e:Expr}(hx:gm x)(hr:gm r):∀(n lv k:Nat),lv+n=k->k<=8->(∀j,lv<=j->j<k->¬(j=0/\fK Vk x=bg)/\¬(j=3/\fK qE x=bg)/\¬(j=7/\fK yX x=bg))->NO lv r->DE k x=.ok (e,r)->DE lv x=.ok (e,r)
 |0,lv,k,hk,_,_,_,h=>by
  obtain rfl:lv=k:=ab;exact h
 |n+1,lv,k,hk,h8,hh,hn,h=>by have ih:=X9 hx hr n (lv+1) k ab h8 (λj hj=>hh j ab) (hn.le ab) h;obtain⟨h1,h2,h3⟩:=hh lv aq ab;rw[BC ab hx,aO h1,aO h2,aO h3,ih];exact Yz hr (hn lv aq)
def zYz{l r:List ar}{e:Expr}{p q:Int}{ts:List T3}(ho:ph ts)(hl:l.map t3=ts)(hr:gm r)(h:DE 0 (l++(tk (iw qO) q::r))=.ok (e,tk (iw qO) q::r)):DE 8 (tk (iw AI) p::(l++(tk (iw qO) q::r)))=.ok (e,r):=by
 have hw:gm (tk (iw AI) p::(l++(tk (iw qO) q::r))):=jS rfl (qX ho hl (jS rfl hr));rw[Bl hw,Wc]
 show aD (DE 0 (l++(tk (iw qO) q::r))) _=_
 rw[h];rfl
def Wl{lo hi n p:Int}{r:List ar}(h1:lo<=n)(h2:n<=hi):Jz lo hi (tk (vm n) p::r)=.ok (n,r):=by unfold Jz;rw[aP (show nT (tk (vm n) p::r)=bg from rfl),aP (show lo<=(eP (tk (vm n) p::r)).N/\(eP (tk (vm n) p::r)).N<=hi from⟨h1,h2⟩)];rfl
def zNt{s:ak}{p:Int}{r:List ar}(h:zw s=bg):pa (tk (aT s) p::r)=bg:=by rw[<- h];exact cb _
def Jc{s:ak}{p:Int}{r:List ar}(h:zw s=bg):ja (tk (aT s) p::r)=.ok (s,r):=by unfold ja;rw[aP (zNt h)];rfl
def LO{a:T3}{w:ak}{p:Int}{r:List ar}(h:fK w (tk a p::r)=bg):vd w (tk a p::r)=.ok ((),r):=by unfold vd;rw[aP h];rfl
def ahq(e:Expr)(ts:List T3)(own:Nat):Prop:=(∀l r,l.map t3=ts->gm r->NO own r->DE own (l++r)=.ok (e,r)) /\
 (own=1∨own=2∨own=5∨own=6->∀l r,l.map t3=ts->gm r->NO (own+1) r->DE own (l++r)=LP own e r)
def ack(e:Expr)(ts:List T3):Prop:=(∀(lv:Nat)(l r:List ar),lv<=8->l.map t3=oW ts (bR e.Op) lv->gm r->NO lv r->DE lv (l++r)=.ok (e,r)) /\
 (∀(L:Nat)(l r:List ar),L=1∨L=2∨L=5∨L=6->l.map t3=oW ts (bR e.Op) L->gm r->NO (L+1) r->DE L (l++r)=LP L e r)
def qK{d:Nat}{e:Expr}(h:OX d e){own:Nat}(he:bR e.Op=own)(hp:ahq e (yi d e) own):ack e (yi d e):=by
 obtain⟨g_,tW,_⟩:=qW h;have hh:=zFh h
 have h8:own<=8:=by have:=E0 e.Op;omega
 have hd:∀{x:List ar}{l r:List ar},l.map t3=yi d e->∀j,j<own->¬(j=0/\fK Vk (l++r)=bg)/\¬(j=3/\fK qE (l++r)=bg)/\¬(j=7/\fK yX (l++r)=bg):=λ{x l r} hl j hj=>by
  cases hq:yi d e with
  |nil=>exact aU hq g_
  |cons t ts =>
   rw[hq]at hl;obtain⟨p,l',rfl,_⟩:=map_cons hl;obtain⟨h1,h2,h3⟩:=hh t ts hq
   have tx:∀s,fK s (tk t p::l'++r)=bg->t.2.1=s:=λs e=>by rw[bO,wh,bn]at e;exact aY e.2
   exact⟨λ⟨e1,e2⟩=>by have:=h1 (tx _ e2);omega,λ⟨e1,e2⟩=>by have:=h2 (tx _ e2);omega,λ⟨e1,e2⟩=>by have:=h3 (tx _ e2);omega⟩
 have plain:∀(lv:Nat)(l r:List ar),lv<=own->l.map t3=yi d e->gm r->NO lv r->DE lv (l++r)=.ok (e,r):=λlv l r hl hm hr hn =>X9 (qX tW hm hr) hr (own-lv) lv own ab h8 (λj _ hj=>hd (x:=l) hm j hj) hn (hp.1 l r hm hr (hn.le hl))
 have all:∀(lv:Nat)(l r:List ar),lv<=8->l.map t3=oW (yi d e) (bR e.Op) lv->gm r->NO lv r->DE lv (l++r)=.ok (e,r):=λlv l r hl hm hr hn=>by
  by_cases fZ:bR e.Op<lv
  .rw[oW,aP fZ]at hm;obtain⟨p,l1,rfl,sX⟩:=map_cons hm;obtain⟨l2,l3,rfl,h2,h3⟩:=kB sX;obtain⟨q,l4,rfl,h4⟩:=map_cons h3;obtain rfl:=map_nil h4;have e1:tk (iw AI) p::(l2++[tk (iw qO) q])++r=tk (iw AI) p::(l2++(tk (iw qO) q::r)):=af;rw[e1];have hin:=plain 0 l2 (tk (iw qO) q::r) (bP _) h2 (jS rfl hr) (J5 rfl)
   exact X9 (jS (a:=iw AI) rfl (qX tW h2 (jS (a:=iw qO) rfl hr))) hr (8-lv) lv 8 ab aq
    (λj _ _=>⟨λhh=>aU hh.2 (by rw[wh];decide),λhh=>aU hh.2 (by rw[wh];decide),λhh=>aU hh.2 (by rw[wh];decide)⟩) hn (zYz tW h2 hr hin)
  .rw[oW,aO fZ]at hm;exact plain lv l r ab hm hr hn
 refine⟨all,λL l r hL hm hr hn=>?_⟩;by_cases q8:bR e.Op=L
 .have e1:own=L:=ab;subst e1;rw[oW,aO ab]at hm;exact hp.2 hL l r hm hr hn
 .have e1:oW (yi d e) (bR e.Op) L=oW (yi d e) (bR e.Op) ((L+1:Nat):Int):=by
   unfold oW;by_cases fZ:bR e.Op<L
   .rw[aP fZ,aP ab]
   .rw[aO fZ,aO ab]
  have hx:gm (l++r):=qX (Wk tW) hm hr;rw[BC ab hx,aO ab,aO ab,aO ab,all (L+1) l r ab (by rw[hm,e1]) hr hn];rfl
def zNu{op:Int}(h:pR op=bg){p:Int}{r:List ar}(j:Nat):pE j (tk (rW op) p::r)=if bR op=(j:Int)then bc op else bh:=by
 have:∃o,ra (tk (rW op) p::r)=bc o/\o.form=bR op/\o.op=op:=by
  rcases LN h with rfl|rfl|rfl|rfl|rfl|rfl|rfl|rfl|rfl|rfl<;>exact⟨_,rfl,rfl,rfl⟩
 obtain⟨o,h1,h2,h3⟩:=this;rw[pE,h1];dsimp only;rw[h2,h3]
def zNv{op:Int}(h:pR op=bg){p:Int}{r:List ar}{lv:Nat}(hl:bR op<lv):NO lv (tk (rW op) p::r):=λj hj=>by rw[zNu h,aO ab]
def zFi{d:Nat}{e:Expr}(h:OX d e):ack e (yi d e):=by
 induction h with
 |@num d n h1 h2 =>
  refine qK (own:=8) (.num h1 h2) rfl ⟨λl r hm hr hn=>?_,λh=>ab⟩;obtain⟨p,l,rfl,h⟩:=map_cons (show l.map t3=[vm n] from hm);obtain rfl:=map_nil h
  show DE 8 (tk (vm n) p::r)=_
  rw[Bl (jS (OO h1 h2) hr),Wc,aP (show nT (tk (vm n) p::r)=bg from rfl)];rw[Wl h1 h2];rfl
 |@name d s hs =>
  refine qK (own:=8) (.name hs) rfl ⟨λl r hm hr hn=>?_,λh=>ab⟩;obtain⟨p,l,rfl,h⟩:=map_cons (show l.map t3=[aT s] from hm);obtain rfl:=map_nil h
  have no:∀w,zw w=bd->¬fK w (tk (aT s) p::r)=bg:=λw hw e=>by rw[wh,bn]at e;exact E2 hs hw (aY e.2)
  show DE 8 (tk (aT s) p::r)=_
  rw[Bl (jS (Wj hs) hr),Wc,aO (show ¬nT (tk (aT s) p::r)=bg from λe=>by cases e),aO (no _ ah),aO (no _ ah),aO (no _ ah)];rw[Jc hs];rfl
 |@table d s k h1 h2 =>
  refine qK (own:=8) (.table h1 h2) rfl ⟨λl r hm hr hn=>?_,λh=>ab⟩;obtain⟨p,l,rfl,h⟩:=map_cons (show l.map t3=[aT yG,aT s,aT k] from hm);obtain⟨p2,l2,rfl,ha⟩:=map_cons h;obtain⟨p3,l3,rfl,hb⟩:=map_cons ha;obtain rfl:=map_nil hb
  show DE 8 (tk (aT yG) p::tk (aT s) p2::tk (aT k) p3::r)=_
  rw[Bl (jS (a:=aT yG) rfl (jS (Wj h1) (jS (Wj h2) hr))),Wc,aO (show ¬nT (tk (aT yG) p::tk (aT s) p2::tk (aT k) p3::r)=bg from λe=>by cases e),aP (by rw[wh];decide)]
  show aD (ja (tk (aT s) p2::tk (aT k) p3::r)) _=_
  rw[Jc h1]
  show aD (ja (tk (aT k) p3::r)) _=_
  rw[Jc h2];rfl
 |@lA d s hs =>
  refine qK (own:=8) (.lA hs) rfl ⟨λl r hm hr hn=>?_,λh=>ab⟩;obtain⟨p,l,rfl,h⟩:=map_cons (show l.map t3=[aT zR,aT s] from hm);obtain⟨p2,l2,rfl,ha⟩:=map_cons h;obtain rfl:=map_nil ha
  show DE 8 (tk (aT zR) p::tk (aT s) p2::r)=_
  rw[Bl (jS (a:=aT zR) rfl (jS (Wj hs) hr)),Wc,aO (show ¬nT (tk (aT zR) p::tk (aT s) p2::r)=bg from λe=>by cases e),aO (by rw[wh];decide),aP (by rw[wh];decide)]
  show aD (ja (tk (aT s) p2::r)) _=_
  rw[Jc hs];rfl
 |@neg d a ha ia =>
  refine qK (own:=7) (.neg ha) rfl ⟨λl r hm hr hn=>?_,λh=>ab⟩;obtain⟨p,l,rfl,h⟩:=map_cons (show l.map t3=iw yX::oW (yi d a) (bR a.Op) 7 from hm)
  show DE 7 (tk (iw yX) p::(l++r))=_
  have hw:=jS (a:=iw yX) (p:=p) rfl (qX (Wk (qW ha).2.1) h hr);rw[BC ab hw,aO ab,aO ab,aP ⟨rfl,by rw[wh];decide⟩]
  show aD (DE 7 (l++r)) _=_
  rw[ia.1 7 l r ab h hr hn];rfl
 |@not d a ha ia =>
  refine qK (own:=3) (.not ha) rfl ⟨λl r hm hr hn=>?_,λh=>ab⟩;obtain⟨p,l,rfl,h⟩:=map_cons (show l.map t3=aT qE::oW (yi d a) (bR a.Op) 3 from hm)
  show DE 3 (tk (aT qE) p::(l++r))=_
  have hw:=jS (a:=aT qE) (p:=p) rfl (qX (Wk (qW ha).2.1) h hr);rw[BC ab hw,aO ab,aP ⟨rfl,by rw[wh];decide⟩]
  show aD (DE 3 (l++r)) _=_
  rw[ia.1 3 l r ab h hr hn];rfl
 |@cond d a b c ha hb hc ia ib ic =>
  refine qK (own:=0) (.cond ha hb hc) rfl ⟨λl r hm hr hn=>?_,λh=>ab⟩;obtain⟨p,l,rfl,h⟩:=map_cons (show l.map t3=aT Vk::(yi d a++(aT uc::(yi d b++(aT je::yi d c)))) from hm);obtain⟨l1,m1,rfl,h1,q1⟩:=kB h;obtain⟨p2,m2,rfl,q2⟩:=map_cons q1;obtain⟨l2,m3,rfl,h2,q3⟩:=kB q2;obtain⟨p3,l,rfl,h3⟩:=map_cons q3;have e1:tk (aT Vk) p::(l1++tk (aT uc) p2::(l2++tk (aT je) p3::l))++r=tk (aT Vk) p::(l1++(tk (aT uc) p2::(l2++(tk (aT je) p3::(l++r))))):=af;rw[e1];have w3:=jS (a:=aT je) (p:=p3) rfl (qX (qW hc).2.1 h3 hr);have w2:=jS (a:=aT uc) (p:=p2) rfl (qX (qW hb).2.1 h2 w3);have w1:=jS (a:=aT Vk) (p:=p) rfl (qX (qW ha).2.1 h1 w2);rw[BC ab w1,aP ⟨rfl,by rw[wh];decide⟩,B8]
  show aD (DE 0 (l1++(tk (aT uc) p2::(l2++(tk (aT je) p3::(l++r)))))) _=_
  rw[ia.1 0 l1 _ ab (by rw[h1];exact ED.symm) w2 (J5 rfl)]
  show aD (DE 0 (l2++(tk (aT je) p3::(l++r)))) _=_
  rw[ib.1 0 l2 _ ab (by rw[h2];exact ED.symm) w3 (J5 rfl)]
  show aD (DE 0 (l++r)) _=_
  rw[ic.1 0 l r ab (by rw[h3];exact ED.symm) hr hn];rfl
 |@bin d op a b ho ha hb ia ib =>
  have key:∀{own:Nat},bR op=own->∀l r,l.map t3=yi (d+1) (QG op a b)->gm r->NO (own+1) r->(own=4->DE own (l++r)=.ok (QG op a b,r))/\(own=1∨own=2∨own=5∨own=6->DE own (l++r)=LP own (QG op a b) r):=λ{own} hw l r hm hr hn=>by
   rw[Hg ho]at hm;obtain⟨l1,l,rfl,h1,h⟩:=kB hm;obtain⟨p,l,rfl,h2⟩:=map_cons h;have e1:l1++tk (rW op) p::l++r=l1++(tk (rW op) p::(l++r)):=af;rw[e1];have w2:gm (l++r):=qX (Wk (qW hb).2.1) h2 hr;have w1:gm (tk (rW op) p::(l++r)):=jS (zNr ho) w2;have w0:gm (l1++(tk (rW op) p::(l++r))):=qX (Wk (qW ha).2.1) h1 w1
   have h8:own<=6:=by
    have:bR op<=6:=by rcases LN ho with rfl|rfl|rfl|rfl|rfl|rfl|rfl|rfl|rfl|rfl<;>decide
    omega
   have hB:DE (own+1) (l++r)=.ok (b,r):=ib.1 (own+1) l r ab (by rw[h2,hw];rfl) hr hn
   have zq:LP own a (tk (rW op) p::(l++r))=if own=4 then .ok (QG op a b,r)else LP own (QG op a b) r:=by
    rw[J4 w1,zNu ho,aP hw]
    show aD (DE (own+1) (l++r)) _=_
    rw[hB];rfl
   constructor
   .rintro rfl;rw[BC ab w0,aO ab,aO ab,aO ab,ia.1 5 l1 _ ab (by rw[h1,ZF,aP (show bR op=4 from hw)];rfl) w1 (zNv ho ab)]
    show LP 4 a _=_
    rw[zq,aP rfl]
   .intro hc;rw[ia.2 own l1 _ hc (by rw[h1,ZF,aO ab,hw]) w1 (zNv ho ab),zq,aO ab]
  obtain⟨own,hw⟩:∃own:Nat,bR op=own:=⟨(bR op).toNat,by have:=E0 op;omega⟩
  have hc:own=4∨own=1∨own=2∨own=5∨own=6:=by
   have:bR op=4∨bR op=1∨bR op=2∨bR op=5∨bR op=6:=by rcases LN ho with rfl|rfl|rfl|rfl|rfl|rfl|rfl|rfl|rfl|rfl<;>decide
   omega
  refine qK (own:=own) (.bin ho ha hb) hw ⟨λl r hm hr hn=>?_,λh l r hm hr hn=>(key hw l r hm hr hn).2 h⟩;obtain⟨k1,k2⟩:=key hw l r hm hr (hn.le (Nat.le_succ _))
  rcases hc with h|h
  .exact k1 h
  .rw[k2 h];exact Yz hr (hn own aq)
def V(ts:List T3):Nat:=(sq ts).length
def Wm:V []=0:=rfl
def QH(t:T3)(ts:List T3):V (t::ts)=t.2.1.length+1+V ts:=by unfold V sq;simp only[cN,bO,lc,la];omega
def Vg(a b:List T3):V (a++b)=V a+V b:=by unfold V;rw[TT,la]
def Wn(w:ak)(ts:List T3):V (aT w::ts)=w.length+1+V ts:=QH _ _
def Dl(w:ak)(ts:List T3):V (iw w::ts)=w.length+1+V ts:=QH _ _
def wq(t:ar):Nat:=max (t.Text.length+1) (if t.aM=1 then(Lib.decDigits t.N.toNat).length+1 else 0)
def W:List ar->Nat
 |[]=>0
 |t::r=>wq t+W r
def TU{r:List ar}(h:gm r):W r=wq (eP r)+W r.tail:=by
 cases r with
 |nil=>exact h.elim
 |cons t r=>rfl
def vD(t:ar):t.Text.length+1<=wq t:=Nat.le_max_left ..
def Mg{t:ar}(h:t.aM=1):V [vm t.N]<=wq t:=by unfold wq;rw[aP h,QH,Wm];exact Nat.le_max_right ..
section
variable{α β:Type}{r:List ar}{x:Except EE (α×List ar)}{P:α->Nat->Prop}{Q:β->Nat->Prop}
def RQ(r:List ar)(x:Except EE (α×List ar))(P:α->Nat->Prop):Prop:=match x with
 |.ok (v,r2)=>pe r r2/\∃k,P v k/\k+W r2<=W r
 |.error e=>e.2≠0
def RQ.aD{g:α->List ar->Except EE (β×List ar)}(h:RQ r x P)(hg:∀v r1 k,x=.ok (v,r1)->P v k->pe r r1->RQ r1 (g v r1) λu j=>Q u (k+j)):RQ r (aD x g) Q:=by
 match x,h,hg with
 |.error e,h,_=>exact h
 |.ok (v,r1),⟨h1,k,h2,h3⟩,hg =>
  have h4:=hg v r1 k rfl h2 h1
  show RQ r (g v r1) Q
  generalize g v r1=y at h4
  match y,h4 with
  |.error e,h=>exact h
  |.ok (u,r2),⟨g1,j,g2,g3⟩=>exact⟨h1.trans g1,k+j,g2,ab⟩
def RQ.ret{v:α}(h:gm r)(hq:P v 0):RQ r (.ok (v,r)) P:=⟨pe.refl h,0,hq,ab⟩
def RQ.err{r':List ar}{k:Int}(h:k≠0):RQ r (.error (rf r' k)) P:=h
def RQ.ite{c:Prop}[Decidable c]{y:Except EE (α×List ar)}(h1:c->RQ r x P)(h2:¬c->RQ r y P):RQ r (if c then x else y) P:=by
 split
 .exact h1 ‹_›
 .exact h2 ‹_›
def RQ.mono{P':α->Nat->Prop}(h:RQ r x P)(hq:∀v k,P v k->P' v k):RQ r x P':=by
 match x,h with
 |.error e,h=>exact h
 |.ok (v,r2),⟨h1,k,h2,h3⟩=>exact⟨h1,k,hq v k h2,h3⟩
def RQ.tail{m:Nat}(ht:gm r)(hk:(eP r).aM≠3)(hm:m<=wq (eP r))(h:RQ r.tail x λv k=>P v (m+k)):RQ r x P:=by
 have hw:=TU ht
 match x,h with
 |.error e,h=>exact h
 |.ok (v,r2),⟨h1,k,h2,h3⟩=>exact⟨(zE ht hk).e.trans h1,m+k,h2,ab⟩
def zvy{s:ak}(h:fK s r=bg):(eP r).Text=s:=by simp only[fK,bn,aW]at h;exact h.2
def zNx{s:ak}(h:fK s r=bg):s.length+1<=wq (eP r):=by rw[<- zvy h];exact vD _
def RQ.bt{s:ak}(ht:gm r)(hb:fK s r=bg)(h:RQ r.tail x λv k=>P v (s.length+1+k)):RQ r x P:=h.tail ht (zo hb) (zNx hb)
def qk(h:gm r):RQ r (ja r) λs k=>zw s=bg/\k=s.length+1:=.ite (λhk=>by
 have h2:=hk;simp only[pa,bn]at h2
 exact RQ.tail h (Wb hk) (vD _) (.ret (h.tail (Wb hk)) ⟨h2.2,rfl⟩)) λ_=>.err ae
def Ar{lo hi:Int}(h:gm r):RQ r (Jz lo hi r) λn k=>(lo<=n/\n<=hi)/\k=V [vm n]:=.ite (λhk=>.ite (λhn =>RQ.tail h (Wa hk) (Mg (aY hk)) (.ret (h.tail (Wa hk)) ⟨hn,rfl⟩)) λ_=>.err ae) λ_=>.err ae
def kC{s:ak}(h:gm r):RQ r (vd s r) λ_ k=>k=s.length+1:=.ite (λhb=>RQ.bt h hb (.ret (h.tail (zo hb)) rfl)) λ_=>.err ae
def zNy{b:Bool}{e:Int}(h:gm r)(he:e≠0):RQ r (Vl b e r) λ_ k=>b=bg/\k=0:=.ite (λhb=>.ret h ⟨hb,rfl⟩) λ_=>.err he
def TV{b:Bool}{e:Int}(h:gm r)(he:e≠0):RQ r (se b e r) λ_ k=>b=bg/\k=2:=(zNy h ae).aD λ_ r1 k1 h1 p1 a1=>by
 obtain⟨rfl,hb⟩:=LJ h1
 refine(zNy a1.wf he).aD λ_ r2 k2 h2 p2 a2=>?_
 obtain⟨rfl,hc⟩:=LJ h2;exact RQ.bt a2.wf hb (.ret (a2.wf.tail (zo hb)) ⟨hc,by rw[p1.2,p2.2];rfl⟩)
end
inductive GD:Bool->Nat->Expr->Nat->Prop
 |num {n:Int}:0<=n->n<=1099511627776->GD bg 8 ⟨0,n,[],[],[]⟩ (V [vm n])
 |name {s:ak}:zw s=bg->GD bg 8 ⟨1,0,s,[],[]⟩ (s.length+1)
 |table {s k:ak}:zw s=bg->zw k=bg->GD bg 8 ⟨2,0,s,k,[]⟩ (6+(s.length+1)+(k.length+1))
 |lA {s:ak}:zw s=bg->GD bg 8 ⟨3,0,s,[],[]⟩ (5+(s.length+1))
 |par {e:Expr} {k:Nat}:GD bg 0 e k->GD bg 8 e (k+4)
 |cond {a b c:Expr} {i j k:Nat}:GD bg 0 a i->GD bg 0 b j->GD bg 0 c k->GD bg 0 ⟨16,0,[],[],[a,b,c]⟩ (i+j+k+13)
 |not {a:Expr} {k:Nat}:GD bg 3 a k->GD bg 3 ⟨15,0,[],[],[a]⟩ (k+4)
 |neg {a:Expr} {k:Nat}:GD bg 7 a k->GD bg 7 ⟨9,0,[],[],[a]⟩ (k+2)
 |up {lv:Nat} {e:Expr} {k:Nat}:lv<8->GD bg (lv+1) e k->GD bd lv e k
 |step {lv:Nat} {op:Int} {a b:Expr} {k j:Nat}:bR op=lv->pR op=bg->lv≠4->GD bd lv a k->GD bg (lv+1) b j->GD bd lv (QG op a b) (k+j+((pB op).length+1))
 |cmp {op:Int} {a b:Expr} {k j:Nat}:bR op=4->pR op=bg->GD bg 5 a k->GD bg 5 b j->GD bg 4 (QG op a b) (k+j+((pB op).length+1))
 |done {lv:Nat} {e:Expr} {k:Nat}:GD bd lv e k->GD bg lv e k
def zY0{r:List ar}{lv:Nat}{op:Int}(h:pE lv r=bc op):(pR op=bg/\bR op=lv)/\(eP r).aM≠3/\(pB op).length+1<=wq (eP r):=by
 obtain⟨o,ho,h1,rfl⟩:=Kg h;obtain⟨hk,hm,ht⟩:=kv ho
 have:∀o∈nq,pR o.op=bg/\bR o.op=o.form/\pB o.op=o.text:=by
  intro o ho;simp only[nq,bq,cV,or_false]at ho
  rcases ho with rfl|rfl|rfl|rfl|rfl|rfl|rfl|rfl|rfl|rfl<;>exact⟨rfl,rfl,rfl⟩
 obtain⟨g1,g2,g3⟩:=this o hm;exact⟨⟨g1,g2.trans h1⟩,hk,by rw[g3,<- ht];exact vD _⟩
def zKw:∀(n:Nat),(∀(lv:Nat)(r:List ar),lv<=8->r.length<n->gm r->RQ r (DE lv r) λe k=>GD bg lv e k) /\
  (∀(lv:Nat)(e:Expr)(k:Nat)(r:List ar),lv<8->r.length<n->gm r->GD bg (lv+1) e k∨(lv≠4/\GD bd lv e k)->RQ r (LP lv e r) λe2 j=>GD bg lv e2 (k+j)):=by
 intro n
 induction n with
 |zero=>exact⟨λ_ _ _ h=>ab,λ_ _ _ _ _ h=>ab⟩
 |succ n ih =>
  have zq:∀(lv:Nat)(e:Expr)(k:Nat)(r:List ar),lv<8->r.length<n+1->gm r->GD bg (lv+1) e k∨(lv≠4/\GD bd lv e k)->RQ r (LP lv e r) λe2 j=>GD bg lv e2 (k+j):=by
   intro lv e k r rQ hn hr hg;rw[J4 hr];split
   .exact .ret hr (.done (by rcases hg with hg|hg;exact .up rQ hg;exact hg.2))
   .rename_i op iS;obtain⟨⟨hb,hl⟩,hk,hw⟩:=zY0 iS;have ht:=zE hr hk;have g:=ht.lt;refine RQ.tail hr hk hw ((ih.1 (lv+1) _ ab ab ht.wf).aD λa r1 j h1 k1 a1=>.ite (λh4=>?_) λh4=>?_)
    .subst h4;refine .ret a1.wf ?_;rw[show k+((pB op).length+1+(j+0))=k+j+((pB op).length+1) by omega]
     rcases hg with hg|hg
     .exact GD.cmp hl hb hg k1
     .exact aU rfl hg.1
    .have ga:GD bd lv e k:=by
      rcases hg with hg|hg
      .exact .up rQ hg
      .exact hg.2
     have:=a1.le
     refine(ih.2 lv _ _ _ rQ ab a1.wf (.inr ⟨h4,GD.step hl hb h4 ga k1⟩)).mono λe2 m hm=>?_
     rw[show k+((pB op).length+1+(j+m))=k+j+((pB op).length+1)+m by omega];exact hm
  refine⟨λlv=>?_,zq⟩
  have key:∀(k lv:Nat),8-lv=k->lv<=8->∀(r:List ar),r.length<n+1->gm r->RQ r (DE lv r) λe k=>GD bg lv e k:=by
   intro k
   induction k with
   |zero =>
    intro lv hk hl r hn hr;obtain rfl:lv=8:=ab;rw[Bl hr];have g:=Va hr
    refine .ite (λ_=>(Ar hr).aD λv r1 j h1 p1 a1=>.ret a1.wf (by rw[p1.2];exact .num p1.1.1 p1.1.2)) λ_=>.ite (λhb=>?_) λ_=>.ite (λhb=>?_) λ_=>.ite (λhb=>?_) λ_=>(qk hr).aD λv r1 j h1 p1 a1=>.ret a1.wf (by rw[p1.2];exact .name p1.1)
    .have ht:=hr.tail (zo hb);refine RQ.bt hr hb ((qk ht).aD λv r1 j h1 p1 a1=>(qk a1.wf).aD λu r2 m h2 p2 a2=>.ret a2.wf ?_);rw[p1.2,p2.2,show yG.length+1+(v.length+1+(u.length+1+0))=6+(v.length+1)+(u.length+1) by show 5+1+_=_;omega];exact .table p1.1 p2.1
    .have ht:=hr.tail (zo hb);refine RQ.bt hr hb ((qk ht).aD λv r1 j h1 p1 a1=>.ret a1.wf ?_);rw[p1.2];exact .lA p1.1
    .have ht:=hr.tail (zo hb);refine RQ.bt hr hb ((ih.1 0 _ ab ab ht).aD λv r1 j h1 p1 a1=>(kC a1.wf).aD λu r2 m h2 p2 a2=>.ret a2.wf ?_);rw[p2,show AI.length+1+(j+(qO.length+1+0))=j+4 by show 1+1+(j+(1+1+0))=_;omega];exact .par p1
   |succ k II =>
    intro lv hk hl r hn hr;rw[BC ab hr];have g:=Va hr
    refine .ite (λhb=>?_) λ_=>.ite (λhb=>?_) λ_=>.ite (λhb=>?_) λ_=>(II (lv+1) ab ab r hn hr).aD λa r1 j h1 p1 a1=>?_
    .have ht:=hr.tail (zo hb.2);obtain rfl:lv=0:=hb.1;refine RQ.bt hr hb.2 ((ih.1 0 _ ab ab ht).aD λa r1 k1 h1 p1 a1=>(kC a1.wf).aD λ_ r2 k2 h2 p2 a2=>(ih.1 0 _ ab (by have:=a1.le;have:=a2.le;omega) a2.wf).aD λb r3 k3 h3 p3 a3=>(kC a3.wf).aD λ_ r4 k4 h4 p4 a4=>(ih.1 0 _ ab (by have:=a1.le;have:=a2.le;have:=a3.le;have:=a4.le;omega) a4.wf).aD λc r5 k5 h5 p5 a5=>.ret a5.wf ?_);rw[p2,p4,show Vk.length+1+(k1+(uc.length+1+(k3+(je.length+1+(k5+0)))))=k1+k3+k5+13 by show 2+1+(k1+(4+1+(k3+(4+1+(k5+0)))))=_;omega];exact .cond p1 p3 p5
    .have ht:=hr.tail (zo hb.2);obtain rfl:lv=3:=hb.1;refine RQ.bt hr hb.2 ((ih.1 3 _ ab ab ht).aD λa r1 k1 h1 p1 a1=>.ret a1.wf ?_);rw[show qE.length+1+(k1+0)=k1+4 by show 3+1+(k1+0)=_;omega];exact .not p1
    .have ht:=hr.tail (zo hb.2);obtain rfl:lv=7:=hb.1;refine RQ.bt hr hb.2 ((ih.1 7 _ ab ab ht).aD λa r1 k1 h1 p1 a1=>.ret a1.wf ?_);rw[show yX.length+1+(k1+0)=k1+2 by show 1+1+(k1+0)=_;omega];exact .neg p1
    .have q:=(wU hr h1).lt;exact zq lv a j r1 ab ab a1.wf (.inl p1)
  exact λr hl=>key _ lv rfl hl r
def Oa{lv:Nat}{r:List ar}(hl:lv<=8)(hr:gm r):RQ r (DE lv r) λe k=>GD bg lv e k:=(zKw (r.length+1)).1 lv r hl (cT _) hr
def tQ(b:Bool)(lv:Nat):Int:=if b=bd/\lv=4 then 5 else lv
def YG{t:List T3}{a b:Int}:V (oW t a b)=if a<b then V t+4 else V t:=by
 unfold oW;split
 .rw[Dl,Vg,Dl,Wm];show 1+1+(V t+(1+1+0))=_;omega
 .rfl
def zvz{t:List T3}{a b c:Int}(h:b<=c):V (oW t a b)<=V (oW t a c):=by rw[YG,YG];split<;>split<;>omega
def zv0{b:Bool}{lv:Nat}{e:Expr}{k:Nat}(h:GD b lv e k):∀d,OX d e->V (oW (yi d e) (bR e.Op) (tQ b lv))<=k:=by
 induction h with
 |num h1 h2 =>
  intro d hd
  cases d with
  |zero=>cases hd
  |succ d=>exact du _
 |name h =>
  intro d hd
  cases d with
  |zero=>cases hd
  |succ d=>show V [aT _]<=_;rw[Wn,Wm];dsimp only;omega
 |table h1 h2 =>
  intro d hd
  cases d with
  |zero=>cases hd
  |succ d=>show V [aT yG,aT _,aT _]<=_;rw[Wn,Wn,Wn,Wm];dsimp only;show 5+1+_<=_;omega
 |lA h =>
  intro d hd
  cases d with
  |zero=>cases hd
  |succ d=>show V [aT zR,aT _]<=_;rw[Wn,Wn,Wm];dsimp only;show 4+1+_<=_;omega
 |@par e k _ ih =>
  intro d hd;have:=ih d hd;rw[YG]at this ⊢;split at this<;>split<;>omega
 |@cond a b c i j k _ _ _ ia ib ic =>
  intro d hd
  cases hd with
  |@cond d _ _ _ ha hb hc =>
   have:=ia d ha;have:=ib d hb;have:=ic d hc
   show V (oW (aT Vk::(yi d a++(aT uc::(yi d b++(aT je::yi d c))))) 0 0)<=_
   rw[YG]at *
   have e0:∀op:Int,¬bR op<tQ bg 0:=λop=>by have:=E0 op;show ¬bR op<0;omega
   rw[aO (e0 _)]at *;rw[aO ab];rw[Wn,Vg,Wn,Vg,Wn,show Vk.length=2 from rfl,show uc.length=4 from rfl,show je.length=4 from rfl];omega
 |@not a k _ ih =>
  intro d hd
  cases hd with
  |@not d _ ha =>
   have:=ih d ha
   show V (aT qE::oW (yi d a) (bR a.Op) 3)<=_
   rw[Wn]
   show 3+1+V (oW (yi d a) (bR a.Op) (tQ bg 3))<=_
   omega
 |@neg a k _ ih =>
  intro d hd
  cases hd with
  |@neg d _ ha =>
   have:=ih d ha
   show V (iw yX::oW (yi d a) (bR a.Op) 7)<=_
   rw[Dl]
   show 1+1+V (oW (yi d a) (bR a.Op) (tQ bg 7))<=_
   omega
 |@up lv e k hl _ ih =>
  intro d hd;refine cR (zvz ?_) (ih d hd);unfold tQ;split<;>simp<;>omega
 |@step lv op a b k j hl hb h4 _ _ ia ib =>
  intro d hd
  obtain⟨d,rfl⟩:∃m,d=m+1:=by cases d with
   |zero=>cases hd
   |succ d=>exact⟨d,rfl⟩
  have Im:OX d a/\OX d b:=by
   generalize hx:QG op a b=x at hd
   cases hd with
   |bin h2 p q=>cases hx;exact⟨p,q⟩
   |num _ _=>cases hx
   |name _=>cases hx
   |table _ _=>cases hx
   |lA _=>cases hx
   |neg _=>cases hx
   |not _=>cases hx
   |cond _ _ _=>cases hx
  have q1:=ia d Im.1;have q2:=ib d Im.2;rw[Hg hb]
  show V (oW _ (bR op) (tQ bd lv))<=_
  have e1:tQ bd lv=lv:=aO ab
  have e2:tQ bg (lv+1)=bR op+1:=by rw[hl];rfl
  have e3:ZF op=lv:=by rw[ZF,aO ab];exact hl
  rw[e1]at q1 ⊢;rw[e2]at q2;rw[YG,aO ab,Vg,QH,Xp,e3];omega
 |@cmp op a b k j hl hb _ _ ia ib =>
  intro d hd
  obtain⟨d,rfl⟩:∃m,d=m+1:=by cases d with
   |zero=>cases hd
   |succ d=>exact⟨d,rfl⟩
  have Im:OX d a/\OX d b:=by
   generalize hx:QG op a b=x at hd
   cases hd with
   |bin h2 p q=>cases hx;exact⟨p,q⟩
   |num _ _=>cases hx
   |name _=>cases hx
   |table _ _=>cases hx
   |lA _=>cases hx
   |neg _=>cases hx
   |not _=>cases hx
   |cond _ _ _=>cases hx
  have h1:V (oW (yi d a) (bR a.Op) 5)<=k:=ia d Im.1;have h2:V (oW (yi d b) (bR b.Op) 5)<=j:=ib d Im.2;rw[Hg hb]
  show V (oW _ (bR op) 4)<=_
  rw[YG,aO ab,Vg,QH,Xp,ZF,aP hl,hl]
  show _+(_+V (oW (yi d b) (bR b.Op) 5))<=_
  omega
 |@done lv e k _ ih =>intro d hd;refine cR (zvz ?_) (ih d hd);unfold tQ;split<;>simp<;>omega
def zY1{b:Bool}{lv:Nat}{e:Expr}{k:Nat}(h:GD b lv e k):∀d,Vb e<=d->OX d e:=by
 have pos:∀{d:Nat}{o n:Int}{s k:ak}{az:List Expr},Vb ⟨o,n,s,k,az⟩<=d->∃m,d=m+1/\nU az<=m:=λ{d o n s k az} h=>by rw[Vb]at h;exact⟨d-1,ab,ab⟩
 induction h with
 |num h1 h2=>intro d hd;obtain⟨m,rfl,_⟩:=pos hd;exact .num h1 h2
 |name h=>intro d hd;obtain⟨m,rfl,_⟩:=pos hd;exact .name h
 |table h1 h2=>intro d hd;obtain⟨m,rfl,_⟩:=pos hd;exact .table h1 h2
 |lA h=>intro d hd;obtain⟨m,rfl,_⟩:=pos hd;exact .lA h
 |par _ ih=>exact ih
 |cond _ _ _ ia ib ic =>
  intro d hd;obtain⟨m,rfl,hl⟩:=pos hd;simp only[nU]at hl;exact .cond (ia m ab) (ib m ab) (ic m ab)
 |not _ ih =>
  intro d hd;obtain⟨m,rfl,hl⟩:=pos hd;simp only[nU]at hl;exact .not (ih m ab)
 |neg _ ih =>
  intro d hd;obtain⟨m,rfl,hl⟩:=pos hd;simp only[nU]at hl;exact .neg (ih m ab)
 |up _ _ ih=>exact ih
 |step _ hb _ _ _ ia ib =>
  intro d hd;obtain⟨m,rfl,hl⟩:=pos hd;simp only[nU]at hl;exact .bin hb (ia m ab) (ib m ab)
 |cmp _ hb _ _ ia ib =>
  intro d hd;obtain⟨m,rfl,hl⟩:=pos hd;simp only[nU]at hl;exact .bin hb (ia m ab) (ib m ab)
 |done _ ih=>exact ih
def zNz{d:Nat}{e:Expr}(h:OX d e):Vb e<=d:=by
 induction h with
 |num _ _=>simp[Vb,nU]
 |name _=>simp[Vb,nU]
 |table _ _=>simp[Vb,nU]
 |lA _=>simp[Vb,nU]
 |neg _ ih=>simp only[Vb,nU];omega
 |not _ ih=>simp only[Vb,nU];omega
 |cond _ _ _ i1 i2 i3=>simp only[Vb,nU];omega
 |bin _ _ _ i1 i2=>unfold QG;simp only[Vb,nU];omega
def zN0{b:Bool}{lv:Nat}{e:Expr}{k:Nat}(h:GD b lv e k):wV e<=k:=by
 induction h with
 |num _ _=>rw[QH];simp only[wV,An];omega
 |step _ _ _ _ _ ia ib=>rw[Pe];omega
 |cmp _ _ _ _ ia ib=>rw[Pe];omega
 |_=>first|(simp only[wV,An]at *;omega)|omega
def ij:(∀a b:ak,(a++b).length=a.length+b.length)/\Gp.length=2/\Gs.length=2/\gU.length=1/\wC.length=6/\oC.length=5/\oA.length=3/\yF.length=6/\yE.length=6/\VS.length=4/\ud.length=2:=⟨λ_ _=>List.length_append,rfl,rfl,rfl,rfl,rfl,rfl,rfl,rfl,rfl,rfl⟩
def As{t:ak}{a b:Int}(h:a<b):iM t a b=Gp++(t++Gs):=aP h
def uM{t:ak}{a b:Int}(h:¬a<b):iM t a b=t:=aO h
def ald:Gp.length=2:=rfl
def ale:Gs.length=2:=rfl
def Ng:gU.length=1:=rfl
def ltb:wC.length=6:=rfl
def lzn:oC.length=5:=rfl
def rU:oA.length=3:=rfl
def tY:yF.length=6:=rfl
def Eg:yE.length=6:=rfl
def lnt:VS.length=4:=rfl
def SH:ud.length=2:=rfl
def i29:Gs=[32,41]:=rfl
def ql{e:Expr}{i:Nat}(h:i<e.aZ.length):idx e.aZ (i:Int)=bc (xn e i):=by refine zW ?_;unfold xn;rw[bY,bF h];rfl
def zFl{e:Expr}{i:Nat}(h:i<e.aZ.length):xn e i∈e.aZ:=by unfold xn;rw[bY,bF h];exact dX h
def Ys(RK:Nat)(d:Nat)(e:Expr):Prop:=∀i,i<e.aZ.length->∀(b:ak)(f:Int),b.length+(iM (zF d (xn e i)) (bR (xn e i).Op) f).length<=140737488355328->xN RK b (xn e i) f=bc (b++iM (zF d (xn e i)) (bR (xn e i).Op) f)
def zKy{RK d:Nat}{e:Expr}(ih:Ys RK d e)(hl:e.aZ.length=3){b:ak}(hb:b.length+(oA++(iM (zF d (xn e 0)) (bR (xn e 0).Op) 0++(yF++(iM (zF d (xn e 1)) (bR (xn e 1).Op) 0++(yE++iM (zF d (xn e 2)) (bR (xn e 2).Op) 0))))).length<=140737488355328)(c1 c2:Int)(c3 c4:ak):
  jP (xN RK) ((3:Nat):Int) c1 c2 c3 c4 e.aZ ([oA,yF,yE]:List ak) KK (b,0)=bc (b++(oA++(iM (zF d (xn e 0)) (bR (xn e 0).Op) 0++(yF++(iM (zF d (xn e 1)) (bR (xn e 1).Op) 0++(yE++iM (zF d (xn e 2)) (bR (xn e 2).Op) 0)))))):=by
 obtain⟨k,hk⟩:∃k,KK=k+4:=⟨KK-4,by have:=vZ (n:=100) ab;omega⟩
 simp only[la,rU,tY,Eg]at hb;have i0:idx e.aZ 0=bc (xn e 0):=ql (i:=0) ab;have i1:idx e.aZ 1=bc (xn e 1):=ql (i:=1) ab;have i2:idx e.aZ 2=bc (xn e 2):=ql (i:=2) ab;rw[hk,jP];simp only[show decide ((0:Int)<((3:Nat):Int))=bg from rfl,aH];rw[zt ae,aC,show(([oA,yF,yE]:List ak))[(bQ 0)]?=bc oA from rfl,aC,z7 (by rw[rU];omega),aC,i0,aC];simp only[];rw[ih 0 ab _ _ (by simp only[la,rU];omega),aC,show aS (0+1)=1 from rfl,jP];simp only[show decide ((1:Int)<((3:Nat):Int))=bg from rfl,aH];rw[zt ae,aC,show(([oA,yF,yE]:List ak))[(bQ 1)]?=bc yF from rfl,aC,z7 (by simp only[la,rU,tY];omega),aC,i1,aC];simp only[];rw[ih 1 ab _ _ (by simp only[la,rU,tY];omega),aC,show aS (1+1)=2 from rfl,jP];simp only[show decide ((2:Int)<((3:Nat):Int))=bg from rfl,aH];rw[zt ae,aC,show(([oA,yF,yE]:List ak))[(bQ 2)]?=bc yE from rfl,aC,z7 (by simp only[la,rU,tY,Eg];omega),aC,i2,aC];simp only[];rw[ih 2 ab _ _ (by simp only[la,rU,tY,Eg];omega),aC,show aS (2+1)=3 from rfl,jP];simp only[show decide ((3:Int)<((3:Nat):Int))=bd from rfl,cf,gO]
def zKz{RK d:Nat}{e:Expr}(ih:Ys RK d e)(hl:e.aZ.length=3){b:ak}(hb:b.length+(oA++(iM (zF d (xn e 0)) (bR (xn e 0).Op) 0++(yF++(iM (zF d (xn e 1)) (bR (xn e 1).Op) 0++(yE++iM (zF d (xn e 2)) (bR (xn e 2).Op) 0))))).length<=140737488355328)(c1 c2:Int)(c3 c4:ak):
  jQ (xN RK) ((3:Nat):Int) c1 c2 c3 c4 e.aZ ([oA,yF,yE]:List ak) KK (b,0)=bc (b++(oA++(iM (zF d (xn e 0)) (bR (xn e 0).Op) 0++(yF++(iM (zF d (xn e 1)) (bR (xn e 1).Op) 0++(yE++iM (zF d (xn e 2)) (bR (xn e 2).Op) 0)))))):=by
 obtain⟨k,hk⟩:∃k,KK=k+4:=⟨KK-4,by have:=vZ (n:=100) ab;omega⟩
 simp only[la,rU,tY,Eg]at hb;have i0:idx e.aZ 0=bc (xn e 0):=ql (i:=0) ab;have i1:idx e.aZ 1=bc (xn e 1):=ql (i:=1) ab;have i2:idx e.aZ 2=bc (xn e 2):=ql (i:=2) ab;rw[hk,jQ];simp only[show decide ((0:Int)<((3:Nat):Int))=bg from rfl,aH];rw[zt ae,aC,show(([oA,yF,yE]:List ak))[(bQ 0)]?=bc oA from rfl,aC,z7 (by rw[rU];omega),aC,i0,aC];simp only[];rw[ih 0 ab _ _ (by simp only[la,rU];omega),aC,show aS (0+1)=1 from rfl,jQ];simp only[show decide ((1:Int)<((3:Nat):Int))=bg from rfl,aH];rw[zt ae,aC,show(([oA,yF,yE]:List ak))[(bQ 1)]?=bc yF from rfl,aC,z7 (by simp only[la,rU,tY];omega),aC,i1,aC];simp only[];rw[ih 1 ab _ _ (by simp only[la,rU,tY];omega),aC,show aS (1+1)=2 from rfl,jQ];simp only[show decide ((2:Int)<((3:Nat):Int))=bg from rfl,aH];rw[zt ae,aC,show(([oA,yF,yE]:List ak))[(bQ 2)]?=bc yE from rfl,aC,z7 (by simp only[la,rU,tY,Eg];omega),aC,i2,aC];simp only[];rw[ih 2 ab _ _ (by simp only[la,rU,tY,Eg];omega),aC,show aS (2+1)=3 from rfl,jQ];simp only[show decide ((3:Int)<((3:Nat):Int))=bd from rfl,cf,gO]
def zy5{RK d:Nat}{e:Expr}{b:ak}{f:Int}(hh:xm e=bg)(ih:Ys RK d e)(hb:b.length+(iM (zF (d+1) e) (bR e.Op) f).length<=140737488355328):xN (RK+1) b e f=bc (b++iM (zF (d+1) e) (bR e.Op) f):=by
 obtain⟨⟨h0,h1,hl⟩,⟨n0,n1⟩,hs,hk,_⟩:=YF hh;have hsg:=TR e.Op;have rQ:=E0 e.Op;rw[xN,zT,zFd h0 h1];simp only[aC];by_cases o0:e.Op=0
 .have hT:zF (d+1) e=Lib.decDigits e.N.toNat:=by rw[zF,aP o0]
  rw[hT]at hb ⊢;have hd:=LK (n:=e.N.toNat) ab;by_cases hf:bR e.Op<f
  .rw[As hf]at hb ⊢
   try simp only[ij]at hb
   simp only[dt hf,aH,cf,dt o0,];rw[z7 (by (try simp only[ij]);omega),aC]
   try simp only[]
   rw[Pj n0 ab,aC]
   try simp only[]
   rw[z7 (by (try simp only[ij]);omega),aC]
   try simp only[]
   rw[Ko (by (try simp only[ij]);omega),aC]
   try simp only[]
   try simp only[gO,i29]
  .rw[uM hf]at hb ⊢
   try simp only[ij]at hb
   simp only[df hf,aH,cf,dt o0,];rw[Pj n0 ab,aC]
   try simp only[]
   rw[z7 (by (try simp only[ij]);omega),aC]
   try simp only[]
   try simp only[gO,i29]
 by_cases o1:e.Op=1
 .have hT:zF (d+1) e=e.S:=by rw[zF,aO o0,aP o1]
  rw[hT]at hb ⊢;by_cases hf:bR e.Op<f
  .rw[As hf]at hb ⊢
   try simp only[ij]at hb
   simp only[dt hf,aH,cf,df o0,dt o1,];rw[z7 (by (try simp only[ij]);omega),aC]
   try simp only[]
   rw[z7 (by (try simp only[ij]);omega),aC]
   try simp only[]
   rw[Ko (by (try simp only[ij]);omega),aC]
   try simp only[]
   try simp only[gO,i29]
  .rw[uM hf]at hb ⊢
   try simp only[ij]at hb
   simp only[df hf,aH,cf,df o0,dt o1,];rw[z7 (by (try simp only[ij]);omega),aC]
   try simp only[]
   try simp only[gO,i29]
 by_cases o2:e.Op=2
 .have hT:zF (d+1) e=wC++(e.S++(gU++e.Key)):=by rw[zF,aO o0,aO o1,aP o2]
  rw[hT]at hb ⊢;by_cases hf:bR e.Op<f
  .rw[As hf]at hb ⊢
   try simp only[ij]at hb
   simp only[dt hf,aH,cf,df o0,df o1,dt o2,];rw[z7 (by (try simp only[ij]);omega),aC]
   try simp only[]
   rw[zt (by (try simp only[ij]);omega),aC]
   try simp only[]
   rw[zt (by (try simp only[ij]);omega),aC]
   try simp only[]
   rw[zt (by (try simp only[ij]);omega),aC]
   try simp only[]
   rw[z7 (by (try simp only[ij]);omega),aC]
   try simp only[]
   rw[Ko (by (try simp only[ij]);omega),aC]
   try simp only[]
   try simp only[gO,i29]
  .rw[uM hf]at hb ⊢
   try simp only[ij]at hb
   simp only[df hf,aH,cf,df o0,df o1,dt o2,];rw[zt (by (try simp only[ij]);omega),aC]
   try simp only[]
   rw[zt (by (try simp only[ij]);omega),aC]
   try simp only[]
   rw[zt (by (try simp only[ij]);omega),aC]
   try simp only[]
   rw[z7 (by (try simp only[ij]);omega),aC]
   try simp only[]
   try simp only[gO,i29]
 by_cases o3:e.Op=3
 .have hT:zF (d+1) e=oC++e.S:=by rw[zF,aO o0,aO o1,aO o2,aP o3]
  rw[hT]at hb ⊢;by_cases hf:bR e.Op<f
  .rw[As hf]at hb ⊢
   try simp only[ij]at hb
   simp only[dt hf,aH,cf,df o0,df o1,df o2,dt o3,];rw[z7 (by (try simp only[ij]);omega),aC]
   try simp only[]
   rw[zt (by (try simp only[ij]);omega),aC]
   try simp only[]
   rw[z7 (by (try simp only[ij]);omega),aC]
   try simp only[]
   rw[Ko (by (try simp only[ij]);omega),aC]
   try simp only[]
   try simp only[gO,i29]
  .rw[uM hf]at hb ⊢
   try simp only[ij]at hb
   simp only[df hf,aH,cf,df o0,df o1,df o2,dt o3,];rw[zt (by (try simp only[ij]);omega),aC]
   try simp only[]
   rw[z7 (by (try simp only[ij]);omega),aC]
   try simp only[]
   try simp only[gO,i29]
 by_cases nj:e.Op=16
 .have hT:zF (d+1) e=oA++(iM (zF d (xn e 0)) (bR (xn e 0).Op) 0++(yF++(iM (zF d (xn e 1)) (bR (xn e 1).Op) 0++(yE++iM (zF d (xn e 2)) (bR (xn e 2).Op) 0)))):=by rw[zF,aO o0,aO o1,aO o2,aO o3,aP nj]
  rw[hT]at hb ⊢
  have hn:e.aZ.length=3:=by rw[nj]at hl;have:jb 16=3:=rfl;omega
  have i0:idx e.aZ 0=bc (xn e 0):=ql (i:=0) ab;have i1:idx e.aZ 1=bc (xn e 1):=ql (i:=1) ab;have i2:idx e.aZ 2=bc (xn e 2):=ql (i:=2) ab;by_cases hf:bR e.Op<f
  .rw[As hf]at hb ⊢
   try simp only[ij]at hb
   simp only[dt hf,aH,cf,df o0,df o1,df o2,df o3,dt nj,];rw[z7 (by (try simp only[ij]);omega),aC]
   try simp only[]
   rw[zKy ih hn (by (try simp only[ij]);omega),aC]
   try simp only[]
   rw[Ko (by (try simp only[ij]);omega),aC]
   try simp only[]
   try simp only[gO,i29]
  .rw[uM hf]at hb ⊢
   try simp only[ij]at hb
   simp only[df hf,aH,cf,df o0,df o1,df o2,df o3,dt nj,];rw[zKz ih hn (by (try simp only[ij]);omega),aC]
   try simp only[]
   try simp only[gO,i29]
 by_cases pw:e.Op=15
 .have hT:zF (d+1) e=VS++iM (zF d (xn e 0)) (bR (xn e 0).Op) 3:=by rw[zF,aO o0,aO o1,aO o2,aO o3,aO nj,aP pw]
  rw[hT]at hb ⊢
  have hn:e.aZ.length=1:=by rw[pw]at hl;have:jb 15=1:=rfl;omega
  have i0:idx e.aZ 0=bc (xn e 0):=ql (i:=0) ab
  have hv:bR e.Op=3:=by rw[pw];rfl
  by_cases hf:bR e.Op<f
  .rw[As hf]at hb ⊢
   try simp only[ij]at hb
   simp only[dt hf,aH,cf,df o0,df o1,df o2,df o3,df nj,dt pw,];rw[z7 (by (try simp only[ij]);omega),aC]
   try simp only[]
   rw[z7 (by (try simp only[ij]);omega),aC]
   try simp only[]
   rw[i0,aC]
   try simp only[]
   simp only[hv];rw[ih 0 ab _ _ (by (try simp only[ij]);omega),aC]
   try simp only[]
   rw[Ko (by (try simp only[ij]);omega),aC]
   try simp only[]
   try simp only[gO,i29]
  .rw[uM hf]at hb ⊢
   try simp only[ij]at hb
   simp only[df hf,aH,cf,df o0,df o1,df o2,df o3,df nj,dt pw,];rw[z7 (by (try simp only[ij]);omega),aC]
   try simp only[]
   rw[i0,aC]
   try simp only[]
   simp only[hv];rw[ih 0 ab _ _ (by (try simp only[ij]);omega),aC]
   try simp only[]
   try simp only[gO,i29]
 by_cases o9:e.Op=9
 .have hT:zF (d+1) e=ud++iM (zF d (xn e 0)) (bR (xn e 0).Op) 7:=by rw[zF,aO o0,aO o1,aO o2,aO o3,aO nj,aO pw,aP o9]
  rw[hT]at hb ⊢
  have hn:e.aZ.length=1:=by rw[o9]at hl;have:jb 9=1:=rfl;omega
  have i0:idx e.aZ 0=bc (xn e 0):=ql (i:=0) ab
  have hv:bR e.Op=7:=by rw[o9];rfl
  by_cases hf:bR e.Op<f
  .rw[As hf]at hb ⊢
   try simp only[ij]at hb
   simp only[dt hf,aH,cf,df o0,df o1,df o2,df o3,df nj,df pw,dt o9,];rw[z7 (by (try simp only[ij]);omega),aC]
   try simp only[]
   rw[z7 (by (try simp only[ij]);omega),aC]
   try simp only[]
   rw[i0,aC]
   try simp only[]
   simp only[hv];rw[ih 0 ab _ _ (by (try simp only[ij]);omega),aC]
   try simp only[]
   rw[Ko (by (try simp only[ij]);omega),aC]
   try simp only[]
   try simp only[gO,i29]
  .rw[uM hf]at hb ⊢
   try simp only[ij]at hb
   simp only[df hf,aH,cf,df o0,df o1,df o2,df o3,df nj,df pw,dt o9,];rw[z7 (by (try simp only[ij]);omega),aC]
   try simp only[]
   rw[i0,aC]
   try simp only[]
   simp only[hv];rw[ih 0 ab _ _ (by (try simp only[ij]);omega),aC]
   try simp only[]
   try simp only[gO,i29]
 .have hT:zF (d+1) e=iM (zF d (xn e 0)) (bR (xn e 0).Op) (if bR e.Op=4 then 5 else bR e.Op)++(gU++(pB e.Op++(gU++iM (zF d (xn e 1)) (bR (xn e 1).Op) (bR e.Op+1)))):=by rw[zF,aO o0,aO o1,aO o2,aO o3,aO nj,aO pw,aO o9]
  rw[hT]at hb ⊢
  have hn:e.aZ.length=2:=by
   have:jb e.Op=2:=by unfold jb;rw[aO ab,aO ab,aO nj]
   omega
  have adk:pR e.Op=bg:=by unfold pR;exact dt ab
  have i0:idx e.aZ 0=bc (xn e 0):=ql (i:=0) ab;have i1:idx e.aZ 1=bc (xn e 1):=ql (i:=1) ab
  have hx:(bif (decide (bR e.Op=4))then bc (bR e.Op+1)else bc (bR e.Op))=bc (if bR e.Op=4 then 5 else bR e.Op):=by
   by_cases h4:bR e.Op=4
   .rw[dt h4,aP h4,h4];rfl
   .rw[df h4,aO h4];rfl
  have hw:aS (bR e.Op+1)=bR e.Op+1:=yv ab ab;by_cases hf:bR e.Op<f
  .rw[As hf]at hb ⊢
   try simp only[ij]at hb
   simp only[dt hf,aH,cf,df o0,df o1,df o2,df o3,df nj,df pw,df o9,adk,hx,hw,aC];rw[z7 (by (try simp only[ij]);omega),aC]
   try simp only[]
   rw[i0,aC]
   try simp only[]
   rw[ih 0 ab _ _ (by (try simp only[ij]);omega),aC]
   try simp only[]
   rw[zt (by (try simp only[ij]);omega),aC]
   try simp only[]
   rw[zt (by (try simp only[ij]);omega),aC]
   try simp only[]
   rw[z7 (by (try simp only[ij]);omega),aC]
   try simp only[]
   rw[i1,aC]
   try simp only[]
   rw[ih 1 ab _ _ (by (try simp only[ij]);omega),aC]
   try simp only[]
   rw[Ko (by (try simp only[ij]);omega),aC]
   try simp only[]
   try simp only[gO,i29]
  .rw[uM hf]at hb ⊢
   try simp only[ij]at hb
   simp only[df hf,aH,cf,df o0,df o1,df o2,df o3,df nj,df pw,df o9,adk,hx,hw,aC];rw[i0,aC]
   try simp only[]
   rw[ih 0 ab _ _ (by (try simp only[ij]);omega),aC]
   try simp only[]
   rw[zt (by (try simp only[ij]);omega),aC]
   try simp only[]
   rw[zt (by (try simp only[ij]);omega),aC]
   try simp only[]
   rw[z7 (by (try simp only[ij]);omega),aC]
   try simp only[]
   rw[i1,aC]
   try simp only[]
   rw[ih 1 ab _ _ (by (try simp only[ij]);omega),aC]
   try simp only[]
   try simp only[gO,i29]
def zv1:∀(d:Nat)(e:Expr)(K:Nat)(b:ak)(f:Int),lU d e=bg->d<K->b.length+(iM (zF d e) (bR e.Op) f).length<=140737488355328->xN K b e f=bc (b++iM (zF d e) (bR e.Op) f)
 |0,e,K,b,f,h,_,_=>by cases h
 |d+1,e,K,b,f,h,hK,hb=>by
  obtain⟨K,rfl⟩:∃k,K=k+1:=⟨K-1,ab⟩
  rw[lU,bn]at h;exact zy5 h.1 (λi hi b f hb=>zv1 d _ K b f (bj.1 h.2 _ (zFl hi)) ab hb) hb
def zK0{d:Nat}(h:d<=12):100*4 ^ d<=1677721600:=by have:4 ^ d<=4 ^ 12:=fQ ab h;have:(4:Nat) ^ 12=16777216:=rfl;omega
def at_root{d:Nat}{e:Expr}:iM (zF d e) (bR e.Op) 0=zF d e:=uM (by have:=E0 e.Op;omega)
def zy6{e:Expr}(h:lU 12 e=bg):xN KK [] e 0=bc (zF 12 e):=by have hl:=zvu 12 e h;have hp:=zK0 (d:=12) ab;have:=zv1 12 e KK [] 0 h (vZ ab) (by rw[at_root];simp only[bN];omega);rw[at_root,cl]at this;exact this
end Go.Proofs.YtmjfiffpolkdeaaGreatDoor
