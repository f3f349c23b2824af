/- texts that the proof reaches, part 11 -/
import Derived.Test.YtffencjoddkghaaGreatDoorKj
set_option linter.all false
open Bool renaming false->bd,true->bg,not_true->bW,true_and->cr,not_false->cK,and_false->eL,eq_iff_iff->eW,false_and->fc,false_or->fH
open Int renaming toNat->bX,toNat_natCast->dB,tdiv->lG
open List renaming length->bf,all_eq_true->bj,mem_cons->bq,mem_map->bu,getElem?_eq_some_iff->bx,getElem?_eq_getElem->bz,mem_append->bA,append_nil->bE,length_nil->bI,mem_of_getElem?->bL,nil_append->bN,flatMap_cons->bO,cons_append->bP,getD_eq_getElem?_getD->cg,length_drop->cD,mem_map_of_mem->cF,range->cL,all_cons->cO,mem_nil_iff->cR,foldl_cons->dv,flatMap_nil->dx,length_pos_iff->dz,flatMap_append->dy,drop_drop->dD,isPrefixOf->dE,getElem_mem->dG,getElem?_range->dL,takeWhile->dU,not_mem_nil->eu,length_singleton->eF,takeWhile_append_of_pos->fN,drop_succ_cons->fT,getLast?_eq_none_iff->gC,mem_iff_getElem?->gS,dropWhile->ij,getLast?_append->gT,foldl_nil->gV,mem_of_getLast?->gZ,zip_cons_cons->iE,length_range->iL
open Nat renaming zero_le->cj,lt_succ_self->cS,le_trans->cU,le_refl->dj,testBit->dH,not_lt_zero->ee,add_zero->eg,add_assoc->ei,lt_of_lt_of_le->eB,pow_le_pow_right->eM,mod_eq_of_lt->eN,lt_of_le_of_lt->eY,mod_lt->fD,le_of_lt->gQ,pow_succ->gP
open Option renaming bind->aN,some->bc,none->bh,bind_assoc->cy
open Sum renaming inl->bp,inr->br
open UInt8 renaming ofNat->ew,toNat_inj->fL
set_option maxRecDepth 100000
namespace Go.Proofs.YtffencjoddkghaaGreatDoor
open Go Go.RowKit Go.Eng Go.EV Go.EQ
variable[Fuel]
def zB{p:Prop}{i:Decidable p}(h:p):@grd p i=bc ():=aP h
def xY{n:Int}(h0:-9223372036854775808<=n)(h1:n<=9223372036854775807):EV.w64 n=n:=zAi h0 h1
def zOs{α:Type}[Inhabited α]{l:List α}{i:Nat}(h:i<l.length):idx l (i:Int)=bc (l.getD i default):=by
 unfold idx;rw[aP ⟨ab,ab⟩];rfl
def z7{α:Type}[Inhabited α]{l:List α}{i:Nat}{x:α}(h:l[i]?=bc x):idx l (i:Int)=bc x:=by
 obtain⟨h1,h2⟩:=bx.1 h;rw[zOs h1,cg,h];rfl
def zEg{α:Type}{l:List α}{a b:Nat}(h1:a<=b)(h2:b<=l.length):cut l (a:Int) (b:Int)=bc ((l.take b).drop a):=by
 unfold cut;rw[aP ⟨ab,ab,ab⟩];rfl
def zld{α:Type}{l:List α}{a:Nat}(h1:a<=l.length):cut l (a:Int) (l.length:Int)=bc (l.drop a):=by
 rw[zEg h1 aq,List.take_length]
def yV{n:Nat}(h:n<9223372036854775807):w64 ((n:Int)+1)=((n+1:Nat):Int):=by rw[xY ab ab];rfl
def vJ{n:Nat}(h:n<18446744073709551616):n<KK:=eB h Fuel.big
def xA{α:Type}{l:List α}{i:Nat}{x:α}{r:List α}(h:l.drop i=x::r):l[i]?=bc x/\l.drop (i+1)=r/\i<l.length:=by
 have h0:l[i]?=bc x:=by
  have:=List.getElem?_drop (xs:=l) (i:=i) (j:=0);rw[h]at this;simpa using this.symm
 refine⟨h0,?_,(bx.1 h0).1⟩;rw[<- dD,h];rfl
def drop_nil{α:Type}{l:List α}{i:Nat}(h:l.drop i=[])(hi:i<=l.length):i=l.length:=by
 have:=aQ bf h;simp at this;omega
-- bytes
def kf(c:UInt8):Bool:=decide (97<=c.toNat)&&decide (c.toNat<=122)
def xi(c:UInt8):Bool:=decide (48<=c.toNat)&&decide (c.toNat<=57)
def yv(c:UInt8):Bool:=decide (c.toNat=32)||(decide (c.toNat=9)||decide (c.toNat=10))
def xb(c:UInt8):Bool:=kf c||xi c
def ztd(a b:Bool):(bif a then bc b else bc bd)=bc (a&&b):=by cases a<;>rfl
def zv6(a b:Bool):(bif a then bc bg else bc b)=bc (a||b):=by cases a<;>rfl
def yE{p q:Prop}{i:Decidable p}{j:Decidable q}(h:p↔q):@decide p i=@decide q j:=by
 by_cases hq:q
 ·rw[dt hq,dt (h.2 hq)]
 ·rw[df hq,df (λhp=>hq (h.1 hp))]
def zOt(n m:Nat){a:Int}(h:a=(m:Int)):decide ((n:Int)>=a)=decide (m<=n):=yE ab
def zik(n m:Nat){a:Int}(h:a=(m:Int)):decide ((n:Int)<=a)=decide (n<=m):=yE ab
def zEh(n m:Nat){a:Int}(h:a=(m:Int)):decide ((n:Int)=a)=decide (n=m):=yE ab
def zle(c:UInt8):qw ((c.toNat:Nat):Int)=bc (kf c):=by
 unfold qw;rw[ztd,kf,zOt _ 97 (a:=97) rfl,zik _ 122 (a:=122) rfl]
def zte(c:UInt8):uq ((c.toNat:Nat):Int)=bc (xi c):=by
 unfold uq;rw[ztd,xi,zOt _ 48 (a:=48) rfl,zik _ 57 (a:=57) rfl]
def zS5(c:UInt8):KE ((c.toNat:Nat):Int)=bc (yv c):=by
 unfold KE;rw[zv6,zv6,yv,zEh _ 32 (a:=32) rfl,zEh _ 9 (a:=9) rfl,zEh _ 10 (a:=10) rfl]
def zEi(c:UInt8):oG ((c.toNat:Nat):Int)=bc (xb c):=by
 unfold oG;rw[zle,bsQ,zte,bsQ,zv6,xb]
-- runs of bytes
def zbx(l:ak)(f:UInt8->Bool)(G:UInt8->Option Bool)(F:Nat->Int->Option Int)(hG:∀b,G b=bc (f b))
  (hF:∀K q,F (K+1) q=((bif (decide (q<((bf l:Nat):Int)))then(idx l q).bind G else bc bd)).bind λx1=>(bif x1 then F K (w64 (q+1))else bc q)) (hl:l.length<4611686018427387904):
  ∀(r:ak)(i K:Nat),l.drop i=r->i<=l.length->r.length<K->F K (i:Int)=bc ((i+(r.takeWhile f).length:Nat):Int):=by
 intro r
 induction r with
 |nil =>
  intro i K hr hi hK
  obtain⟨K,rfl⟩:∃k,K=k+1:=⟨K-1,ab⟩
  have:=drop_nil hr hi;rw[hF,df ab];simp
 |cons c r ih =>
  intro i K hr hi hK
  obtain⟨K,rfl⟩:∃k,K=k+1:=⟨K-1,ab⟩
  obtain⟨h1,h2,h3⟩:=xA hr;simp only[lc]at hK;rw[hF,dt ab,ctQ,z7 h1,bsQ,hG,bsQ]
  cases hc:f c with
  |false=>simp[dU,hc]
  |true =>
   rw[ctQ,yV ab,ih (i+1) K h2 ab ab];simp only[dU,hc,lc]
   congr 2;omega
def vK(f:UInt8->Bool)(l:ak):Nat:=(l.takeWhile f).length
def Hr(f:UInt8->Bool)(l:ak):vK f l<=l.length:=(List.takeWhile_sublist _).length_le
def zet{α:Type}(o:Option α):(o.bind λx=>bc x)=o:=by cases o<;>rfl
def zY1{s:ak}(h:s.length<4611686018427387904):zbg s=bc ((vK yv s:Nat):Int):=by
 unfold zbg;rw[zet,show((0:Int))=((0:Nat):Int) from rfl,zbx s yv (λx2=>aN (KE ((x2.toNat:Nat):Int)) λx3=>bc x3) (Jx s) (λb=>by rw[zS5];rfl) (λK q=>rfl) h s 0 KK rfl ab (vJ ab)];simp[vK]
def zS6{s:ak}(h:s.length<4611686018427387904):Qs s=bc ((vK xb s:Nat):Int):=by
 unfold Qs;rw[zet,show((0:Int))=((0:Nat):Int) from rfl,zbx s xb (λx2=>aN (Qr ((x2.toNat:Nat):Int)) λx3=>bc x3) (uZ s) (λb=>by rw[show Qr=oG from rfl,zEi];rfl) (λK q=>rfl) h s 0 KK rfl ab (vJ ab)];simp[vK]
def zS7{s:ak}(h:s.length<4611686018427387904):Qt s=bc ((vK xb s:Nat):Int):=by
 unfold Qt;rw[zet,show((0:Int))=((0:Nat):Int) from rfl,zbx s xb (λx2=>aN (oG ((x2.toNat:Nat):Int)) λx3=>bc x3) (u0 s) (λb=>by rw[zEi];rfl) (λK q=>rfl) h s 0 KK rfl ab (vJ ab)];simp[vK]
def zEj{s:ak}(h:s.length<4611686018427387904):HE s=bc ((vK xi s:Nat):Int):=by
 unfold HE;rw[zet,show((0:Int))=((0:Nat):Int) from rfl,zbx s xi (λx2=>aN (uq ((x2.toNat:Nat):Int)) λx3=>bc x3) (u5 s) (λb=>by rw[zte];rfl) (λK q=>rfl) h s 0 KK rfl ab (vJ ab)];simp[vK]
def zv7{f:UInt8->Bool}{l:ak}:vK f l=l.length↔l.all f=bg:=by
 induction l with
 |nil=>simp[vK]
 |cons c l ih =>
  simp only[vK,dU,cO]at ih ⊢
  cases f c with
  |false=>simp
  |true=>simp only[lc,cr,<- ih];omega
-- words
def Kp(s:ak):Bool:=match s with
 |[]=>bd
 |c::r=>kf c&&(decide (s.length<=20)&&r.all xb)
def zOu{s:ak}(h:s.length<4611686018427387904):WN s=bc (Kp s):=by
 unfold WN
 cases s with
 |nil=>rfl
 |cons c r =>
  rw[df af,cf,show((0:Int))=((0:Nat):Int) from rfl,z7 (x:=c) rfl,bsQ,zle,bsQ,zv6,bsQ,zS7 h,bsQ]
  have e:decide ((vK xb (c::r):Int)=(((c::r).length:Nat):Int))=(xb c&&r.all xb):=by
   rw[<- cO,eW,decide_eq_true_iff,<- zv7];omega
  rw[e,Kp]
  cases hc:kf c with
  |false=>simp
  |true =>
   have:xb c=bg:=by rw[xb,hc];rfl
   rw[this];by_cases h20:(c::r).length<=20
   ·rw[dt h20,df ab];simp
   ·rw[df h20,dt ab];simp
def H7(s:ak):List ak->Option Nat
 |[]=>bh
 |x::r=>if x=s then bc 0 else(H7 s r).map (·+1)
def K3:Option Nat->Int
 |some i=>(i:Int)
 |none=>-1
def zpx{s:ak}:∀{l:List ak}{i:Nat},H7 s l=bc i->l[i]?=bc s
 |x::r,i,h=>by
  rw[H7]at h;split at h
  ·rename_i e;cases h;simp[e]
  ·obtain⟨j,h1,rfl⟩:=Option.map_eq_some_iff.1 h
   simpa using zpx h1
def RES:List ak:=[zDf,qs,AX,Ko,xJ,xh,xe,vE,xW,vA,WL,zft,vO,um,zXe,yr,qt,jN,jH,Af,ym,uR,xK,Ag,wB,ql,yR]
def zN(s:ak):Bool:=Kp s&&!(decide (s∈RES))
def ztf:List ak->ak
 |[]=>[32]
 |w::r=>32::(w++ztf r)
def zKr:∀l,∃t,ztf l=32::t
 |[]=>⟨[],rfl⟩
 |w::r=>⟨_,rfl⟩
def zOv{t:ak}:∀{s w:ak},(∀b∈s,b≠32)->(∀b∈w,b≠32)->(s++[32]).isPrefixOf (w++32::t)=decide (s=w)
 |[],[],_,_=>by simp[dE]
 |[],b::w,_,h=>by
  have:=h b al;simp[dE,Ne.symm this]
 |a::s,[],h,_=>by
  have:=h a al;simp[dE,this]
 |a::s,b::w,h,h'=>by
  have ih:=zOv (t:=t) (s:=s) (w:=w) (λx hx=>h x (mcQ _ hx)) (λx hx=>h' x (mcQ _ hx));simp only[bP,dE,ih];by_cases e:a=b
  ·subst e;simp
  ·simp[e]
def zv8{x y:ak}:∀{w:ak},(∀b∈w,b≠32)->Ky (w++x) (32::y)=Ky x (32::y)
 |[],_=>rfl
 |b::w,h=>by
  have h1:=h b al;rw[bP,Ky,zv8 λc hc=>h c (mcQ _ hc)];simp[dE,Ne.symm h1]
def zpy{s:ak}(hs:∀b∈s,b≠32):∀{l:List ak},(∀w∈l,∀b∈w,b≠32)->Ky (ztf l) (32::(s++[32]))=decide (s∈l)
 |[],_=>by cases s<;>simp[ztf,Ky,dE]
 |w::r,h=>by
  obtain⟨t,ht⟩:=zKr r;have hw:=h w al;rw[ztf,Ky,zv8 hw,zpy hs λx hx=>h x (mcQ _ hx)]
  have:(32::(s++[32])).isPrefixOf (32::(w++ztf r))=decide (s=w):=by
   rw[ht];simp only[dE,beq_self_eq_true,cr];exact zOv hs hw
  rw[this];by_cases e:s=w
  ·simp[e]
  ·simp[e]
def zKs{c:UInt8}(h:xb c=bg):c≠32:=by
 rintro rfl;revert h;decide
def Zr{s:ak}(h:Kp s=bg):s.all xb=bg:=by
 cases s with
 |nil=>cases h
 |cons c r =>
  simp only[Kp,bn]at h;simp only[cO,xb,h.1,Bool.true_or,cr];exact h.2.2
def zv9{s:ak}(h:Kp s=bg):s.length<=20/\s≠[]:=by
 cases s with
 |nil=>cases h
 |cons c r =>
  simp only[Kp,bn,aW]at h;exact⟨h.2.1,af⟩
def xj{s:ak}(h:s.length<4611686018427387904):Q0 s=bc (zN s):=by
 unfold Q0 zN;rw[zOu h,bsQ]
 cases hw:Kp s with
 |false=>rfl
 |true =>
  have h20:=(zv9 hw).1
  have hs:∀b∈s,b≠32:=λb hb=>zKs (bj.1 (Zr hw) b hb)
  have e:=zpy hs (l:=RES) ae
  have e2:ztf RES=zh:=ae
  rw[e2]at e;rw[ctQ,zB (by simp[t__];omega),bsQ,zB (by simp[t__];omega),bsQ]
  have:Qv zh ((t__++s)++t__)=bc (decide (s∈RES)):=by
   unfold Qv Qp;rw[zB ae,bsQ,<- e];rfl
  rw[this];rfl
def zzb(c:UInt8):Nat:=c.toNat-48
def Zs:ak->Nat->Nat
 |[],n=>n
 |c::r,n=>Zs r (10*n+zzb c)
def VC(n:Nat)(r:ak):Nat:=Zs r n
def Zt(n:Nat)(c:UInt8)(r:ak):VC n (c::r)=VC (10*n+zzb c) r:=by simp only[VC,Zs]
def zOw(s:ak):Option Nat:=if s.all xi=bg/\s≠[]/\(s.head?=bc 48->s=[48])/\VC 0 s<=1099511627776 then bc (VC 0 s)else bh
def numR(s:ak):Int×Bool:=match zOw s with
 |some v=>((v:Int),bg)
 |none=>(0,bd)
def zEk:∀(r:ak)(n:Nat),n*10 ^ r.length<=VC n r
 |[],n=>by simp[VC,Zs]
 |c::r,n=>by
  have:=zEk r (10*n+zzb c);rw[Zt];refine cU ?_ this;rw[lc,gP,Nat.mul_comm (10 ^ r.length) 10,<- Nat.mul_assoc];exact Nat.mul_le_mul_right _ ab
def zlf{c:UInt8}(h:xi c=bg):48<=c.toNat/\c.toNat<=57:=by
 simp only[xi,bn,aW]at h;exact h
def zS8(s:ak)(hl:s.length<=13):∀(r:ak)(i K n:Nat),s.drop i=r->i<=s.length->r.length<K->r.all xi=bg->n<10 ^ i->jf s (s.length:Int) K ((n:Int),(i:Int))=bc ((VC n r:Nat):Int):=by
 intro r
 induction r with
 |nil =>
  intro i K n hr hi hK hd hn
  obtain⟨K,rfl⟩:∃k,K=k+1:=⟨K-1,ab⟩
  have:=drop_nil hr hi;rw[jf,df (show ¬((i:Int)<(s.length:Int)) by omega)];rfl
 |cons c r ih =>
  intro i K n hr hi hK hd hn
  obtain⟨K,rfl⟩:∃k,K=k+1:=⟨K-1,ab⟩
  obtain⟨h1,h2,h3⟩:=xA hr;simp only[lc]at hK;simp only[cO,bn]at hd;have hc:=zlf hd.1;have h13:10 ^ i<=10 ^ 12:=eM ab ab
  have h13':(10:Nat) ^ 12=1000000000000:=ae
  have hw:IntKind.u8.wrap (((c.toNat:Nat):Int)-48)=((zzb c:Nat):Int):=by
   unfold IntKind.wrap zzb;simp only[IntKind.bits,IntKind.signed];simp;omega
  have hdv:zzb c<=9:=by unfold zzb;omega
  rw[jf,dt (show((i:Int)<(s.length:Int)) by omega),ctQ,z7 h1,bsQ,hw];simp only
  rw[xY (n:=10*(n:Int)) ab ab,xY (n:=((zzb c:Nat):Int)) ab ab,xY ab ab,yV ab,
   show(10*(n:Int)+((zzb c:Nat):Int))=((10*n+zzb c:Nat):Int) by omega]
  rw[ih (i+1) K _ h2 ab ab hd.2 (by rw[gP];omega),Zt]
def zKt{s:ak}(h:s.length<4611686018427387904):Qu s=bc (numR s):=by
 unfold Qu numR zOw
 cases s with
 |nil=>rfl
 |cons c r =>
  have e1:decide ((c::r)=([]:ak))=bd:=af
  have e2:decide (((vK xi (c::r):Nat):Int)=(((c::r).length:Nat):Int))=(c::r).all xi:=by
   rw[eW,decide_eq_true_iff,<- zv7];omega
  rw[e1,cf,zEj h,bsQ,e2]
  cases hd:(c::r).all xi with
  |false=>simp[hd]
  |true =>
   have e3:decide (((c.toNat:Nat):Int)=48)=decide (c=48):=yE ⟨λh=>fL.1 (by simpa using(by omega:c.toNat=48)),λh=>by subst h;rfl⟩;rw[bW,cf,show(0:Int)=((0:Nat):Int) from rfl,z7 (x:=c) rfl,bsQ,e3];by_cases h48:c=48/\r≠[]
   ·obtain⟨rfl,hr⟩:=h48
    have:decide ((48::r)=t_0)=bd:=df (by simp[t_0,hr]);rw[this];simp[hd,hr]
   ·have hv:((c::r).head?=bc 48->(c::r)=[48]):=λe=>by
     simp at e;subst e
     have:r=[]:=Classical.byContradiction λhr=>h48 ⟨rfl,hr⟩
     rw[this]
    have e4:(bif decide (c=48)then(bif (!(decide ((c::r)=t_0)))then bc bg else bc (decide ((((c::r).length:Nat):Int)>13)))else bc (decide ((((c::r).length:Nat):Int)>13)))=bc (decide (13<(c::r).length)):=by
     have e5:decide ((((c::r).length:Nat):Int)>13)=decide (13<(c::r).length):=yE ab;rw[e5];by_cases hc:c=48
     ·subst hc
      have:=hv rfl;rw[this];rfl
     ·rw[df hc,cf]
    rw[e4,bsQ];by_cases h13:13<(c::r).length
    ·rw[dt h13,ctQ]
     have hc:=zlf (c:=c) (by simp only[cO,bn]at hd;exact hd.1)
     have hc2:c≠48:=λe=>by
      subst e;rw[hv rfl]at h13;simp at h13
     have hc3:c.toNat≠48:=λe=>hc2 (fL.1 (by simpa using e))
     have hg:1099511627776<VC 0 (c::r):=by
      rw[Zt];refine eB ?_ (zEk r _);simp only[lc]at h13;have h1:10 ^ 13<=10 ^ r.length:=eM ab ab
      have h2:1<=10*0+zzb c:=by unfold zzb;omega
      have h3:=Nat.mul_le_mul h2 h1
      have h4:(10:Nat) ^ 13=10000000000000:=ae
      omega
     rw[aO (λhh=>ab)]
    ·rw[df h13,cf,show((0:Nat):Int)=((0:Nat):Int) from rfl,zS8 (c::r) ab (c::r) 0 KK 0 rfl ab (vJ ab) hd ab,bsQ]
     have e6:decide (((VC 0 (c::r):Nat):Int)>1099511627776)=!decide (VC 0 (c::r)<=1099511627776):=by
      rw[<- decide_not];exact yE ab
     rw[e6];by_cases hg:VC 0 (c::r)<=1099511627776
     ·rw[aP ⟨rfl,af,hv,hg⟩,dt hg];rfl
     ·rw[aO (λhh=>hg hh.2.2.2),df hg];rfl
def SG:List ak:=[qX,qY,yc,kP,xQ,AQ,zgd,zgb,xa,zga,zgc,zf9,AP,qu]
def zlg(s:ak):Option ak:=SG.find? λx=>x.isPrefixOf s
def tkS(s:ak):Except Int (Int×ak×Int):=match s with
 |[]=>.error 13
 |c::_=>if kf c then(if(s.takeWhile xb).length<=20 then .ok (0,s.takeWhile xb,0)else .error 15)
  else if xi c then(match zOw (s.takeWhile xi)with|some v=>.ok (1,s.takeWhile xi,(v:Int))|none=>.error 3)
  else match zlg s with|some t=>.ok (2,t,0)|none=>.error 13
def tokR:Except Int (Int×ak×Int)->Int×Int×ak×Int×Int
 |.ok (k,t,n)=>(0,k,t,n,0)
 |.error e=>(e,0,[],0,0)
def zeu(f:UInt8->Bool)(s:ak):s.take (vK f s)=s.takeWhile f:=by
 induction s with
 |nil=>rfl
 |cons c s ih =>
  simp only[vK,dU]at ih ⊢
  cases f c with
  |false=>rfl
  |true=>simp only[lc,List.take_succ_cons,ih]
def Ya(f:UInt8->Bool)(s:ak):s.drop (vK f s)=s.dropWhile f:=by
 induction s with
 |nil=>rfl
 |cons c s ih =>
  simp only[vK,dU,ij]at ih ⊢
  cases f c with
  |false=>rfl
  |true=>simp only[lc,fT,ih]
def zlh(f:UInt8->Bool)(s:ak):(s.takeWhile f).all f=bg:=by
 induction s with
 |nil=>rfl
 |cons c s ih =>
  simp only[dU]
  cases h:f c with
  |false=>rfl
  |true=>simp[h,ih]
def zEl{c:UInt8}{r:ak}(hc:kf c=bg):Kp ((c::r).takeWhile xb)=decide (((c::r).takeWhile xb).length<=20):=by
 have h:=zlh xb (c::r)
 have ha:xb c=bg:=by rw[xb,hc];rfl
 simp only[dU,ha]at h ⊢;simp only[cO,ha,cr]at h;rw[Kp,hc,h];simp
def zY2(s:ak):∀(r:List ak)(i K:Nat),SG.drop i=r->i<=14->r.length<K->qx s qX qY yc kP xQ AQ zgd zgb xa zga zgc zf9 AP qu 0 ([]:ak) K (i:Int)=bc (match r.find? λx=>x.isPrefixOf s with|some t=>.inl (0,2,t,0,0)|none=>.inr ()):=by
 intro r
 induction r with
 |nil =>
  intro i K hr hi hK
  obtain⟨K,rfl⟩:∃k,K=k+1:=⟨K-1,ab⟩
  have:=drop_nil hr hi;have:i=14:=this;rw[qx,df ab];rfl
 |cons c r ih =>
  intro i K hr hi hK
  obtain⟨K,rfl⟩:∃k,K=k+1:=⟨K-1,ab⟩
  obtain⟨h1,h2,h3⟩:=xA hr;have h3:i<14:=h3;simp only[lc]at hK;have hx:idx (α:=ak) ([qX,qY,yc,kP,xQ,AQ,zgd,zgb,xa,zga,zgc,zf9,AP,qu]:List ak) (i:Int)=bc c:=z7 h1;rw[qx,dt ab,ctQ,hx,bsQ,show Vn s c=bc (c.isPrefixOf s) from rfl,bsQ,List.find?_cons]
  cases c.isPrefixOf s with
  |true=>rfl
  |false=>rw[cf,yV ab,ih (i+1) K h2 ab ab]
def zKu{c:UInt8}{r:ak}:idx (c::r) 0=bc c:=z7 (i:=0) rfl
def Yb{α:Type}{l:List α}{b:Nat}(h:b<=l.length):cut l 0 (b:Int)=bc (l.take b):=zEg (a:=0) (cj _) h
def vX(c:UInt8)(r:ak):tkS (c::r)=(if kf c then(if((c::r).takeWhile xb).length<=20 then .ok (0,(c::r).takeWhile xb,0)else .error 15)
  else if xi c then(match zOw ((c::r).takeWhile xi)with|some v=>.ok (1,(c::r).takeWhile xi,(v:Int))|none=>.error 3)
  else match zlg (c::r)with|some t=>.ok (2,t,0)|none=>.error 13):=rfl
def zY3{s:ak}(h:s.length<4611686018427387904)(h0:s≠[]):zbh s=bc (tokR (tkS s)):=by
 cases s with
 |nil=>exact aU rfl h0
 |cons c r =>
  unfold zbh;rw[vX,zKu,bsQ,zle,bsQ]
  cases hc:kf c with
  |true =>
   rw[ctQ,zS6 h,bsQ,Yb (Hr _ _),bsQ,zeu];have ht:((c::r).takeWhile xb).length<4611686018427387904:=eY (Hr xb _) h;rw[zOu ht,bsQ,zEl hc,aP rfl];by_cases h20:((c::r).takeWhile xb).length<=20
   ·rw[dt h20,aP h20];rfl
   ·rw[df h20,aO h20];rfl
  |false =>
   rw[cf,bsQ,zte,bsQ,aO af]
   cases hd:xi c with
   |true =>
    rw[ctQ,zEj h,bsQ,Yb (Hr _ _),bsQ,zeu];have ht:((c::r).takeWhile xi).length<4611686018427387904:=eY (Hr xi _) h;rw[zKt ht,bsQ,numR,aP rfl]
    cases zOw ((c::r).takeWhile xi)with
    |none=>rfl
    |some v=>rfl
   |false =>
    rw[cf,aO af];have:=zY2 (c::r) SG 0 KK rfl ab (vJ ae);rw[show(((0:Nat):Int))=(0:Int) from rfl]at this;rw[this,zlg]
    cases SG.find? λx=>x.isPrefixOf (c::r)with
    |none=>rfl
    |some t=>rfl
-- the reference
def ONE:ak:=xw
def SG_hd:∀x∈SG,∃a t,x=a::t/\a∈ONE:=by
 intro x hx;simp only[SG,bq,cR,or_false]at hx
 rcases hx with rfl|rfl|rfl|rfl|rfl|rfl|rfl|rfl|rfl|rfl|rfl|rfl|rfl|rfl<;>exact⟨_,_,rfl,ae⟩
def zil{c:UInt8}{r:ak}(h:c ∉ ONE):zlg (c::r)=bh:=by
 rw[zlg,List.find?_eq_none];intro x hx hp;obtain⟨a,t,rfl,ha⟩:=SG_hd x hx;simp only[dE,bn,beq_iff_eq]at hp;exact h (hp.1▸ha)
def zwa{c:UInt8}{r:ak}:zlg (c::r)=if r.head?=bc 61/\(c=60∨c=61)then bc [c,61]else if c∈ONE then bc [c]else bh:=by
 by_cases h:c∈ONE
 ·rw[aP h]
  simp only[ONE,xw,bq,cR,or_false]at h
  cases r with
  |nil=>rcases h with rfl|rfl|rfl|rfl|rfl|rfl|rfl|rfl|rfl|rfl|rfl|rfl<;>rfl
  |cons d r =>
   by_cases hd:d=61
   ·subst hd
    rcases h with rfl|rfl|rfl|rfl|rfl|rfl|rfl|rfl|rfl|rfl|rfl|rfl<;>simp[zlg,SG,List.find?,dE,qX,qY,yc,kP,xQ,AQ,zgd,zgb,xa,zga,zgc,zf9,AP,qu]
   ·have hd2:((61:UInt8)==d)=bd:=by simp[Ne.symm hd]
    rcases h with rfl|rfl|rfl|rfl|rfl|rfl|rfl|rfl|rfl|rfl|rfl|rfl<;>simp[zlg,SG,List.find?,dE,qX,qY,yc,kP,xQ,AQ,zgd,zgb,xa,zga,zgc,zf9,AP,qu,hd,hd2]
 ·rw[zil h,aO (λhh=>h (by rcases hh.2 with rfl|rfl<;>decide)),aO h]
def takeWhile_cons{f:UInt8->Bool}{c:UInt8}{r:ak}(h:f c=bg):(c::r).takeWhile f=c::r.takeWhile f:=by simp[dU,h]
def K4(p:Nat):ar:=ar.mk 3 [] 0 (p:Int)
def zaw:Nat->Nat->ak->Except (Nat×Int) (List ar)
 |0,p,_=>.ok [K4 p]
 |n+1,p,s=>match s.dropWhile yv with
  |[]=>.ok [K4 (p+vK yv s)]
  |c::r=>match tkS (c::r)with
   |.error e=>.error (p+vK yv s,e)
   |.ok (k,t,v)=>match zaw n (p+vK yv s+t.length) ((c::r).drop t.length)with
    |.error e=>.error e
    |.ok l=>.ok (ar.mk k t v ((p+vK yv s:Nat):Int)::l)
def zVk(s:ak):Except (Nat×Int) (List ar):=zaw (s.length+1) 0 s
def lexR:Except (Nat×Int) (List ar)->List ar×Int×Int
 |.ok l=>(l,0,0)
 |.error (p,e)=>([],(p:Int),e)
def zli{s t:ak}{k n:Int}(h:tkS s=.ok (k,t,n)):t≠[]/\t=s.take t.length/\t.length<=s.length:=by
 have fin:∀{c:UInt8}{r:ak}{f:UInt8->Bool},f c=bg->(c::r).takeWhile f≠[]/\(c::r).takeWhile f=(c::r).take ((c::r).takeWhile f).length/\((c::r).takeWhile f).length<=(c::r).length:=λ{c r f} hc=>by
  refine⟨by simp[takeWhile_cons hc],?_,Hr f _⟩;exact(zeu f (c::r)).symm
 cases s with
 |nil=>cases h
 |cons c r =>
  rw[vX]at h;split at h
  ·rename_i hc
   split at h
   ·cases h
    exact fin (by rw[xb,hc];rfl)
   ·cases h
  ·split at h
   ·rename_i hd
    split at h
    ·cases h;exact fin hd
    ·cases h
   ·split at h
    ·rename_i hs
     cases h;rw[zwa]at hs;split at hs
     ·rename_i hh
      cases hs
      cases r with
      |nil=>simp at hh
      |cons d r =>
       have:d=61:=by simpa using hh.1
       subst this;exact⟨af,rfl,af⟩
     ·split at hs
      ·cases hs;exact⟨af,rfl,af⟩
      ·cases hs
    ·cases h
def zwb{s:ak}{e:Int}(h:tkS s=.error e):e≠0:=by
 cases s with
 |nil=>cases h;decide
 |cons c r =>
  rw[vX]at h;split at h
  ·split at h
   ·cases h
   ·cases h;decide
  ·split at h
   ·split at h
    ·cases h
    ·cases h;decide
   ·split at h
    ·cases h
    ·cases h;decide
def zS9(s0:ak)(hs:s0.length<=8000):∀(n i K:Nat)(out:List ar),i<=s0.length->s0.length-i<n->n<=K->out.length<=i->oH s0 K ((i:Int),out)=bc (.inl (match zaw n i (s0.drop i)with|.ok l=>(out++l,0,0)|.error (p,e)=>([],(p:Int),e))):=by
 intro n
 induction n with
 |zero=>intro i K out hi hn;omega
 |succ n ih =>
  intro i K out hi hn hK ho
  obtain⟨K,rfl⟩:∃k,K=k+1:=⟨K-1,ab⟩
  have hl:(s0.drop i).length=s0.length-i:=cD;have hsp:=Hr yv (s0.drop i)
  have e1:w64 ((i:Int)+((vK yv (s0.drop i):Nat):Int))=((i+vK yv (s0.drop i):Nat):Int):=by rw[xY ab ab];rfl
  rw[oH,zaw];simp only;rw[zld hi,bsQ,zY1 ab,bsQ,e1]
  cases hd:(s0.drop i).dropWhile yv with
  |nil =>
   have h1:=Ya yv (s0.drop i);rw[hd]at h1;have h2:=drop_nil h1 (Hr _ _);rw[dt ab,ctQ,zB (by simp only[laQ,lc,bI];omega),bsQ];rfl
  |cons c r =>
   have h1:=Ya yv (s0.drop i);rw[hd,dD]at h1;obtain⟨g1,g2,g3⟩:=xA h1;rw[df ab,cf,zld ab,bsQ,h1,zY3 (by rw[<- h1,cD];omega) af,bsQ];dsimp only
   cases ht:tkS (c::r)with
   |error e =>
    have he:=zwb ht;simp only[tokR,he,decide_false,cK,ctQ]
   |ok x =>
    obtain⟨k,t,v⟩:=x;obtain⟨t1,t2,t3⟩:=zli ht;have t4:0<t.length:=dz.2 t1;have t5:=aQ bf h1;simp only[cD]at t5;change (bif (!(decide ((0:Int)=0)))then bc _ else(grd (bf (out++([(ar.mk k t v (((i+vK yv (s0.drop i):Nat):Int)))]:List ar))*40<=140737488355328)).bind λ_=>oH s0 K (w64 (((i+vK yv (s0.drop i):Nat):Int)+((t.length:Nat):Int)),out++([(ar.mk k t v (((i+vK yv (s0.drop i):Nat):Int)))]:List ar)))=_;rw[dt rfl,bW,cf,zB (by simp only[laQ,lc,bI];omega),bsQ]
    have e2:w64 (((i+vK yv (s0.drop i):Nat):Int)+((t.length:Nat):Int))=((i+vK yv (s0.drop i)+t.length:Nat):Int):=by rw[xY ab ab];rfl
    rw[e2,ih (i+vK yv (s0.drop i)+t.length) K _ ab ab ab (by simp only[laQ,lc,bI];omega),<- dD,h1];dsimp only
    cases hx:zaw n (i+vK yv (s0.drop i)+t.length) ((c::r).drop t.length)with
    |error e=>rfl
    |ok l=>simp
def l_Lex{s:ak}(h:s.length<=8000):zdg s=bc (lexR (zVk s)):=by
 unfold zdg;have:=zS9 s h (s.length+1) 0 KK [] ab ab (by have:=vJ (n:=s.length) ab;omega) af;rw[show(((0:Nat):Int))=(0:Int) from rfl]at this;rw[df ab,cf,this,List.drop_zero,zVk]
 cases zaw (s.length+1) 0 s with
 |error e=>rfl
 |ok l=>rfl
def zzc{c:UInt8}{r:ak}(hc:yv c=bg)(n p:Nat):zaw (n+1) p (c::r)=zaw (n+1) (p+1) r:=by
 have e1:(c::r).dropWhile yv=r.dropWhile yv:=by simp[ij,hc]
 have e2:p+vK yv (c::r)=p+1+vK yv r:=by simp only[vK,takeWhile_cons hc,lc];omega
 rw[zaw,zaw,e1,e2]
def zEm{c:UInt8}{r:ak}(hc:yv c=bd)(n p:Nat):zaw (n+1) p (c::r)=match tkS (c::r)with
   |.error e=>.error (p,e)
   |.ok (k,t,v)=>match zaw n (p+t.length) ((c::r).drop t.length)with
    |.error e=>.error e
    |.ok l=>.ok (ar.mk k t v (p:Int)::l):=by
 have e1:(c::r).dropWhile yv=c::r:=by simp[ij,hc]
 have e2:vK yv (c::r)=0:=by simp[vK,dU,hc]
 rw[zaw,e1,e2];rfl
def zKv:∀(n p:Nat)(s:ak)(l:List ar),s.length<n->zaw n p s=.ok l->∃b,l=b++[K4 (p+s.length)]/\∀t∈b,t.aM≠3/\t.Text.length<=s.length:=by
 intro n
 induction n with
 |zero=>intro p s l hn;omega
 |succ n ih =>
  intro p s l hn h;rw[zaw]at h;have hsp:=Hr yv s;have hds:=Ya yv s;split at h
  ·rename_i hd
   cases h;rw[hd]at hds;have:=drop_nil hds (Hr _ _);exact⟨[],by simp[this],λt ht=>by cases ht⟩
  ·rename_i c r hd
   rw[hd]at hds;have hl:=aQ bf hds;simp only[cD]at hl;split at h
   ·cases h
   ·rename_i k t v ht
    obtain⟨t1,t2,t3⟩:=zli ht;have t4:0<t.length:=dz.2 t1;split at h
    ·cases h
    ·rename_i l' hl'
     cases h;obtain⟨b,rfl,hb⟩:=ih _ _ _ (by rw[cD];omega) hl';rw[cD]at hb ⊢;refine⟨_::b,by rw[bP];congr 4;omega,λx hx=>?_⟩
     rcases bq.1 hx with rfl|hx
     ·refine⟨?_,by simp only;omega⟩
      rw[vX]at ht;simp only;split at ht
      ·split at ht
       ·cases ht;decide
       ·cases ht
      ·split at ht
       ·split at ht
        ·cases ht;decide
        ·cases ht
       ·split at ht
        ·cases ht;decide
        ·cases ht
     ·have:=hb x hx;exact⟨this.1,ab⟩
abbrev T3:=Int×ak×Int
def t3(t:ar):T3:=(t.aM,t.Text,t.N)
def zEn{s t:ak}{c:UInt8}{r:ak}{k v:Int}{n:Nat}(hd:s.dropWhile yv=c::r)(ht:tkS (c::r)=.ok (k,t,v))(h:s.length<n+1):((c::r).drop t.length).length<n:=by
 obtain⟨h1,_,h3⟩:=zli ht
 have h4:(c::r).length<=s.length:=by
  rw[<- hd];exact(List.dropWhile_sublist _).length_le
 have:0<t.length:=dz.2 h1;rw[cD];omega
def zev:∀(n m p:Nat)(s:ak),s.length<n->s.length<m->zaw n p s=zaw m p s
 |0,_,_,_,h,_=>aU h (ee _)
 |_+1,0,_,_,_,h=>aU h (ee _)
 |n+1,m+1,p,s,hn,hm=>by
  rw[zaw,zaw]
  cases hd:s.dropWhile yv with
  |nil=>rfl
  |cons c r =>
   dsimp only
   cases ht:tkS (c::r)with
   |error e=>rfl
   |ok x =>
    obtain⟨k,t,v⟩:=x;dsimp only;rw[zev n m _ _ (zEn hd ht hn) (zEn hd ht hm)]
def zHm(p:Nat)(s:ak):Except (Nat×Int) (List ar):=zaw (s.length+1) p s
def zim{c:UInt8}{r:ak}(hc:yv c=bg)(p:Nat):zHm p (c::r)=zHm (p+1) r:=by
 unfold zHm;rw[zzc hc];exact zev _ _ _ _ (by simp only[lc];omega) ab
def zOx(l:List ar):Except (Nat×Int) (List ar)->Except (Nat×Int) (List ar)
 |.ok r=>.ok (l++r)
 |.error e=>.error e
def zwc(a b:List ar):∀x,zOx a (zOx b x)=zOx (a++b) x
 |.ok r=>by simp[zOx]
 |.error e=>rfl
def zwd:∀x,zOx [] x=x
 |.ok r=>rfl
 |.error e=>rfl
def BL(s:ak):Prop:=∀c r,s=c::r->yv c=bg
def zOy:BL []:=λ_ _ h=>by cases h
def zlj{c:UInt8}{r:ak}(h:yv c=bg):BL (c::r):=λ_ _ e=>by cases e;exact h
def zY4{a b:ak}(ha:BL a)(hb:BL b):BL (a++b):=by
 cases a with
 |nil=>exact hb
 |cons c r=>exact zlj (ha c r rfl)
def okT(t:T3):Prop:=tkS t.2.1=.ok t
def zew{c:UInt8}(h:yv c=bg):c.toNat=32∨c.toNat=9∨c.toNat=10:=by
 simpa[yv]using h
def Yc{c:UInt8}(h:yv c=bg):kf c=bd/\xi c=bd/\xb c=bd/\c≠61:=by
 have h:=zew h
 have h1:kf c=bd:=by
  unfold kf;rw[df (show ¬97<=c.toNat by omega)];rfl
 have h2:xi c=bd:=by
  unfold xi;rw[df (show ¬48<=c.toNat by omega)];rfl
 refine⟨h1,h2,by rw[xb,h1,h2];rfl,?_⟩;rintro rfl;exact aU h ae
def zTa{f:UInt8->Bool}(hf:∀c,yv c=bg->f c=bd){r:ak}(h:BL r):r.takeWhile f=[]:=by
 cases r with
 |nil=>rfl
 |cons c r=>rw[List.takeWhile_cons,hf c (h c r rfl)];rfl
def zbd{f:UInt8->Bool}(hf:∀c,yv c=bg->f c=bd){a r:ak}(h:BL r)(ha:a.takeWhile f=a):(a++r).takeWhile f=a:=by
 have:∀x∈a,f x=bg:=by
  have:=List.all_takeWhile (p:=f) (l:=a);rw[ha]at this;exact bj.1 this
 rw[fN this,zTa hf h,bE]
def zTb{t:T3}(h:okT t){r:ak}(hr:BL r):tkS (t.2.1++r)=.ok t:=by
 obtain⟨k,x,n⟩:=t;unfold okT at h;dsimp only at h ⊢
 cases x with
 |nil=>cases h
 |cons c x =>
  rw[bP,vX];rw[vX]at h;by_cases hl:kf c=bg
  ·rw[aP hl]at h ⊢
   by_cases hn:((c::x).takeWhile xb).length<=20
   ·rw[aP hn]at h
    have e:(c::x).takeWhile xb=c::x:=by
     have:=Except.ok.inj h;exact aQ (λy=>y.2.1) this
    have e2:=zbd (f:=xb) (λc h=>(Yc h).2.2.1) hr e;rw[bP]at e2;rw[e]at h hn;rw[e2,aP hn];exact h
   ·rw[aO hn]at h;cases h
  ·rw[aO hl]at h ⊢
   by_cases hd:xi c=bg
   ·rw[aP hd]at h ⊢
    cases hv:zOw ((c::x).takeWhile xi)with
    |none=>rw[hv]at h;cases h
    |some v =>
     rw[hv]at h;have e:(c::x).takeWhile xi=c::x:=aQ (λy=>y.2.1) (Except.ok.inj h);have e2:=zbd (f:=xi) (λc h=>(Yc h).2.1) hr e;rw[bP]at e2;rw[e]at h hv;rw[e2,hv];exact h
   ·rw[aO hd]at h ⊢
    rw[zwa]at h ⊢
    have h61:∀{d:UInt8},r.head?=bc d->d≠61:=λ{d} e=>by
     cases r with
     |nil=>cases e
     |cons a r=>cases e;exact(Yc (hr _ _ rfl)).2.2.2
    by_cases h1:x.head?=bc 61/\(c=60∨c=61)
    ·rw[aP h1]at h
     rw[aP ⟨by cases x with
      |nil=>simp at h1
      |cons a x=>simpa using h1.1,h1.2⟩]
     exact h
    ·rw[aO h1]at h
     by_cases h2:c∈ONE
     ·rw[aP h2]at h
      have e:[c]=c::x:=aQ (λy=>y.2.1) (Except.ok.inj h)
      obtain rfl:x=[]:=by simpa using e.symm
      rw[bN,aO (λhh=>h61 hh.1 rfl),aP h2];exact h
     ·rw[aO h2]at h;cases h
def zKw{t:T3}(h:okT t):∃c r,t.2.1=c::r/\yv c=bd:=by
 obtain⟨k,x,n⟩:=t;unfold okT at h;dsimp only at h ⊢
 cases x with
 |nil=>cases h
 |cons c x =>
  refine⟨c,x,rfl,?_⟩
  cases hb:yv c with
  |false=>rfl
  |true =>
   exfalso;obtain⟨h1,h2,_,_⟩:=Yc hb;rw[vX,h1,aO af,h2,aO af]at h;have hc:=zew hb
   rw[zil (λhm=>by
    have:∀d∈ONE,¬(d.toNat=32∨d.toNat=9∨d.toNat=10):=ae
    exact this c hm hc)]at h
   cases h
def mkT(t:T3)(p:Nat):ar:=ar.mk t.1 t.2.1 t.2.2 (p:Int)
def zKx{t:T3}(h:okT t){r:ak}(hr:BL r)(p:Nat):zHm p (t.2.1++r)=zOx [mkT t p] (zHm (p+t.2.1.length) r):=by
 obtain⟨c,x,e,hb⟩:=zKw h;have hk:=zTb h hr;obtain⟨k,y,n⟩:=t;dsimp only at e hk ⊢;subst e;unfold zHm;rw[bP]at hk ⊢;rw[zEm hb,hk];dsimp only
 rw[show(c::(x++r)).drop (c::x).length=r from by rw[<- bP];exact List.drop_left,
  zev _ (r.length+1) _ r (by simp only[lc,laQ];omega) ab]
 cases zaw (r.length+1) (p+(c::x).length) r<;>rfl
def LX(s:ak)(ts:List T3):Prop:=∀p r,BL r->∃l,l.map t3=ts/\zHm p (s++r)=zOx l (zHm (p+s.length) r)
def zOz:LX [] []:=λp r _=>⟨[],rfl,by rw[zwd];rfl⟩
def zEo{t:T3}(h:okT t):LX t.2.1 [t]:=λp r hr=>⟨[mkT t p],rfl,zKx h hr p⟩
def zwe{c:UInt8}{s:ak}{ts:List T3}(hc:yv c=bg)(h:LX s ts):LX (c::s) ts:=λp r hr=>by
 obtain⟨l,h1,h2⟩:=h (p+1) r hr;refine⟨l,h1,?_⟩;rw[bP,zim hc,h2,lc,ei,Nat.add_comm 1]
def zEp{a b:ak}{ts us:List T3}(ha:LX a ts)(hb:LX b us)(h:BL b):LX (a++b) (ts++us):=λp r hr=>by
 obtain⟨l,h1,h2⟩:=ha p (b++r) (zY4 h hr);obtain⟨m,h3,h4⟩:=hb (p+a.length) r hr;refine⟨l++m,by rw[List.map_append,h1,h3],?_⟩;rw[asc,h2,h4,zwc,laQ,ei]
def zO0{s:ak}{ts:List T3}(h:LX s ts):∃l p,l.map t3=ts/\zVk s=.ok (l++[K4 p]):=by
 obtain⟨l,h1,h2⟩:=h 0 [] zOy;refine⟨l,0+s.length,h1,?_⟩;rw[bE]at h2;exact h2
-- a token of each kind
def zpz{f:UInt8->Bool}{l:ak}(h:l.all f=bg):l.takeWhile f=l:=by
 have:=fN (l₂:=[]) (bj.1 h);simpa using this
def zwf{w:ak}(h:Kp w=bg):okT (0,w,0):=by
 cases w with
 |nil=>cases h
 |cons c r =>
  have ha:=Zr h;have e:(c::r).takeWhile xb=c::r:=zpz ha;simp only[Kp,bn,aW]at h;unfold okT;dsimp only;rw[vX,aP h.1,e,aP h.2.1]
def zKy{w:ak}(h:zN w=bg):okT (0,w,0):=by
 unfold zN at h;rw[bn]at h;exact zwf h.1
def zlk:∀n:Nat,(Lib.decDigits n).all xi=bg
 |n=>by
  rw[Lib.decDigits]
  have one:∀m<10,xi (ew (48+m))=bg:=ae
  split
  ·rename_i h
   rw[cO,one n h];rfl
  ·rename_i h
   rw[List.all_append,zlk (n / 10),cO,one (n % 10) ab];rfl
def zp0:∀(a b:ak)(n:Nat),Zs (a++b) n=Zs b (Zs a n)
 |[],_,_=>rfl
 |c::a,b,n=>by rw[bP,Zs,Zs];exact zp0 a b _
def zwg:∀n:Nat,VC 0 (Lib.decDigits n)=n
 |n=>by
  rw[Lib.decDigits]
  have one:∀m<10,zzb (ew (48+m))=m:=ae
  unfold VC;split
  ·rename_i h
   rw[Zs,Zs,one _ h];omega
  ·rename_i h
   have:=zwg (n / 10);unfold VC at this;rw[zp0,this];rw[Zs,Zs,one _ (fD _ ab)];omega
def zEq(n:Nat):Lib.decDigits n≠[]:=by
 rw[Lib.decDigits];split<;>simp
def zwh:∀n:Nat,(Lib.decDigits n).head?=bc 48->n=0
 |n=>by
  rw[Lib.decDigits]
  have one:∀m<10,ew (48+m)=48->m=0:=ae
  split
  ·rename_i h
   intro e;exact one n h (by simpa using e)
  ·rename_i h
   intro e;have h2:=zEq (n / 10)
   have e2:(Lib.decDigits (n / 10)).head?=bc 48:=by
    cases hx:Lib.decDigits (n / 10)with
    |nil=>exact aU hx h2
    |cons a b=>rw[hx]at e;simpa using e
   have:=zwh (n / 10) e2;omega
def zKz{n:Nat}(h:n<=1099511627776):zOw (Lib.decDigits n)=bc n:=by
 unfold zOw
 rw[zwg,aP ⟨zlk n,zEq n,λe=>by
  have:=zwh n e;subst this
  rw[Lib.decDigits];rfl,h⟩]
def zTc{n:Nat}(h:n<=1099511627776):okT (1,Lib.decDigits n,(n:Int)):=by
 unfold okT;dsimp only;have hn:=zEq n;have ha:=zlk n;have hb:=zKz h
 cases hx:Lib.decDigits n with
 |nil=>exact aU hx hn
 |cons c r =>
  rw[hx]at ha hb;have e:(c::r).takeWhile xi=c::r:=zpz ha
  have hc:xi c=bg:=by rw[cO,bn]at ha;exact ha.1
  have hl:kf c=bd:=by
   have:=zlf hc;unfold kf;rw[df (show ¬97<=c.toNat by omega)];rfl
  rw[vX,hl,aO af,aP hc,e,hb]
abbrev EE:=Int×Int
def TWF:List ar->Prop
 |[]=>False
 |[t]=>t.aM=3
 |t::u::r=>t.aM≠3/\TWF (u::r)
def hdT(r:List ar):ar:=r.headD default
def zU(l r:List ar):Int:=((l.length-r.length:Nat):Int)
structure St(l r:List ar):Prop where
 suf:∃a,l=a++r
 wf:TWF r
 len:l.length<=1000000
 txt:∀t∈l,t.Text.length<=8000
section
variable{l r:List ar}
def TWF.ne(h:TWF r):r≠[]:=by rintro rfl;exact h
def TWF.tail(h:TWF r)(hk:(hdT r).aM≠3):TWF r.tail:=by
 match r,h with
 |[t],h=>exact aU h hk
 |t::u::r,h=>exact h.2
def St.idx(h:St l r):idx l (zU l r)=bc (hdT r):=by
 obtain⟨a,rfl⟩:=h.suf;have:=h.wf.ne
 cases r with
 |nil=>exact aU rfl this
 |cons t r =>
  refine z7 ?_;rw[laQ,Nat.add_sub_cancel,List.getElem?_append_right aq,Nat.sub_self];rfl
def zEr(h:St l r):zU l r+1=zU l r.tail:=by
 obtain⟨a,rfl⟩:=h.suf;have:=h.wf.ne
 cases r with
 |nil=>exact aU rfl this
 |cons t r=>simp only[zU,laQ,lc,List.tail_cons];omega
def St.bnd(h:St l r):0<=zU l r/\zU l r<1000000:=by
 have:=h.len;have h2:=h.wf.ne;obtain⟨a,rfl⟩:=h.suf
 cases r with
 |nil=>exact aU rfl h2
 |cons t r=>simp only[zU,laQ,lc]at this ⊢;omega
def St.step(h:St l r):w64 (zU l r+1)=zU l r.tail:=by
 have:=h.bnd;rw[xY ab ab,zEr h]
def St.back(h:St l r):w64 (w64 (zU l r+1)-1)=zU l r:=by
 have:=h.bnd;rw[xY (n:=zU l r+1) ab ab,xY ab ab];omega
def St.tail(h:St l r)(hk:(hdT r).aM≠3):St l r.tail:=by
 refine⟨?_,h.wf.tail hk,h.len,h.txt⟩;obtain⟨a,e⟩:=h.suf;have:=h.wf.ne
 cases r with
 |nil=>exact aU rfl this
 |cons t r=>exact⟨a++[t],by rw[e];simp⟩
def St.mem(h:St l r):hdT r∈l:=by
 obtain⟨a,e⟩:=h.suf;have:=h.wf.ne
 cases r with
 |nil=>exact aU rfl this
 |cons t r=>rw[e];simp[hdT]
def St.text(h:St l r):(hdT r).Text.length<4611686018427387904:=by have:=h.txt _ h.mem;omega
def St.lt(h:St l r):r.length<=l.length/\0<r.length:=by
 obtain⟨a,e⟩:=h.suf;exact⟨by rw[e,laQ];omega,dz.2 h.wf.ne⟩
def zby(h:TWF r):r.tail.length+1=r.length:=by
 cases r with
 |nil=>exact h.elim
 |cons t r=>rfl
end
-- single tokens
def isB(s:ak)(r:List ar):Bool:=(!(decide ((hdT r).aM=3)))&&decide ((hdT r).Text=s)
def Kq(r:List ar):Bool:=decide ((hdT r).aM=1)
def zfv(r:List ar):Bool:=decide ((hdT r).aM=0)&&zN (hdT r).Text
def zin(r:List ar)(e:Int):EE:=((hdT r).Pos,e)
def thn{α β:Type}(x:Except EE (α×List ar))(g:α->List ar->Except EE β):Except EE β:=match x with
 |.ok (a,r)=>g a r
 |.error e=>.error e
def Ki(b:Bool)(e:Int)(r:List ar):Except EE (Unit×List ar):=if b then .ok ((),r)else .error (zin r e)
def wb(s:ak)(r:List ar):Except EE (Unit×List ar):=if isB s r then .ok ((),r.tail)else .error (zin r 14)
def oq(r:List ar):Except EE (ak×List ar):=if zfv r then .ok ((hdT r).Text,r.tail)else .error (zin r 14)
def qk(lo hi:Int)(r:List ar):Except EE (Int×List ar):=if Kq r then(if lo<=(hdT r).N/\(hdT r).N<=hi then .ok ((hdT r).N,r.tail)else .error (zin r 3))else .error (zin r 14)
def zw{s:ak}{r:List ar}(h:isB s r=bg):(hdT r).aM≠3:=by
 simp only[isB,bn,Bool.not_eq_true',aX]at h;exact h.1
def zp1{r:List ar}(h:Kq r=bg):(hdT r).aM≠3:=by
 have:=aY h;omega
def zex{r:List ar}(h:zfv r=bg):(hdT r).aM≠3:=by
 simp only[zfv,bn,aW]at h;omega
def RT{α β:Type}(l:List ar)(x:Except EE (α×List ar))(s:Option β)(p:Option EE)(f:α->Int->β):Prop:=match x with
 |.ok (v,r)=>s=bc (f v (zU l r))/\p=bh/\St l r
 |.error e=>s=bh/\p=bc e
def RT.bind{α β α' β':Type}{l:List ar}{x:Except EE (α×List ar)}{s:Option β}{p:Option EE}{f:α->Int->β}{g:α->List ar->Except EE (α'×List ar)}{s2:β->Option β'}{p2:β->Option EE}{f2:α'->Int->β'}
  (h:RT l x s p f) (h2:∀v r,x=.ok (v,r)->St l r->RT l (g v r) (s2 (f v (zU l r))) (p2 (f v (zU l r))) f2):RT l (thn x g) (s.bind s2) (orC p (λq=>bc q) (s.bind p2)) f2:=by
 match x,h,h2 with
 |.error e,⟨h,h'⟩,_=>exact⟨by rw[h];rfl,by rw[h'];rfl⟩
 |.ok (v,r),⟨h,h',hs⟩,h2 =>
  have:=h2 v r rfl hs;rw[h,h'];exact this
section
variable{l r:List ar}
def Yd(h:St l r):vF l (zU l r)=bc ((hdT r).aM,(hdT r).Text,(hdT r).N,(hdT r).Pos):=by
 unfold vF;rw[h.idx];rfl
def q_is(h:St l r)(s:ak):zdh l (zU l r) s=bc (isB s r):=by
 unfold zdh isB;rw[Yd h,bsQ];cases decide ((hdT r).aM=3)<;>rfl
def zll(h:St l r)(s:ak):xF l (zU l r) s=bc (isB s r,if isB s r then zU l r.tail else zU l r):=by
 unfold xF;rw[q_is h,bsQ,h.step];cases isB s r<;>rfl
def QJ(h:St l r):xO l (zU l r)=bc (Kq r):=by
 unfold xO Kq;rw[Yd h];rfl
def zwi(h:St l r):oI l (zU l r)=bc (zfv r):=by
 unfold oI zfv;rw[Yd h,bsQ,bsQ];dsimp only;rw[xj h.text];cases decide ((hdT r).aM=0)<;>rfl
def ztg(h:St l r)(b:Bool)(e:Int):RT l (Ki b e r) (yH l (zU l r) b e) (wm l (zU l r) b e) (λ_ _=>()):=by
 unfold yH wm Qw Ki
 cases b with
 |true=>exact⟨rfl,rfl,h⟩
 |false=>rw[Yd h];exact⟨rfl,rfl⟩
def Q6(h:St l r)(s:ak):RT l (wb s r) (jV l (zU l r) s) (AY l (zU l r) s) (λ_ i=>i):=by
 unfold jV AY wb;rw[zll h,bsQ,bsQ];dsimp only
 cases hb:isB s r with
 |true=>exact⟨rfl,rfl,h.tail (zw hb)⟩
 |false =>
  rw[aO af,aO af];unfold yH wm Qw;rw[Yd h];exact⟨rfl,rfl⟩
def H8(h:St l r):RT l (oq r) (xx l (zU l r)) (jW l (zU l r)) (λv i=>(v,i)):=by
 unfold xx jW oq;rw[zwi h,bsQ,bsQ,h.back,h.step,h.idx]
 cases hb:zfv r with
 |true=>exact⟨rfl,rfl,h.tail (zex hb)⟩
 |false =>
  unfold yH wm Qw;rw[Yd h];exact⟨rfl,rfl⟩
def zbz(h:St l r)(lo hi:Int):RT l (qk lo hi r) (kr l (zU l r) lo hi) (oJ l (zU l r) lo hi) (λv i=>(v,i)):=by
 unfold kr oJ qk;rw[QJ h,bsQ,bsQ,h.step,Yd h];unfold yH wm Qw;rw[Yd h]
 cases hb:Kq r with
 |false=>exact⟨rfl,rfl⟩
 |true =>
  rw[aP rfl];by_cases h1:lo<=(hdT r).N
  ·by_cases h2:(hdT r).N<=hi
   ·rw[aP ⟨h1,h2⟩]
    have e1:decide ((hdT r).N>=lo)=bg:=dt h1;have e2:decide ((hdT r).N<=hi)=bg:=dt h2;simp only[bsQ,e1,e2];exact⟨rfl,rfl,h.tail (zp1 hb)⟩
   ·rw[aO (λhh=>h2 hh.2)]
    have e1:decide ((hdT r).N>=lo)=bg:=dt h1;have e2:decide ((hdT r).N<=hi)=bd:=df h2;simp only[bsQ,e1,e2];exact⟨rfl,rfl⟩
  ·rw[aO (λhh=>h1 hh.1)]
   have e1:decide ((hdT r).N>=lo)=bd:=df h1;simp only[bsQ,e1];exact⟨rfl,rfl⟩
end
-- what a list of tokens and the end are
def zO1:∀{b:List ar}{e:ar},e.aM=3->(∀t∈b,t.aM≠3)->TWF (b++[e])
 |[],e,h,_=>h
 |[t],e,h,h2=>⟨h2 t al,h⟩
 |t::u::b,e,h,h2=>⟨h2 t al,zO1 (b:=u::b) h λx hx=>h2 x (mcQ _ hx)⟩
def zK0:∀(n p:Nat)(s:ak)(l:List ar),s.length<n->zaw n p s=.ok l->l.length<=s.length+1:=by
 intro n
 induction n with
 |zero=>intro p s l hn;omega
 |succ n ih =>
  intro p s l hn h;rw[zaw]at h;have hsp:=Hr yv s;have hds:=Ya yv s;split at h
  ·cases h;simp
  ·rename_i c r hd
   rw[hd]at hds;have hl:=aQ bf hds;simp only[cD]at hl;split at h
   ·cases h
   ·rename_i k t v ht
    obtain⟨t1,t2,t3⟩:=zli ht;have t4:0<t.length:=dz.2 t1;split at h
    ·cases h
    ·rename_i l' hl'
     cases h;have:=ih _ _ _ (by rw[cD];omega) hl';rw[cD]at this;simp only[lc]at this hl t3 ⊢;omega
def zEs{s:ak}{l:List ar}(hs:s.length<=8000)(h:zVk s=.ok l):St l l/\zU l l=0:=by
 obtain⟨b,rfl,hb⟩:=zKv _ _ _ _ (cS _) h;have hl:=zK0 _ _ _ _ (cS _) h;refine⟨⟨⟨[],rfl⟩,zO1 rfl λt ht=>(hb t ht).1,ab,λt ht=>?_⟩,by simp[zU]⟩
 rcases bA.1 ht with ht|ht
 ·have:=(hb t ht).2;omega
 ·cases msQ.1 ht;simp[K4]
end Go.Proofs.YtffencjoddkghaaGreatDoor
set_option maxRecDepth 100000
namespace Go.Proofs.YtffencjoddkghaaGreatDoor
open Go Go.RowKit Go.Eng Go.EV Go.EQ
variable[Fuel]
def OPS:List zd:=[(zd.mk zXe 14 1),(zd.mk zDf 13 2),(zd.mk qY 10 4),(zd.mk zgd 11 4),(zd.mk qX 12 4),(zd.mk zgb 4 5),(zd.mk xa 5 5),(zd.mk zga 6 6),(zd.mk zgc 7 6),(zd.mk zf9 8 6)]
def opR(r:List ar):Option zd:=if(hdT r).aM=3 then bh else OPS.find? λo=>decide ((hdT r).Text=o.text)
def zmn(lv:Nat)(r:List ar):Option Int:=match opR r with
 |some o=>if o.form=(lv:Int)then bc o.op else bh
 |none=>bh
def Zu(op:Int)(a b:Expr):Expr:=Expr.mk op 0 [] [] [a,b]
def oof{α:Type}:Except EE α:=.error (0,-1)
mutual
def DE(lv:Nat)(r:List ar):Except EE (Expr×List ar) :=
 if lv>=8 then
  if Kq r then thn (qk 0 1099511627776 r) λn r=>.ok (Expr.mk 0 n [] [] [],r)
  else if isB ym r then thn (oq r.tail) λs r=>thn (oq r) λk r=>.ok (Expr.mk 2 0 s k [],r)
  else if isB yR r then thn (oq r.tail) λs r=>.ok (Expr.mk 3 0 s [] [],r)
  else if isB AP r then(if h:r.tail.length<r.length then thn (DE 0 r.tail) λe r=>thn (wb qu r) λ_ r=>.ok (e,r)else oof)
  else thn (oq r) λs r=>.ok (Expr.mk 1 0 s [] [],r)
 else if lv=0/\isB WL r=bg then
  if h:r.tail.length<r.length then thn (DE 0 r.tail) λa r1=>thn (wb uR r1) λ_ r2 =>
   if h2:r2.length<r.length then thn (DE 0 r2) λb r3=>thn (wb xh r3) λ_ r4 =>
    if h4:r4.length<r.length then thn (DE 0 r4) λc r5=>.ok (Expr.mk 16 0 [] [] [a,b,c],r5)else oof
   else oof
  else oof
 else if lv=3/\isB um r=bg then
  if h:r.tail.length<r.length then thn (DE 3 r.tail) λa r1=>.ok (Expr.mk 15 0 [] [] [a],r1)else oof
 else if lv=7/\isB xa r=bg then
  if h:r.tail.length<r.length then thn (DE 7 r.tail) λa r1=>.ok (Expr.mk 9 0 [] [] [a],r1)else oof
 else thn (DE (lv+1) r) λe r1=>if h:r1.length<r.length then LP lv e r1 else oof
termination_by (r.length,9-lv)
def LP(lv:Nat)(e:Expr)(r:List ar):Except EE (Expr×List ar):=match zmn lv r with
 |none=>.ok (e,r)
 |some op=>if h:r.tail.length<r.length then thn (DE (lv+1) r.tail) λe2 r2 =>
   if h2:r2.length<r.length then(if lv=4 then .ok (Zu op e e2,r2)else LP lv (Zu op e e2) r2)else oof
  else oof
termination_by (r.length,9-lv)
end
structure Aft(r r2:List ar):Prop where
 suf:∃a,r=a++r2
 wf:TWF r2
 lt:r2.length<r.length
structure zio(r r2:List ar):Prop where
 suf:∃a,r=a++r2
 wf:TWF r2
 le:r2.length<=r.length
def Aft.e{r r2:List ar}(h:Aft r r2):zio r r2:=⟨h.suf,h.wf,gQ h.lt⟩
def zio.refl{r:List ar}(h:TWF r):zio r r:=⟨⟨[],rfl⟩,h,aq⟩
def zey{r r2 r3:List ar}(h:∃a,r=a++r2)(k:∃a,r2=a++r3):∃a,r=a++r3:=by
 obtain⟨a,rfl⟩:=h;obtain⟨b,rfl⟩:=k;exact⟨a++b,af⟩
def Aft.trans{r r2 r3:List ar}(h:Aft r r2)(k:zio r2 r3):Aft r r3:=⟨zey h.suf k.suf,k.wf,eY k.le h.lt⟩
def zio.trans{r r2 r3:List ar}(h:zio r r2)(k:zio r2 r3):zio r r3:=⟨zey h.suf k.suf,k.wf,cU k.le h.le⟩
def zF{r:List ar}(h:TWF r)(hk:(hdT r).aM≠3):Aft r r.tail:=by
 refine⟨?_,h.tail hk,by have:=zby h;omega⟩
 cases r with
 |nil=>exact h.elim
 |cons t r=>exact⟨[t],rfl⟩
def Zv{r:List ar}(h:TWF r):r.tail.length<r.length:=by have:=zby h;omega
def St.aft{l r r2:List ar}(h:St l r)(k:zio r r2):St l r2:=⟨zey h.suf k.suf,k.wf,h.len,h.txt⟩
def jQ{r r2:List ar}{s:ak}(h:TWF r)(e:oq r=.ok (s,r2)):Aft r r2:=by
 unfold oq at e;split at e
 ·rename_i hk;cases e;exact zF h (zex hk)
 ·cases e
def qd{r r2:List ar}{lo hi n:Int}(h:TWF r)(e:qk lo hi r=.ok (n,r2)):Aft r r2:=by
 unfold qk at e;split at e
 ·rename_i hk
  split at e
  ·cases e;exact zF h (zp1 hk)
  ·cases e
 ·cases e
def xr{r r2:List ar}{s:ak}{u:Unit}(h:TWF r)(e:wb s r=.ok (u,r2)):Aft r r2:=by
 unfold wb at e;split at e
 ·rename_i hk;cases e;exact zF h (zw hk)
 ·cases e
def yA{α β:Type}{x:Except EE (α×List ar)}{g:α->List ar->Except EE β}{b:β}(h:thn x g=.ok b):∃a r,x=.ok (a,r)/\g a r=.ok b:=by
 match x,h with
 |.ok (a,r),h=>exact⟨a,r,rfl,h⟩
def xZ{α β:Type}{x:Except EE (α×List ar)}{g g':α->List ar->Except EE β}(h:∀a r,x=.ok (a,r)->g a r=g' a r):thn x g=thn x g':=by
 match x,h with
 |.ok (a,r),h=>exact h a r rfl
 |.error e,_=>rfl
def zP{α β γ:Type}{x:Except EE (α×List ar)}{g:α->List ar->Except EE (β×List ar)}{k:β->List ar->Except EE γ}:thn (thn x g) k=thn x λa r=>thn (g a r) k:=by
 match x with
 |.ok (a,r)=>rfl
 |.error e=>rfl
def Ye{α:Type}{x:Except EE (α×List ar)}:(thn x λa r=>.ok (a,r))=x:=by
 match x with
 |.ok (a,r)=>rfl
 |.error e=>rfl
def qe{r:List ar}{o:zd}(h:opR r=bc o):(hdT r).aM≠3/\o∈OPS/\(hdT r).Text=o.text:=by
 unfold opR at h;split at h
 ·cases h
 ·rename_i hk
  exact⟨hk,List.mem_of_find?_eq_some h,by simpa using List.find?_some h⟩
def K5{r:List ar}{lv:Nat}{op:Int}(h:zmn lv r=bc op):∃o,opR r=bc o/\o.form=(lv:Int)/\o.op=op:=by
 unfold zmn at h;split at h
 ·rename_i o ho
  split at h
  ·rename_i hf;cases h;exact⟨o,ho,hf,rfl⟩
  ·cases h
 ·cases h
def zEt:∀(n:Nat),(∀(lv:Nat)(r:List ar),r.length<n->TWF r->∀e r2,DE lv r=.ok (e,r2)->Aft r r2)/\(∀(lv:Nat)(e:Expr)(r:List ar),r.length<n->TWF r->∀e2 r2,LP lv e r=.ok (e2,r2)->zio r r2):=by
 intro n
 induction n with
 |zero=>exact⟨λ_ _ h=>ab,λ_ _ _ h=>ab⟩
 |succ n ih =>
  have hLP:∀(lv:Nat)(e:Expr)(r:List ar),r.length<n+1->TWF r->∀e2 r2,LP lv e r=.ok (e2,r2)->zio r r2:=by
   intro lv e r hn hr e2 r2 h;rw[LP]at h;split at h
   ·cases h;exact zio.refl hr
   ·rename_i op hop
    obtain⟨o,ho,_⟩:=K5 hop;have ht:=zF hr (qe ho).1;rw[dif_pos ht.lt]at h;obtain⟨a,r1,h1,h2⟩:=yA h;have:=ht.lt;have ha:=ih.1 _ _ ab ht.wf _ _ h1;split at h2
    ·split at h2
     ·cases h2;exact(ht.trans ha.e).e
     ·exact(ht.trans ha.e).e.trans (ih.2 _ _ _ (by have:=ha.lt;omega) ha.wf _ _ h2)
    ·cases h2
  refine⟨λlv=>?_,hLP⟩
  -- by level, downwards
  have key:∀(k lv:Nat),8-lv=k->∀(r:List ar),r.length<n+1->TWF r->∀e r2,DE lv r=.ok (e,r2)->Aft r r2:=by
   intro k
   induction k with
   |zero =>
    intro lv hk r hn hr e r2 h;rw[DE,aP ab]at h;split at h
    ·obtain⟨a,r1,h1,h2⟩:=yA h
     cases h2;exact qd hr h1
    ·split at h
     ·rename_i hb
      have ht:=zF hr (zw hb);obtain⟨a,r1,h1,h2⟩:=yA h;obtain⟨b,r3,h3,h4⟩:=yA h2;cases h4;have q1:=jQ ht.wf h1;exact ht.trans (q1.trans (jQ q1.wf h3).e).e
     ·split at h
      ·rename_i hb
       have ht:=zF hr (zw hb);obtain⟨a,r1,h1,h2⟩:=yA h;cases h2;exact ht.trans (jQ ht.wf h1).e
      ·split at h
       ·rename_i hb
        have ht:=zF hr (zw hb);rw[dif_pos ht.lt]at h;obtain⟨a,r1,h1,h2⟩:=yA h;obtain⟨b,r3,h3,h4⟩:=yA h2;cases h4;have q1:=ih.1 _ _ (by have:=ht.lt;omega) ht.wf _ _ h1;exact ht.trans (q1.trans (xr q1.wf h3).e).e
       ·obtain⟨a,r1,h1,h2⟩:=yA h
        cases h2;exact jQ hr h1
   |succ k ihk =>
    intro lv hk r hn hr e r2 h;rw[DE,aO ab]at h;split at h
    ·rename_i hb
     have ht:=zF hr (zw hb.2);rw[dif_pos ht.lt]at h;obtain⟨a,r1,h1,h⟩:=yA h;obtain⟨_,r3,h3,h⟩:=yA h;have q1:=ht.trans (ih.1 _ _ (by have:=ht.lt;omega) ht.wf _ _ h1).e;have q2:=q1.trans (xr q1.wf h3).e;rw[dif_pos q2.lt]at h;obtain⟨b,r4,h4,h⟩:=yA h;obtain⟨_,r5,h5,h⟩:=yA h;have q3:=q2.trans (ih.1 _ _ (by have:=q2.lt;omega) q2.wf _ _ h4).e;have q4:=q3.trans (xr q3.wf h5).e;rw[dif_pos q4.lt]at h;obtain⟨c,r6,h6,h⟩:=yA h;cases h;exact q4.trans (ih.1 _ _ (by have:=q4.lt;omega) q4.wf _ _ h6).e
    ·split at h
     ·rename_i hb
      have ht:=zF hr (zw hb.2);rw[dif_pos ht.lt]at h;obtain⟨a,r1,h1,h⟩:=yA h;cases h;exact ht.trans (ih.1 _ _ (by have:=ht.lt;omega) ht.wf _ _ h1).e
     ·split at h
      ·rename_i hb
       have ht:=zF hr (zw hb.2);rw[dif_pos ht.lt]at h;obtain⟨a,r1,h1,h⟩:=yA h;cases h;exact ht.trans (ih.1 _ _ (by have:=ht.lt;omega) ht.wf _ _ h1).e
      ·obtain⟨a,r1,h1,h⟩:=yA h
       have q1:=ihk (lv+1) ab r hn hr _ _ h1;rw[dif_pos q1.lt]at h;exact q1.trans (hLP _ _ _ (by have:=q1.lt;omega) q1.wf _ _ h)
  exact key _ lv rfl
def wu{lv:Nat}{r r2:List ar}{e:Expr}(hr:TWF r)(h:DE lv r=.ok (e,r2)):Aft r r2:=(zEt (r.length+1)).1 lv r (cS _) hr e r2 h
def Yf(r:List ar):Except EE (Expr×List ar) :=
 if Kq r then thn (qk 0 1099511627776 r) λn r=>.ok (Expr.mk 0 n [] [] [],r)
 else if isB ym r then thn (oq r.tail) λs r=>thn (oq r) λk r=>.ok (Expr.mk 2 0 s k [],r)
 else if isB yR r then thn (oq r.tail) λs r=>.ok (Expr.mk 3 0 s [] [],r)
 else if isB AP r then thn (DE 0 r.tail) λe r=>thn (wb qu r) λ_ r=>.ok (e,r)
 else thn (oq r) λs r=>.ok (Expr.mk 1 0 s [] [],r)
def ifS(r:List ar):Except EE (Expr×List ar):=thn (DE 0 r.tail) λa r1=>thn (wb uR r1) λ_ r2=>thn (DE 0 r2) λb r3=>thn (wb xh r3) λ_ r4=>thn (DE 0 r4) λc r5=>.ok (Expr.mk 16 0 [] [] [a,b,c],r5)
def zHn{r:List ar}(hr:TWF r):DE 8 r=Yf r:=by
 rw[DE,aP (dj 8),Yf];simp only[dif_pos (Zv hr)]
def zgi{lv:Nat}{r:List ar}(hl:lv<8)(hr:TWF r):DE lv r=if lv=0/\isB WL r=bg then ifS r else if lv=3/\isB um r=bg then thn (DE 3 r.tail) λa r1=>.ok (Expr.mk 15 0 [] [] [a],r1)
  else if lv=7/\isB xa r=bg then thn (DE 7 r.tail) λa r1=>.ok (Expr.mk 9 0 [] [] [a],r1)else thn (DE (lv+1) r) λe r1=>LP lv e r1:=by
 rw[DE,aO ab];simp only[dif_pos (Zv hr)];by_cases hi:lv=0/\isB WL r=bg
 ·rw[aP hi,aP hi,ifS]
  have ht:=zF hr (zw hi.2)
  refine xZ λa r1 h1=>xZ λu r2 h2=>?_
  have q1:=ht.trans (wu ht.wf h1).e;have q2:=q1.trans (xr q1.wf h2).e;rw[dif_pos q2.lt]
  refine xZ λb r3 h3=>xZ λu r4 h4=>?_
  have q3:=q2.trans (wu q2.wf h3).e;have q4:=q3.trans (xr q3.wf h4).e;rw[dif_pos q4.lt]
 ·rw[aO hi,aO hi]
  split
  ·rfl
  ·split
   ·rfl
   ·refine xZ λe r1 h1=>?_
    rw[dif_pos (wu hr h1).lt]
def zEu{lv:Nat}{e:Expr}{r:List ar}(hr:TWF r):LP lv e r=match zmn lv r with
 |none=>.ok (e,r)
 |some op=>thn (DE (lv+1) r.tail) λe2 r2=>if lv=4 then .ok (Zu op e e2,r2)else LP lv (Zu op e e2) r2:=by
 rw[LP];split
 ·rfl
 ·rename_i op hop
  obtain⟨o,ho,_⟩:=K5 hop;have ht:=zF hr (qe ho).1;rw[dif_pos ht.lt]
  refine xZ λe2 r2 h2=>?_
  rw[dif_pos (ht.trans (wu ht.wf h2).e).lt]
noncomputable def pd(p:Prop):Bool:=@decide p (Classical.propDecidable p)
def jE{p:Prop}:pd p=bg↔p:=by unfold pd;exact @decide_eq_true_iff p (Classical.propDecidable p)
def zax{p:Prop}[Decidable p]:decide p=pd p:=yE Iff.rfl
def Az{b:Bool}{p:Prop}(h:b=bg↔p):b=pd p:=by
 cases b with
 |true=>exact(jE.2 (h.1 rfl)).symm
 |false =>
  cases hp:pd p with
  |false=>rfl
  |true=>exact aU (h.2 (jE.1 hp)) ae
def JW{p q:Prop}(h:p↔q):pd p=pd q:=Az (jE.trans h)
def zp2{α β:Type}[Inhabited α][Inhabited β](a:List α)(b:List β)(G:α->β->Option Bool)(g:α->β->Bool)(L:Nat->Int->Option (Bool⊕Unit))
  (hL:∀K q,L (K+1) q=(bif (decide (q<((bf a:Nat):Int)))then(idx a q).bind λx=>aN (idx b q) λy=>aN (G x y) λr=>(bif (!r)then bc (bp bd)else L K (w64 (q+1)))else bc (br ())))
  (hs:a.length<4611686018427387904) (hl:b.length=a.length):
  ∀(r:List α)(t:List β)(i K:Nat),a.drop i=r->b.drop i=t->i<=a.length->r.length<K->(∀x∈r,∀y∈t,G x y=bc (g x y))->L K (i:Int)=bc (bif (r.zip t).all (λp=>g p.1 p.2)then br ()else bp bd)
 |[],t,i,K,hr,ht,hi,hK,_=>by
  obtain⟨K,rfl⟩:∃k,K=k+1:=⟨K-1,by simp at hK;omega⟩
  have:=drop_nil hr hi;rw[hL,df ab];simp
 |x::r,[],i,K,hr,ht,hi,hK,_=>by
  have h1:=drop_nil ht ab;obtain⟨_,_,h3⟩:=xA hr;omega
 |x::r,y::t,i,K,hr,ht,hi,hK,hG=>by
  obtain⟨K,rfl⟩:∃k,K=k+1:=⟨K-1,by simp at hK;omega⟩
  obtain⟨h1,h2,h3⟩:=xA hr;obtain⟨k1,k2,k3⟩:=xA ht;simp only[lc]at hK;rw[hL,dt ab,ctQ,z7 h1,bsQ,z7 k1,bsQ,hG x al y al,bsQ];simp only[iE,cO]
  cases hg:g x y with
  |false=>rfl
  |true =>
   simp only[bW,cf,cr];rw[yV ab]
   exact zp2 a b G g L hL hs hl r t (i+1) K h2 k2 ab ab λx hx y hy=>hG x (mcQ _ hx) y (mcQ _ hy)
def zEv{α:Type}{g:α->α->Bool}:∀{a b:List α},a.length=b.length->(∀x∈a,∀y∈b,(g x y=bg↔x=y))->((a.zip b).all (λp=>g p.1 p.2)=bg↔a=b)
 |[],[],_,_=>af
 |[],_::_,h,_=>by simp at h
 |_::_,[],h,_=>by simp at h
 |x::a,y::b,h,hg=>by
  simp only[lc,Nat.add_right_cancel_iff]at h;simp only[iE,cO,bn,List.cons.injEq];rw[hg x al y al,zEv h λx hx y hy=>hg x (mcQ _ hx) y (mcQ _ hy)]
def vY{α:Type}[Inhabited α](a b:List α)(G:α->α->Option Bool)(L:Nat->Int->Option (Bool⊕Unit))
  (hL:∀K q,L (K+1) q=(bif (decide (q<((bf a:Nat):Int)))then(idx a q).bind λx=>aN (idx b q) λy=>aN (G x y) λr=>(bif (!r)then bc (bp bd)else L K (w64 (q+1)))else bc (br ())))
  (hs:a.length<4611686018427387904) (hG:∀x∈a,∀y∈b,G x y=bc (pd (x=y))):
  (bif (!(decide (((bf a:Nat):Int)=((bf b:Nat):Int))))then bc bd else(L KK 0).bind (xT bc λ_=>bc bg))=bc (pd (a=b)):=by
 by_cases hl:a.length=b.length
 ·rw[dt ab]
  simp only[bW,cf];have:=zp2 a b G (λx y=>pd (x=y)) L hL hs hl.symm a b 0 KK rfl rfl (cj _) (vJ ab) hG;rw[show((0:Int))=((0:Nat):Int) from rfl,this]
  have hz:=zEv (g:=λx y=>pd (x=y)) hl λx _ y _=>jE
  have e:=Az hz;rw[<- e];cases (a.zip b).all (λp=>pd (p.1=p.2))<;>rfl
 ·rw[df ab]
  simp only[cK,ctQ];exact aQ bc (Az ⟨λh=>(by cases h),λh=>aU (aQ bf h) hl⟩)
-- levels
mutual
def YJ:Expr->Nat
 |⟨_,_,_,_,az⟩=>zth az+1
def zth:List Expr->Nat
 |[]=>0
 |e::r=>max (YJ e) (zth r)
end
mutual
def jF:Expr->Nat
 |⟨_,_,_,_,az⟩=>H9 az+1
def H9:List Expr->Nat
 |[]=>0
 |e::r=>jF e+H9 r
end
def JX:∀e:Expr,0<jF e
 |⟨_,_,_,_,az⟩=>by rw[jF];omega
def QK:∀l:List Expr,l.length<=H9 l
 |[]=>dj _
 |e::r=>by rw[H9,lc];have:=QK r;have:=JX e;omega
def zp3:∀(l:List Expr)(i:Nat),H9 (l.drop i)<=H9 l
 |l,0=>dj _
 |[],i+1=>dj _
 |e::r,i+1=>by rw[fT,H9];have:=zp3 r i;omega
mutual
def zEw:∀e:Expr,YJ e<=jF e
 |⟨_,_,_,_,az⟩=>by rw[YJ,jF];have:=zlm az;omega
def zlm:∀l:List Expr,zth l<=H9 l
 |[]=>dj _
 |e::r=>by rw[zth,H9];have:=zEw e;have:=zlm r;omega
end
def zEx:∀(n:Nat)(e:Expr)(K:Nat),jF e<=n->n<=K->n<=1000000000->jg K e=bc ((YJ e:Nat):Int):=by
 intro n
 induction n with
 |zero=>intro e K h;have:=JX e;omega
 |succ n ih =>
  intro e K h hK hn
  obtain⟨K,rfl⟩:∃k,K=k+1:=⟨K-1,ab⟩
  obtain⟨op,nn,ss,kk,az⟩:=e;rw[jF]at h
  have loop:∀(l:List Expr)(i Q m:Nat),az.drop i=l->i<=az.length->l.length<Q->m<=1000000000->qy (jg K) az (az.length:Int) Q ((m:Int),(i:Int))=bc ((max m (zth l):Nat):Int):=by
   intro l
   induction l with
   |nil =>
    intro i Q m hd hi hQ hm
    obtain⟨Q,rfl⟩:∃k,Q=k+1:=⟨Q-1,ab⟩
    have:=drop_nil hd hi;rw[qy,df (show ¬((i:Int)<(az.length:Int)) by omega)];simp[zth]
   |cons a l ihl =>
    intro i Q m hd hi hQ hm
    obtain⟨Q,rfl⟩:∃k,Q=k+1:=⟨Q-1,ab⟩
    obtain⟨h1,h2,h3⟩:=xA hd;simp only[lc]at hQ
    have hna:jF a+H9 l<=n:=by
     have:=zp3 az i;rw[hd,H9]at this;omega
    have hlen:=QK az;have hla:=zEw a;rw[qy,dt (show((i:Int)<(az.length:Int)) by omega),ctQ,z7 h1,bsQ,show Expr.mk a.Op a.N a.S a.Key a.Args=a by cases a;rfl,ih a K ab ab ab,bsQ,yV ab]
    have e:max (m:Int) ((YJ a:Nat):Int)=((max m (YJ a):Nat):Int):=ab
    simp only;rw[e,ihl (i+1) Q (max m (YJ a)) h2 ab ab ab,zth,Nat.max_assoc]
  have hlen:=QK az;have hlv:=zlm az;rw[jg,YJ];have:=loop az 0 KK 0 rfl ab (vJ ab) ab;rw[show(((0:Nat):Int))=(0:Int) from rfl]at this;simp only;rw[this,bsQ,Nat.zero_max,xY ab ab];rfl
-- expressions
def zb0:∀{l:List Expr}{e:Expr},e∈l->jF e<=H9 l
 |x::r,e,h=>by
  rw[H9]
  rcases bq.1 h with rfl|h
  ·omega
  ·have:=zb0 h;omega
def zEy:∀(n:Nat)(a b:Expr)(K:Nat),jF a<=n->2*n<=K->n<=1000000000->jj K a b=bc (pd (a=b)):=by
 intro n
 induction n with
 |zero=>intro a b K h;have:=JX a;omega
 |succ n ih =>
  intro a b K h hK hn
  obtain⟨K,rfl⟩:∃k,K=k+2:=⟨K-2,ab⟩
  obtain⟨o1,n1,s1,k1,z1⟩:=a;obtain⟨o2,n2,s2,k2,z2⟩:=b;rw[jF]at h;have hz:=QK z1
  have hl:vI (K+1) z1 z2=bc (pd (z1=z2)):=by
   rw[vI]
   refine vY z1 z2 (λx y=>jj K (Expr.mk x.Op x.N x.S x.Key x.Args) (Expr.mk y.Op y.N y.S y.Key y.Args)) _ (λK q=>rfl) ab λx hx y hy=>?_
   have h1:=zb0 hx;have:=ih x y K ab ab ab;cases x;cases y;exact this
  rw[jj];simp only[hl,bsQ];simp only[zax]
  have e:pd ((⟨o1,n1,s1,k1,z1⟩:Expr)=⟨o2,n2,s2,k2,z2⟩)=(pd (o1=o2)&&(pd (n1=n2)&&(pd (s1=s2)&&(pd (k1=k2)&&pd (z1=z2))))):=by
   refine(Az ?_).symm;simp only[bn,jE,Expr.mk.injEq]
  rw[e];cases pd (o1=o2)<;>cases pd (n1=n2)<;>cases pd (s1=s2)<;>cases pd (k1=k2)<;>rfl
def Q7(e:Expr):Prop:=jF e<=1000000000
def ziq{a b:Expr}(h:Q7 a):jj KK a b=bc (pd (a=b)):=zEy 1000000000 a b KK h (gQ (vJ ab)) ab
def xg(e:Expr):Expr.mk e.Op e.N e.S e.Key e.Args=e:=by cases e;rfl
def AA{p q:Prop}:pd (p/\q)=(pd p&&pd q):=(Az (by simp only[bn,jE])).symm
def zEz{a b:List Def}(hs:a.length<4611686018427387904)(hE:∀d∈a,Q7 d.Body):wD a b=bc (pd (a=b)):=by
 unfold wD
 refine vY a b (λx y=>zbm (Def.mk x.aL (Expr.mk x.Body.Op x.Body.N x.Body.S x.Body.Key x.Body.Args)) (Def.mk y.aL (Expr.mk y.Body.Op y.Body.N y.Body.S y.Body.Key y.Body.Args))) _ (λK q=>rfl) hs λx hx y hy=>?_
 have h:=hE x hx;simp only[xg];obtain⟨n1,e1⟩:=x;obtain⟨n2,e2⟩:=y;unfold zbm;simp only[xg,ziq h,bsQ,zax,Def.mk.injEq,AA];cases pd (n1=n2)<;>rfl
def zir{a b:List ak}(hs:a.length<4611686018427387904):jO a b=bc (pd (a=b)):=by
 unfold jO
 refine vY a b (λx y=>bc (decide (x=y))) _ (λK q=>rfl) hs λx _ y _=>?_
 rw[zax]
def zp4{a b:List aw}(hs:a.length<4611686018427387904):jX a b=bc (pd (a=b)):=by
 unfold jX
 refine vY a b (λx y=>bc (decide (x.aL=y.aL)&&(decide (x.N=y.N)))) _ (λK q=>rfl) hs λx _ y _=>?_
 obtain⟨n1,m1⟩:=x;obtain⟨n2,m2⟩:=y;simp only[zax,aw.mk.injEq,AA]
def zez{a b:List zV}(hs:a.length<4611686018427387904):vn a b=bc (pd (a=b)):=by
 unfold vn
 refine vY a b (λx y=>bc (decide (x.X=y.X)&&(decide (x.Y=y.Y)))) _ (λK q=>rfl) hs λx _ y _=>?_
 obtain⟨n1,m1⟩:=x;obtain⟨n2,m2⟩:=y;simp only[zax,zV.mk.injEq,AA]
def zak{a b:List zg}(hs:a.length<4611686018427387904):vq a b=bc (pd (a=b)):=by
 unfold vq
 refine vY a b (λx y=>bc (decide (x.X=y.X)&&(decide (x.Y=y.Y)&&(decide (x.Z_=y.Z_))))) _ (λK q=>rfl) hs λx _ y _=>?_
 obtain⟨n1,m1,k1⟩:=x;obtain⟨n2,m2,k2⟩:=y;simp only[zax,zg.mk.injEq,AA]
def zti{a b:List au}(hs:a.length<4611686018427387904)(hE:∀d∈a,d.Rows.length<4611686018427387904):wE a b=bc (pd (a=b)):=by
 unfold wE
 refine vY a b zbn _ (λK q=>rfl) hs λx hx y hy=>?_
 have h:=hE x hx;obtain⟨n1,r1,e1⟩:=x;obtain⟨n2,r2,e2⟩:=y;unfold zbn;simp only[zp4 h,bsQ,zax,au.mk.injEq,AA];cases pd (n1=n2)<;>cases pd (e1=e2)<;>cases pd (r1=r2)<;>rfl
def zO2{a b:Bool}:(a==b)=pd (a=b):=Az beq_iff_eq
def zzd{a b:List yt}(hs:a.length<4611686018427387904)(hE:∀d∈a,d.aA.length<4611686018427387904):wG a b=bc (pd (a=b)):=by
 unfold wG
 refine vY a b zbo _ (λK q=>rfl) hs λx hx y hy=>?_
 have h:=hE x hx;obtain⟨n1,r1,e1⟩:=x;obtain⟨n2,r2,e2⟩:=y;unfold zbo;simp only[zez h,bsQ,zax,zO2,yt.mk.injEq,AA];cases pd (n1=n2)<;>cases pd (r1=r2)<;>rfl
def zE0{a b:List Cap}(hs:a.length<4611686018427387904)(hE:∀d∈a,d.aA.length<4611686018427387904):wH a b=bc (pd (a=b)):=by
 unfold wH
 refine vY a b zbp _ (λK q=>rfl) hs λx hx y hy=>?_
 have h:=hE x hx;obtain⟨n1,r1,l1,e1⟩:=x;obtain⟨n2,r2,l2,e2⟩:=y;unfold zbp;simp only[zez h,bsQ,zax,Cap.mk.injEq,AA];cases pd (n1=n2)<;>cases pd (r1=r2)<;>cases pd (l1=l2)<;>rfl
def zze{a b:List av}(hs:a.length<4611686018427387904)(hE:∀d∈a,d.Targets.length<4611686018427387904):wI a b=bc (pd (a=b)):=by
 unfold wI
 refine vY a b zbq _ (λK q=>rfl) hs λx hx y hy=>?_
 have h:=hE x hx;obtain⟨n1,⟨x1,y1,z1⟩,l1,e1⟩:=x;obtain⟨n2,⟨x2,y2,z2⟩,l2,e2⟩:=y;unfold zbq;simp only[zak h,bsQ,zax,av.mk.injEq,zg.mk.injEq,AA];cases pd (n1=n2)<;>cases pd (x1=x2)<;>cases pd (y1=y2)<;>cases pd (z1=z2)<;>cases pd (l1=l2)<;>rfl
def zp5{a b:zO}(h1:a.aB.length<4611686018427387904)(h2:a.Except.length<4611686018427387904)(h3:Q7 a.Test):qE a b=bc (pd (a=b)):=by
 obtain⟨a1,a2,a3,a4,a5,a6,a7,a8,a9,⟨p1,p2,p3,p4⟩,a10,a11,a12⟩:=a;obtain⟨b1,b2,b3,b4,b5,b6,b7,b8,b9,⟨q1,q2,q3,q4⟩,b10,b11,b12⟩:=b;unfold qE;simp only[zir h1,zir h2,xg,ziq h3,bsQ,zax,zO2,zO.mk.injEq,zy.mk.injEq,AA]
 cases pd (a2=b2)<;>cases pd (a3=b3)<;>cases pd (a9=b9)<;>simp only[bW,cK,ctQ,cf,bsQ,fc,eL,cr] <;>
 cases pd (a1=b1)<;>cases pd (a4=b4)<;>cases pd (a5=b5)<;>cases pd (a6=b6)<;>simp only[bsQ,ctQ,cf,fc,eL,cr] <;>
 cases pd (a7=b7)<;>cases pd (a8=b8)<;>simp only[bsQ,ctQ,cf,fc,eL,cr] <;>
 cases (pd (p1=q1)&&(pd (p2=q2)&&(pd (p3=q3)&&pd (p4=q4))))<;>cases pd (a10=b10)<;>cases pd (a11=b11)<;>rfl
def zzf{a b:List zO}(hs:a.length<4611686018427387904)(hE:∀d∈a,d.aB.length<4611686018427387904/\d.Except.length<4611686018427387904/\Q7 d.Test):wF a b=bc (pd (a=b)):=by
 unfold wF
 refine vY a b (λx1 x2=>qE (zO.mk x1.aL x1.aB x1.Except x1.From x1.Until x1.Grace x1.Vary x1.aM (Expr.mk x1.Test.Op x1.Test.N x1.Test.S x1.Test.Key x1.Test.Args) x1.zy x1.Uses x1.Other x1.N) (zO.mk x2.aL x2.aB x2.Except x2.From x2.Until x2.Grace x2.Vary x2.aM (Expr.mk x2.Test.Op x2.Test.N x2.Test.S x2.Test.Key x2.Test.Args) x2.zy x2.Uses x2.Other x2.N)) _ (λK q=>rfl) hs λx hx y hy=>?_
 obtain⟨h1,h2,h3⟩:=hE x hx;simp only[xg];exact zp5 h1 h2 h3
def z1p(p:yZ):Prop :=
 (p.aF.length<4611686018427387904/\∀d∈p.aF,Q7 d.Body)/\(p.Tables.length<4611686018427387904/\∀d∈p.Tables,d.Rows.length<4611686018427387904)/\(p.aB.length<4611686018427387904/\∀d∈p.aB,d.aA.length<4611686018427387904) /\
 (p.aE.length<4611686018427387904/\∀d∈p.aE,d.aB.length<4611686018427387904/\d.Except.length<4611686018427387904/\Q7 d.Test)/\(p.aJ.length<4611686018427387904/\∀d∈p.aJ,d.aA.length<4611686018427387904)/\(p.aG.length<4611686018427387904/\∀d∈p.aG,d.Targets.length<4611686018427387904)/\p.aK.length<4611686018427387904
def zp6{a b:yZ}(h:z1p a):zop a b=bc (pd (a=b)):=by
 obtain⟨⟨d1,d2⟩,⟨t1,t2⟩,⟨z1,z2⟩,⟨r1,r2⟩,⟨c1,c2⟩,⟨v1,v2⟩,s1⟩:=h;obtain⟨aD,aT,aZ,aR,aC,aV,aS,aH⟩:=a;obtain⟨bD,bT,bZ,bR,bC,bV,bS,bH⟩:=b;unfold zop;simp only[zEz d1 d2,zti t1 t2,zzd z1 z2,zzf r1 r2,zE0 c1 c2,zze v1 v2,zak s1,bsQ,zax,yZ.mk.injEq,AA];cases pd (aD=bD)<;>cases pd (aT=bT)<;>cases pd (aZ=bZ)<;>cases pd (aR=bR)<;>cases pd (aC=bC)<;>cases pd (aV=bV)<;>cases pd (aS=bS)<;>rfl
def zwj{α τ:Type}(l:List α)(g:α->Bool)(ok bad:τ)(L:Nat->Int->τ)
  (hL:∀K (i:Nat) x,l[i]?=bc x->L (K+1) (i:Int)=bif g x then L K ((i+1:Nat):Int)else bad) (hE:∀K,L (K+1) (l.length:Int)=ok):
  ∀(r:List α)(i K:Nat),l.drop i=r->i<=l.length->r.length<K->L K (i:Int)=bif r.all g then ok else bad
 |[],i,K,hr,hi,hK=>by
  obtain⟨K,rfl⟩:∃k,K=k+1:=⟨K-1,by simp at hK;omega⟩
  have:=drop_nil hr hi;subst this;rw[hE];rfl
 |x::r,i,K,hr,hi,hK=>by
  obtain⟨K,rfl⟩:∃k,K=k+1:=⟨K-1,by simp at hK;omega⟩
  obtain⟨h1,h2,h3⟩:=xA hr;simp only[lc]at hK;rw[hL K i x h1,cO]
  cases g x with
  |false=>rfl
  |true=>exact zwj l g ok bad L hL hE r (i+1) K h2 ab ab
def zb1{α τ:Type}(l:List α)(g:α->Bool)(ok bad:τ)(L:Nat->Int->τ)(hs:l.length<=9223372036854775807)
  (hL:∀K (i:Nat) x,l[i]?=bc x->L (K+1) (i:Int)=bif g x then L K ((i+1:Nat):Int)else bad) (hE:∀K,L (K+1) (l.length:Int)=ok):
  L KK 0=bif l.all g then ok else bad:=zwj l g ok bad L hL hE l 0 KK rfl (cj _) (vJ ab)
def zp7{α σ τ:Type}(l:List α)(f:σ->α->σ)(fin:σ->τ)(I:Nat->σ->Prop)(L:Nat->Int->σ->τ)
  (hL:∀K (i:Nat) x s,l[i]?=bc x->I i s->L (K+1) (i:Int) s=L K ((i+1:Nat):Int) (f s x)/\I (i+1) (f s x)) (hE:∀K s,I l.length s->L (K+1) (l.length:Int) s=fin s):
  ∀(r:List α)(i K:Nat)(s:σ),l.drop i=r->i<=l.length->r.length<K->I i s->L K (i:Int) s=fin (r.foldl f s)/\I l.length (r.foldl f s)
 |[],i,K,s,hr,hi,hK,hI=>by
  obtain⟨K,rfl⟩:∃k,K=k+1:=⟨K-1,by simp at hK;omega⟩
  have:=drop_nil hr hi;subst this;exact⟨hE K s hI,hI⟩
 |x::r,i,K,s,hr,hi,hK,hI=>by
  obtain⟨K,rfl⟩:∃k,K=k+1:=⟨K-1,by simp at hK;omega⟩
  obtain⟨h1,h2,h3⟩:=xA hr;simp only[lc]at hK;obtain⟨e1,e2⟩:=hL K i x s h1 hI;rw[e1,dv];exact zp7 l f fin I L hL hE r (i+1) K (f s x) h2 ab ab e2
def Yg{α σ τ:Type}(l:List α)(f:σ->α->σ)(fin:σ->τ)(I:Nat->σ->Prop)(L:Nat->Int->σ->τ)(s:σ)(hs:l.length<4611686018427387904)(h0:I 0 s)
  (hL:∀K (i:Nat) x s,l[i]?=bc x->I i s->L (K+1) (i:Int) s=L K ((i+1:Nat):Int) (f s x)/\I (i+1) (f s x)) (hE:∀K s,I l.length s->L (K+1) (l.length:Int) s=fin s):
  L KK 0 s=fin (l.foldl f s)/\I l.length (l.foldl f s):=zp7 l f fin I L hL hE l 0 KK s rfl (cj _) (vJ ab) h0
def uC{α:Type}{l:List α}{i:Nat}{x:α}(h:l[i]?=bc x):decide ((i:Int)<(bf l:Nat))=bg:=dt (by have:=(bx.1 h).1;omega)
def jR{α:Type}{l:List α}:decide (((bf l:Nat):Int)<(bf l:Nat))=bd:=df ab
def qN{α:Type}{l:List α}{i:Nat}{x:α}(h:l[i]?=bc x):i<l.length:=(bx.1 h).1
def QQ:Int⊕ak->ak
 |.inl n=>if n<0 then 45::32::Lib.decDigits n.natAbs else Lib.decDigits n.toNat
 |.inr s=>s
def ztj(s:ak):ak:=bif s.isEmpty||decide (s.getLast?=bc 10)then s else s++[32]
def zln(s:ak)(x:Int⊕ak):ak:=ztj s++QQ x
def spT(l:List (Int⊕ak)):ak:=l.flatMap λx=>32::QQ x
def yi:List (Int⊕ak)->ak
 |[]=>[59,10]
 |x::l=>QQ x++spT l++[32,59,10]
def Good(t:ak):Prop:=t≠[]/\t.getLast?≠bc 10
def zK1{s:ak}(h:Good s):ztj s=s++[32]:=by
 unfold ztj
 have h1:s.isEmpty=bd:=by cases s with
  |nil=>exact aU rfl h.1
  |cons=>rfl
 rw[h1,df h.2];rfl
def xp{s t:ak}(h:Good t):Good (s++t):=by
 obtain⟨h1,h2⟩:=h;refine⟨by simp[h1],?_⟩;rw[gT]
 cases ht:t.getLast? with
 |none=>exact aU (gC.1 ht) h1
 |some a=>rw[ht]at h2;simpa using h2
def ze0:∀{l:List (Int⊕ak)}{s:ak},Good s->(∀x∈l,Good (QQ x))->l.foldl zln s=s++spT l/\Good (s++spT l)
 |[],s,h,_=>by simp only[gV,spT,dx,bE,true_and];exact h
 |x::l,s,h,hl=>by
  have e:zln s x=s++32::QQ x:=by rw[zln,zK1 h];simp
  have hg:Good (s++32::QQ x):=by
   have:=xp (s:=s++[32]) (hl x al);simpa using this
  have:=ze0 (l:=l) hg (λy hy=>hl y (mcQ _ hy));rw[dv,e];simp only[spT,bO]at this ⊢;simpa using this
def JY{o:Option (Bool⊕Unit)}{g r:Bool}{f:Unit->Option Bool}(h:o=bc (bif g then br ()else bp bd))(hr:g=bg->f ()=bc r):o.bind (xT bc f)=bc (g&&r):=by
 subst h
 cases g with
 |false=>rfl
 |true=>rw[ctQ,bsQ,xT,hr rfl,cr]
def zlo{o:Option Bool}{f:Option Bool}{g r:Bool}(h:o=bc g)(hr:g=bg->f=bc (!r)):(o.bind λx=>bif (!x)then bc bg else f)=bc (!(g&&r)):=by
 subst h
 cases g with
 |false=>rfl
 |true=>rw[bsQ,bW,cf,hr rfl,cr]
def uK{a:Nat}{m:Int}(n:Nat){f:Option Bool}{r:Bool}(hm:m=(n:Int))(hr:a<=n->f=bc (!r)):(bif decide ((a:Int)>m)then bc bg else f)=bc (!(decide (a<=n)&&r)):=by
 by_cases h:a<=n
 ·rw[df ab,dt h,cf,hr h,cr]
 ·rw[dt ab,df h];rfl
def VD{a:Nat}{m:Int}(n:Nat)(hm:m=(n:Int)):bc (decide ((a:Int)>m))=bc (!(decide (a<=n))):=by
 by_cases h:a<=n
 ·rw[df ab,dt h];rfl
 ·rw[dt ab,df h];rfl
def qf{α:Type}(l:List α)(g:α->Bool)(L:Nat->Int->Option (Bool⊕Unit))(B:Int->Option Bool)(hs:l.length<=9223372036854775807)
  (hL:∀K q,L (K+1) q=(bif (decide (q<((bf l:Nat):Int)))then(B q).bind λr=>(bif r then bc (bp bd)else L K (w64 (q+1)))else bc (br ())))
  (hB:∀(i:Nat) x,l[i]?=bc x->B (i:Int)=bc (!(g x))):L KK 0=bc (bif l.all g then br ()else bp bd):=by
 have:=zb1 l g (bc (br ())) (bc (bp bd)) L hs (λK i x h=>?_) (λK=>by rw[hL,jR];rfl)
 ·rw[this];cases l.all g<;>rfl
 ·have hi:=qN h
  rw[hL,uC h,ctQ,hB i x h,bsQ,yV ab];cases g x<;>rfl
mutual
def AB:Expr->Bool
 |⟨_,_,s,k,az⟩=>zp8 az&&(decide (s.length<=30)&&decide (k.length<=30))
def zp8:List Expr->Bool
 |[]=>bg
 |e::r=>AB e&&zp8 r
end
def Zw:∀l:List Expr,zp8 l=l.all AB
 |[]=>by rw[zp8];rfl
 |e::r=>by rw[zp8,Zw r,cO]
def zE1{o n:Int}{s k:ak}{az:List Expr}{m RK:Nat}(hm:m<=1000)(ih:∀m'<m,∀e,vS RK e (m':Int)=bc ((min (jF e) (m'+1):Nat):Int)):
  ∀(r:List Expr)(i j K:Nat),az.drop i=r->i<=az.length->i<j->j<=m+1->m+1<K+j->vx (vS RK) (m:Int) o n s k az K ((j:Int),(i:Int))=bc ((min (j+H9 r) (m+1):Nat):Int)
 |[],i,j,K,hr,hi,h1,h2,hK=>by
  obtain⟨K,rfl⟩:∃k,K=k+1:=⟨K-1,ab⟩
  have:=drop_nil hr hi;rw[vx];simp only[df (show ¬((i:Int)<(az.length:Nat)) by omega),cf,bsQ];rw[H9];exact aQ bc ab
 |x::r,i,j,K,hr,hi,h1,h2,hK=>by
  obtain⟨K,rfl⟩:∃k,K=k+1:=⟨K-1,ab⟩
  obtain⟨g1,g2,g3⟩:=xA hr;rw[vx];simp only[dt (show((i:Int)<(az.length:Nat)) by omega),ctQ,bsQ];by_cases hj:j<=m
  ·rw[dt (show(j:Int)<=(m:Int) by omega),ctQ,z7 g1,bsQ,xY ab ab,show(m:Int)-(j:Int)=((m-j:Nat):Int) by omega,ih (m-j) ab x,bsQ]
   have hp:=JX x;rw[xY ab ab,yV ab,show(j:Int)+((min (jF x) (m-j+1):Nat):Int)=((j+min (jF x) (m-j+1):Nat):Int) by omega];rw[zE1 hm ih r (i+1) (j+min (jF x) (m-j+1)) K g2 ab ab ab ab,H9];exact aQ bc ab
  ·rw[df (show ¬(j:Int)<=(m:Int) by omega),cf,H9]
   exact aQ bc ab
def zE2:∀(m:Nat)(e:Expr)(K:Nat),m<K->m<=1000->vS K e (m:Int)=bc ((min (jF e) (m+1):Nat):Int):=by
 intro m
 induction m using Nat.strongRecOn with
 |_ m ih =>
  intro e K hK hm
  obtain⟨K,rfl⟩:∃k,K=k+1:=⟨K-1,ab⟩
  obtain⟨o,n,s,k,az⟩:=e;rw[vS];have:=zE1 (o:=o) (n:=n) (s:=s) (k:=k) (az:=az) (m:=m) (RK:=K) hm (λm' h' e=>ih m' h' e K ab ab) az 0 1 KK rfl (cj _) ab ab (by have:=vJ (n:=2000) ab;omega);rw[show((1:Int),(0:Int))=(((1:Nat):Int),((0:Nat):Int)) from rfl,this,jF,bsQ];exact aQ bc ab
def zE3:∀(n:Nat)(e:Expr)(K:Nat),jF e<=n->n<=K->n<=1000000000->j8 K e=bc (AB e):=by
 intro n
 induction n with
 |zero=>intro e K h;have:=JX e;omega
 |succ n ih =>
  intro e K h hK hn
  obtain⟨K,rfl⟩:∃k,K=k+1:=⟨K-1,ab⟩
  obtain⟨o,m,s,k,az⟩:=e;rw[jF]at h;have hz:=QK az;rw[j8,AB,Zw]
  refine JY (qf az AB _ (λq=>aN (idx az q) λx1=>aN (j8 K x1) λx2=>bc (!x2)) ab (λK q=>?_) λi x hx=>?_) λ_=>?_
  ·rw[qZ]
   simp only[cy,bsQ]
  ·rw[z7 hx,bsQ,ih x K (by have:=zb0 (bL hx);omega) ab ab];rfl
  ·show(bif decide (((bf s:Nat):Int)<=30)then bc (decide (((bf k:Nat):Int)<=30))else bc bd)=_
   rw[zik s.length 30 (a:=30) rfl,zik k.length 30 (a:=30) rfl];cases decide (bf s<=30)<;>rfl
def zz6(e:Expr):Bool:=decide (jF e<=200)&&AB e
def ze1(e:Expr):jz e=bc (zz6 e):=by
 unfold jz zz6;rw[xg,show(200:Int)=((200:Nat):Int) from rfl,zE2 200 e KK (vJ ab) ab,bsQ,yE (q:=jF e<=200) ab];by_cases h:jF e<=200
 ·rw[dt h,ctQ,zE3 200 e KK h (gQ (vJ ab)) ab];rfl
 ·rw[df h];rfl
def zO3(l:List ak):Bool:=l.all (λx=>decide (x.length<=30))&&decide (l.length<=10)
def zal{l:List ak}(h:l.length<=9223372036854775807):wy l=bc (zO3 l):=by
 unfold wy zO3
 refine JY (qf l _ _ (λq=>aN (idx l q) λx1=>bc (decide (((bf x1:Nat):Int)>30))) h (λK q=>?_) λi x hx=>?_) λ_=>?_
 ·rw[jA]
  simp only[cy,bsQ]
 ·rw[z7 hx,bsQ];exact VD 30 rfl
 ·rw[zik l.length 10 (a:=10) rfl]
def zVl(t:au):Bool:=decide (t.aL.length<=30)&&(decide (t.Rows.length<=64)&&t.Rows.all λx=>decide (x.aL.length<=30))
def zO4(r:zO):Bool:=decide (r.aL.length<=30)&&(zO3 r.aB&&(zO3 r.Except&&zz6 r.Test))
def zY5(p:yZ):Bool :=
 (decide (p.aF.length<=8)&&(decide (p.Tables.length<=8)&&(decide (p.aB.length<=8)&&(decide (p.aE.length<=8)&&(decide (p.aJ.length<=8)&&(decide (p.aG.length<=8)&&decide (p.aK.length<=64))))))) &&
 (p.aF.all (λd=>decide (d.aL.length<=30)&&zz6 d.Body)&&(p.Tables.all zVl&&(p.aB.all (λd=>decide (d.aL.length<=30)&&decide (d.aA.length<=64))&&(p.aE.all zO4 &&
 (p.aJ.all (λd=>decide (d.aL.length<=30)&&decide (d.aA.length<=64))&&(p.aG.all (λd=>decide (d.aL.length<=30)&&decide (d.Targets.length<=64))&&bg))))))
def LenP(p:yZ):Prop:=∀r∈p.aE,r.aB.length<=9223372036854775807/\r.Except.length<=9223372036854775807
def zY6{c0:List Def}{c1:List au}{c2:List yt}{c3:List zO}{c4:List Cap}{c5:List av}{c6:List zg}{c7:Int}(hl:c0.length<=8):A1 c0 c1 c2 c3 c4 c5 c6 c7 KK 0=bc (bif c0.all (λd=>decide (d.aL.length<=30)&&zz6 d.Body)then .inr ()else .inl bd):=by
 refine qf c0 _ _ _ ab (λK q=>rfl) λi x hx=>?_
 simp only[z7 hx,bsQ,ze1]
 exact uK 30 rfl λ_=>rfl
def zY7{c0:List Def}{c1:List au}{c2:List yt}{c3:List zO}{c4:List Cap}{c5:List av}{c6:List zg}{c7:Int}(hl:c1.length<=8):vT c0 c1 c2 c3 c4 c5 c6 c7 KK 0=bc (bif c1.all zVl then .inr ()else .inl bd):=by
 have:=zb1 c1 zVl (bc (br ())) (bc (bp bd)) (vT c0 c1 c2 c3 c4 c5 c6 c7) ab (λK i x h=>?_) (λK=>by rw[vT,jR];rfl)
 ·rw[this];cases c1.all zVl<;>rfl
 ·have hi:=qN h
  rw[vT,uC h,ctQ,z7 h,bsQ,yV ab];rw[uK (m:=30) 30 rfl (r:=decide (x.Rows.length<=64)) (λ_=>VD (m:=64) 64 rfl),bsQ];unfold zVl;cases hn:decide (x.aL.length<=30)
  ·rfl
  cases hr:decide (x.Rows.length<=64)
  ·rfl
  simp only[Bool.and_self,bW,cf,cr];have hr':=aY hr;rw[qf x.Rows (λx=>decide (x.aL.length<=30)) (uw (i:Int) c0 c1 c2 c3 c4 c5 c6 c7 x.aL x.Rows x.Else) (λq=>aN (idx x.Rows q) λx1=>bc (decide (((bf x1.aL:Nat):Int)>30))) ab (λK q=>?_) λi x hx=>?_,bsQ]
  ·cases x.Rows.all (λx=>decide (x.aL.length<=30))<;>rfl
  ·rw[uw]
   simp only[cy,bsQ]
  ·rw[z7 hx,bsQ];exact VD 30 rfl
def zY8{c0:List Def}{c1:List au}{c2:List yt}{c3:List zO}{c4:List Cap}{c5:List av}{c6:List zg}{c7:Int}(hl:c2.length<=8):A2 c0 c1 c2 c3 c4 c5 c6 c7 KK 0=bc (bif c2.all (λd=>decide (d.aL.length<=30)&&decide (d.aA.length<=64))then .inr ()else .inl bd):=by
 refine qf c2 _ _ _ ab (λK q=>rfl) λi x hx=>?_
 simp only[z7 hx,bsQ]
 exact uK 30 rfl λ_=>VD 64 rfl
def zY9{c0:List Def}{c1:List au}{c2:List yt}{c3:List zO}{c4:List Cap}{c5:List av}{c6:List zg}{c7:Int}(hl:c4.length<=8):A3 c0 c1 c2 c3 c4 c5 c6 c7 KK 0=bc (bif c4.all (λd=>decide (d.aL.length<=30)&&decide (d.aA.length<=64))then .inr ()else .inl bd):=by
 refine qf c4 _ _ _ ab (λK q=>rfl) λi x hx=>?_
 simp only[z7 hx,bsQ]
 exact uK 30 rfl λ_=>VD 64 rfl
def zZa{c0:List Def}{c1:List au}{c2:List yt}{c3:List zO}{c4:List Cap}{c5:List av}{c6:List zg}{c7:Int}(hl:c5.length<=8):A4 c0 c1 c2 c3 c4 c5 c6 c7 KK 0=bc (bif c5.all (λd=>decide (d.aL.length<=30)&&decide (d.Targets.length<=64))then .inr ()else .inl bd):=by
 refine qf c5 _ _ _ ab (λK q=>rfl) λi x hx=>?_
 simp only[z7 hx,bsQ]
 exact uK 30 rfl λ_=>VD 64 rfl
def zZb{c0:List Def}{c1:List au}{c2:List yt}{c3:List zO}{c4:List Cap}{c5:List av}{c6:List zg}{c7:Int}(hl:c3.length<=8)(hz:∀r∈c3,r.aB.length<=9223372036854775807/\r.Except.length<=9223372036854775807):kD c0 c1 c2 c3 c4 c5 c6 c7 KK 0=bc (bif c3.all zO4 then .inr ()else .inl bd):=by
 refine qf c3 zO4 (kD c0 c1 c2 c3 c4 c5 c6 c7) (λq=>aN (idx c3 q) λx1=>((bif (decide (((bf x1.aL:Nat):Int)>30))then bc bg else(wy x1.aB).bind λx3=>(bif (!x3)then bc bg else(wy x1.Except).bind λx4=>(bif (!x4)then bc bg else(jz (Expr.mk x1.Test.Op x1.Test.N x1.Test.S x1.Test.Key x1.Test.Args)).bind λx5=>bc (!x5)))))) ab (λK q=>?_) λi x hx=>?_
 ·rw[kD]
  simp only[cy]
 ·obtain⟨h1,h2⟩:=hz x (bL hx)
  simp only[z7 hx,bsQ,ze1,xg]
  exact uK 30 rfl λ_=>zlo (zal h1) λ_=>zlo (zal h2) λ_=>rfl
def zTd{p:yZ}(h:LenP p):WY p=bc (zY5 p):=by
 unfold WY zY5;rw[uK (m:=8) 8 rfl λ_=>uK (m:=8) 8 rfl λ_=>uK (m:=8) 8 rfl λ_=>uK (m:=8) 8 rfl λ_=>uK (m:=8) 8 rfl λ_=>uK (m:=8) 8 rfl λ_=>VD (m:=64) 64 rfl,bsQ];cases hh:(decide (p.aF.length<=8)&&(decide (p.Tables.length<=8)&&(decide (p.aB.length<=8)&&(decide (p.aE.length<=8)&&(decide (p.aJ.length<=8)&&(decide (p.aG.length<=8)&&decide (p.aK.length<=64)))))))
 ·rfl
 simp only[bn,aW]at hh;obtain⟨h1,h2,h3,h4,h5,h6,h7⟩:=hh;simp only[bW,cf,cr]
 exact JY (zY6 h1) λ_=>JY (zY7 h2) λ_=>JY (zY8 h3) λ_=>JY (zZb h4 h) λ_=>JY (zY9 h5) λ_=>JY (zZa h6) λ_=>rfl
-- greater bounds, for plans that were read
def zE4(e:Expr):Bool:=decide (jF e<=5000)&&AB e
def zVm(l:List ak):Bool:=l.all (λx=>decide (x.length<=30))&&decide (l.length<=3000)
def zHo(r:zO):Bool:=decide (r.aL.length<=30)&&(zVm r.aB&&(zVm r.Except&&zE4 r.Test))
def zwk{e:Expr}(h:zz6 e=bg):zE4 e=bg:=by
 simp only[zz6,zE4,bn,aW]at h ⊢;exact⟨ab,h.2⟩
def zwl{l:List ak}(h:zO3 l=bg):zVm l=bg:=by
 simp only[zO3,zVm,bn,aW]at h ⊢;exact⟨h.1,ab⟩
def zK2{r:zO}(h:zO4 r=bg):zHo r=bg:=by
 simp only[zO4,zHo,bn]at h ⊢;exact⟨h.1,zwl h.2.1,zwl h.2.2.1,zwk h.2.2.2⟩
def zO5{τ:Type}(n lo:Nat)(g:Nat->Bool)(ok bad:τ)(L:Nat->Int->τ)(hL:∀K (i:Nat),lo<=i->i<n->L (K+1) (i:Int)=bif g i then L K ((i+1:Nat):Int)else bad)(hE:∀K (i:Nat),n<=i->L (K+1) (i:Int)=ok):
  ∀(m a K:Nat),lo<=a->n-a<=m->m<K->L K (a:Int)=bif pd (∀k,a<=k->k<n->g k=bg)then ok else bad
 |0,a,K,hlo,h,hK=>by
  obtain⟨K,rfl⟩:∃k,K=k+1:=⟨K-1,ab⟩
  rw[hE K a ab,jE.2 (λk h1 h2=>ab)];rfl
 |m+1,a,K,hlo,h,hK=>by
  obtain⟨K,rfl⟩:∃k,K=k+1:=⟨K-1,ab⟩
  by_cases ha:n<=a
  ·rw[hE K a ha,jE.2 (λk h1 h2=>ab)];rfl
  ·rw[hL K a hlo ab]
   cases hg:g a with
   |false =>
    have:pd (∀k,a<=k->k<n->g k=bg)=bd:=by
     cases hp:pd (∀k,a<=k->k<n->g k=bg)with
     |false=>rfl
     |true=>rw[jE.1 hp a aq ab]at hg;cases hg
    rw[this];rfl
   |true =>
    rw[ctQ,zO5 n lo g ok bad L hL hE m (a+1) K ab ab ab]
    have:pd (∀k,a+1<=k->k<n->g k=bg)=pd (∀k,a<=k->k<n->g k=bg):=JW ⟨λh k h1 h2=>by
     by_cases hk:k=a
     ·rw[hk];exact hg
     ·exact h k ab h2,λh k h1 h2=>h k ab h2⟩
    rw[this]
def ptA(p:List zV)(i:Nat):zV:=p.getD (i % p.length) default
def zzg(a b c:zV):Bool :=
 (decide (0<=a.X)&&(decide (a.X<=1048576)&&(decide (0<=a.Y)&&decide (a.Y<=1048576)))) &&
 (!(decide (a.X=b.X)==decide (a.Y=b.Y))&&!(decide (a.X=b.X)==decide (b.X=c.X)))
def zzh(p:List zV)(i:Nat):Bool:=zzg (ptA p i) (ptA p (i+1)) (ptA p (i+2))
def zTe{α β:Type}{o:Option α}{v:α}{f:α->Option β}{r:Option β}(h:o=bc v)(h2:f v=r):o.bind f=r:=by rw[h,bsQ,h2]
def zE5(a b c:zV):(aN (Zd a) λx5=>(bif (!x5)then bc bg else(bif ((decide (a.X=b.X))==(decide (a.Y=b.Y)))then bc bg else(xG ⟨a,b⟩).bind λx6=>aN (xG ⟨b,c⟩) λx7=>bc (x6==x7))))=bc (!(zzg a b c)):=by
 show(aN (bif (decide (0<=a.X))then(bif (decide (a.X<=1048576))then(bif (decide (0<=a.Y))then bc (decide (a.Y<=1048576))else bc bd)else bc bd)else bc bd) λx5=>(bif (!x5)then bc bg else(bif ((decide (a.X=b.X))==(decide (a.Y=b.Y)))then bc bg else(bc ((decide (a.X=b.X))==(decide (b.X=c.X)))))))=_
 unfold zzg;cases decide (0<=a.X)
 ·rfl
 cases decide (a.X<=1048576)
 ·rfl
 cases decide (0<=a.Y)
 ·rfl
 cases decide (a.Y<=1048576)
 ·rfl
 cases (decide (a.X=b.X)==decide (a.Y=b.Y))<;>cases (decide (a.X=b.X)==decide (b.X=c.X))<;>rfl
def zK3(a b:zV):Bool:=decide (a.X<b.X)||(decide (a.X=b.X)&&decide (a.Y<b.Y))
def z1q(p:List zV)(i:Nat):Bool:=!(decide (0<i))||zK3 (ptA p 0) (ptA p i)
def zZc(a b c d:zV):Bool:=decide (max (min a.X b.X) (min c.X d.X)<=min (max a.X b.X) (max c.X d.X))&&decide (max (min a.Y b.Y) (min c.Y d.Y)<=min (max a.Y b.Y) (max c.Y d.Y))
def zVn(p:List zV)(i k:Nat):Bool:=decide ((k+1) % p.length=i)||!(zZc (ptA p i) (ptA p (i+1)) (ptA p k) (ptA p (k+1)))
def Hs(p:List zV):Prop:=(4<=p.length/\p.length<=60)/\(∀i,0<=i->i<p.length->(zzh p i&&z1q p i)=bg)/\(∀i,0<=i->i<p.length->pd (∀k,i+2<=k->k<p.length->zVn p i k=bg)=bg)/\¬(ptA p 0).X=(ptA p 1).X
def zO6{p:List zV}{i:Nat}(h:0<p.length):idx p (((i % p.length:Nat)):Int)=bc (ptA p i):=zOs (fD _ h)
def zE6{p:List zV}{i:Nat}(h:i<p.length):idx p ((i:Nat):Int)=bc (ptA p i):=by
 have:=zO6 (p:=p) (i:=i) ab
 rwa [eN h]at this
def zwm{i n:Nat}:Int.tmod (i:Int) (n:Int)=((i % n:Nat):Int):=rfl
def zZd{p:List zV}{i:Nat}:ptA p (i % p.length)=ptA p i:=by unfold ptA;rw[Nat.mod_mod]
def zTf{p:List zV}{i:Nat}:ptA p (i % p.length+1)=ptA p (i+1):=by unfold ptA;rw[Nat.mod_add_mod]
def zp9(p:List zV)(i:Nat):zI:=⟨ptA p i,ptA p (i+1)⟩
def zE7{p:List zV}(h0:0<p.length)(h1:p.length<=60):∃l,Qx p=bc l/\l.length=p.length/\∀j<p.length,l[j]?=bc (zp9 p j):=by
 have hr:(cL p.length).length=p.length:=iL
 have key:=Yg (cL p.length) (λs i=>List.set s i (zp9 p i)) (λs=>bc s) (λi s=>s.length=p.length/\∀j<i,s[j]?=bc (zp9 p j)) (λK q s=>vb p ((bf p:Nat):Int) K (q,s))
  (List.replicate (bX ((bf p:Nat):Int)) (zI.mk (zV.mk 0 0) (zV.mk 0 0))) ab ⟨af,λj hj=>ab⟩ (λK i x s hx hs=>?_) (λK s hs=>?_)
 ·refine⟨_,?_,key.2.1,λj hj=>key.2.2 j ab⟩
  unfold Qx;rw[zB ab,bsQ,key.1];rfl
 ·have hi:=qN hx
  rw[hr]at hi
  have hxi:x=i:=by simpa[dL,hi]using hx.symm
  subst hxi;obtain⟨s1,s2⟩:=hs;refine⟨?_,by rw[List.length_set];exact s1,λj hj=>?_⟩
  ·show vb p ((bf p:Nat):Int) (K+1) ((x:Int),s)=_
   rw[vb];simp only[dt (show(x:Int)<((bf p:Nat):Int) by omega),ctQ,zE6 hi,bsQ];rw[zB ab,bsQ,yV ab,zwm,zO6 h0,bsQ,zB ab,bsQ];simp only[dB];rw[bz ab,bsQ];rfl
  ·by_cases hjx:j=x
   ·subst hjx
    rw[List.getElem?_set_self ab]
   ·rw[List.getElem?_set_ne (Ne.symm hjx)]
    exact s2 j ab
 ·rw[hr,vb]
  simp only[jR,cf]
def zzi(a b:zV):(JA a b).bind (λx=>bc (decide (x>=0)))=bc (!(zK3 a b)):=by
 have hc:∀x y:Int,kU x y=bc (if x<y then -1 else if x>y then 1 else 0):=λx y=>by
  unfold kU Jz;simp only[bsQ,decide_true,bW,cf];by_cases h:x<y
  ·rw[dt h,aP h];rfl
  ·rw[df h,aO h]
   by_cases h2:x>y
   ·rw[dt h2,aP h2];rfl
   ·rw[df h2,aO h2];rfl
 have ho:∀x y:Int,zbj [x,y]=bc (if x=0 then y else x):=λx y=>by
  unfold zbj
  have e:KK=(KK-3)+3:=by have:=vJ (n:=10) ab;omega
  rw[e,qz];simp only[show decide ((0:Int)<((bf [x,y]:Nat):Int))=bg from rfl,ctQ,show idx [x,y] 0=bc x from rfl,bsQ];by_cases h:x=0
  ·rw[dt h,aP h]
   simp only[bW,cf];rw[show w64 (0+1)=1 from rfl,qz];simp only[show decide ((1:Int)<((bf [x,y]:Nat):Int))=bg from rfl,ctQ,show idx [x,y] 1=bc y from rfl,bsQ];by_cases h2:y=0
   ·rw[dt h2,h2]
    simp only[bW,cf];rw[show w64 (1+1)=2 from rfl,qz];rfl
   ·rw[df h2];rfl
  ·rw[df h,aO h];rfl
 unfold JA;simp only[hc,ho,bsQ];unfold zK3;refine aQ bc ?_;by_cases h1:a.X<b.X
 ·simp[h1]
 ·by_cases h2:a.X>b.X
  ·have:¬a.X=b.X:=ab
   simp[h1,h2,this]
  ·have:a.X=b.X:=ab
   by_cases h3:a.Y<b.Y
   ·simp[this,h3]
   ·by_cases h4:a.Y>b.Y
    ·simp[this,h3,h4]
    ·simp[this,h3,h4]
def zK4{p:Prop}(h:¬p):pd p=bd:=(Az (b:=bd) ⟨λh=>(by cases h),λh2=>aU h2 h⟩).symm
def ztk(n:Nat)(g:Nat->Bool)(L:Nat->Int->Option (Bool⊕Unit))(a:Nat)(hn:n<4611686018427387904)(hL:∀K (i:Nat),a<=i->i<n->L (K+1) (i:Int)=bif g i then L K ((i+1:Nat):Int)else bc (bp bd))(hE:∀K (i:Nat),n<=i->L (K+1) (i:Int)=bc (br ())):
  L KK (a:Int)=bc (bif pd (∀k,a<=k->k<n->g k=bg)then br ()else bp bd):=by
 rw[zO5 n a g _ _ L hL hE n a KK aq ab (vJ ab)];cases pd (∀k,a<=k->k<n->g k=bg)<;>rfl
def Yh{o:Option (Bool⊕Unit)}{g r:Prop}{f:Unit->Option Bool}(h:o=bc (bif pd g then br ()else bp bd))(hr:g->f ()=bc (pd r)):o.bind (xT bc f)=bc (pd (g/\r)):=by
 rw[AA]
 exact JY h λhg=>hr (jE.1 hg)
def ze2{p:List zV}:vc p=bc (pd (Hs p)):=by
 unfold vc zdk;by_cases hh:4<=p.length/\p.length<=60
 ·obtain⟨h4,h60⟩:=hh
  obtain⟨l,e1,e2,e3⟩:=zE7 (p:=p) ab h60
  have hl:∀j<p.length,idx l (j:Int)=bc (zp9 p j):=λj hj=>z7 (e3 j hj)
  rw[df (show ¬((bf p:Nat):Int)<4 by omega),df (show ¬((bf p:Nat):Int)>60 by omega),cf,bsQ,cf,e1,bsQ,zet];have hp:pd (Hs p)=pd ((∀i,0<=i->i<p.length->(zzh p i&&z1q p i)=bg)/\(∀i,0<=i->i<p.length->pd (∀k,i+2<=k->k<p.length->zVn p i k=bg)=bg)/\¬(ptA p 0).X=(ptA p 1).X):=JW ⟨λh=>h.2,λh=>⟨⟨h4,h60⟩,h⟩⟩;rw[hp,e2]
  refine Yh ?_ λ_=>Yh ?_ λ_=>?_
  ·refine ztk p.length (λi=>zzh p i&&z1q p i) (kA p l (bf p:Nat)) 0 ab (λK i _ hi=>?_) (λK i hi=>?_)
   ·rw[kA]
    simp only[dt (show(i:Int)<((bf p:Nat):Int) by omega),ctQ,hl i hi,bsQ,e2];rw[zB ab,bsQ,yV ab,zwm,hl _ (fD _ ab)];rw[show zp9 p ((i+1) % p.length)=zp9 p (i+1) by unfold zp9;rw[zZd,zTf],bsQ];have h0:idx p 0=bc (ptA p 0):=zE6 (p:=p) (i:=0) ab;refine zTe (zE5 (ptA p i) (ptA p (i+1)) (ptA p (i+2))) ?_;unfold zzh z1q;cases zzg (ptA p i) (ptA p (i+1)) (ptA p (i+2))
    ·rfl
    simp only[bW,cf,cr];by_cases hi0:0<i
    ·rw[dt (show(i:Int)>0 by omega),dt hi0,ctQ,h0,zE6 hi]
     simp only[bsQ,zzi,bW,fH];cases zK3 (ptA p 0) (ptA p i)<;>rfl
    ·rw[df (show ¬(i:Int)>0 by omega),df hi0];rfl
   ·rw[kA,df ab];rfl
  ·refine ztk p.length (λi=>pd (∀k,i+2<=k->k<p.length->zVn p i k=bg)) (kC l (bf p:Nat)) 0 ab (λK i _ hi=>?_) (λK i hi=>?_)
   ·rw[kC,dt (show(i:Int)<((bf p:Nat):Int) by omega),ctQ,xY ab ab,show((i:Int)+2)=((i+2:Nat):Int) by omega]
    rw[ztk p.length (λk=>zVn p i k) (kB l (i:Int) (bf p:Nat)) (i+2) ab (λK k hlo hk=>?_) (λK k hk=>?_),yV ab]
    ·cases pd (∀k,i+2<=k->k<p.length->zVn p i k=bg)<;>rfl
    ·rw[kB,e2,dt (show(k:Int)<((bf p:Nat):Int) by omega),ctQ,xY (n:=(i:Int)+_) ab ab,xY ab ab,hl i hi,hl k hk]
     have hm:decide ((i:Int)+((bf p:Nat):Int)-(k:Int)>1)=!(decide ((k+1) % p.length=i)):=by
      by_cases hk1:k+1=p.length
      ·rw[hk1,Nat.mod_self]
       by_cases hi0:0=i
       ·rw[dt hi0,df ab];rfl
       ·rw[df hi0,dt ab];rfl
      ·rw[eN ab]
       rw[df (show ¬k+1=i by omega),dt ab];rfl
     rw[hm];unfold zVn;cases decide ((k+1) % p.length=i)
     ·simp only[cK,ctQ,bsQ,fH]
      show(aN (bif (decide (max (min (ptA p i).X (ptA p (i+1)).X) (min (ptA p k).X (ptA p (k+1)).X)<=min (max (ptA p i).X (ptA p (i+1)).X) (max (ptA p k).X (ptA p (k+1)).X)))then bc (decide (max (min (ptA p i).Y (ptA p (i+1)).Y) (min (ptA p k).Y (ptA p (k+1)).Y)<=min (max (ptA p i).Y (ptA p (i+1)).Y) (max (ptA p k).Y (ptA p (k+1)).Y)))else bc bd) λx4=>bc x4).bind _=_
      rw[ztd,bsQ,bsQ,yV ab];unfold zZc;cases (decide (max (min (ptA p i).X (ptA p (i+1)).X) (min (ptA p k).X (ptA p (k+1)).X)<=min (max (ptA p i).X (ptA p (i+1)).X) (max (ptA p k).X (ptA p (k+1)).X))&&decide (max (min (ptA p i).Y (ptA p (i+1)).Y) (min (ptA p k).Y (ptA p (k+1)).Y)<=min (max (ptA p i).Y (ptA p (i+1)).Y) (max (ptA p k).Y (ptA p (k+1)).Y)))<;>rfl
     ·rw[yV ab];rfl
    ·rw[kB,e2,df ab];rfl
   ·rw[kC,df ab];rfl
  ·have:=hl 0 ab
   rw[show((0:Nat):Int)=0 from rfl]at this;rw[this,bsQ,xG,bsQ];exact aQ bc (Az (by simp[zp9]))
 ·rw[zK4 (λh=>hh h.1)]
  by_cases h4:p.length<4
  ·rw[dt (show((bf p:Nat):Int)<4 by omega)];rfl
  ·rw[df (show ¬((bf p:Nat):Int)<4 by omega),dt (show((bf p:Nat):Int)>60 by omega)];rfl
def AD(u:Bool):List ak->List ak->Bool
 |_,[]=>bg
 |seen,s::r=>zN s&&(!(u&&decide (s∈seen))&&AD u (seen++[s]) r)
def zam:∀(l seen:List ak),AD bd seen l=l.all zN
 |[],_=>rfl
 |s::r,seen=>by rw[AD,zam r,cO,fc,cK,cr]
def Zx:∀(l seen:List ak),AD bg seen l=bg->l.all zN=bg
 |[],_,_=>rfl
 |s::r,seen,h=>by
  simp only[AD,bn]at h;rw[cO,h.1,Zx r _ h.2.2];rfl
def KM(m:List (ak×Bool))(L:List ak):Prop:=∀x,(xn x m).getD bd=decide (x∈L)
def zqa{α β:Type}[DecidableEq α](a x:α)(b:β):∀l:List (α×β),xn x (oB a b l)=if x=a then bc b else xn x l
 |[]=>by simp[oB,xn]
 |(k,c)::r=>by
  have ih:=zqa a x b r;simp only[oB];by_cases h:a=k
  ·rw[aP h]
   subst h;by_cases h2:x=a
   ·simp[xn,h2]
   ·simp[xn,h2]
  ·rw[aO h]
   simp only[xn,ih];by_cases h2:x=k
   ·subst h2
    simp[Ne.symm h]
   ·simp[h2]
def KM.add{m:List (ak×Bool)}{L:List ak}(h:KM m L)(s:ak):KM (oB s bg m) (L++[s]):=λx=>by
 rw[zqa];by_cases hx:x=s
 ·rw[aP hx];simp[hx]
 ·rw[aO hx,h x]
  exact yE (by simp[hx])
def zE8(u:Bool)(l:List ak)(hs:l.length<4611686018427387904)(hn:∀s∈l,s.length<4611686018427387904):
  ∀(r:List ak)(i K:Nat)(m:List (ak×Bool))(seen:List ak),l.drop i=r->i<=l.length->r.length<K->KM m seen ->
   oN u l (l.length:Nat) K ((i:Int),m)=bc (bif AD u seen r then .inr ()else .inl bd)
 |[],i,K,m,seen,hr,hi,hK,hm=>by
  obtain⟨K,rfl⟩:∃k,K=k+1:=⟨K-1,by simp at hK;omega⟩
  have:=drop_nil hr hi;subst this;rw[oN,jR];rfl
 |x::r,i,K,m,seen,hr,hi,hK,hm=>by
  obtain⟨K,rfl⟩:∃k,K=k+1:=⟨K-1,by simp at hK;omega⟩
  obtain⟨h1,h2,h3⟩:=xA hr;simp only[lc]at hK;rw[oN,uC h1,ctQ,AD];simp only[z7 h1,bsQ,xj (hn x (bL h1)),hm x]
  cases zN x with
  |false=>rfl
  |true =>
   simp only[bW,cf,cr]
   cases hu:(u&&decide (x∈seen))with
   |true =>
    simp only[bn]at hu;rw[hu.1,hu.2];rfl
   |false =>
    have:(bif u then bc (decide (x∈seen))else bc bd)=bc bd:=by
     cases u
     ·rfl
     ·simpa using hu
    rw[this];simp only[bsQ,cf,cK,cr];rw[yV ab];exact zE8 u l hs hn r (i+1) K _ _ h2 ab ab (hm.add x)
def zlp{u:Bool}{l:List ak}(hs:l.length<4611686018427387904)(hn:∀s∈l,s.length<4611686018427387904):qC l u=bc (AD u [] l):=by
 unfold qC;rw[show(0:Int)=((0:Nat):Int) from rfl,zE8 u l hs hn l 0 KK [] [] rfl (cj _) (vJ ab) (λx=>by simp[xn])];cases AD u [] l<;>rfl
def zis{α β:Type}(g:α->β):∀(l:List α)(s:List β),l.foldl (λs x=>s++[g x]) s=s++l.map g
 |[],s=>af
 |x::l,s=>by rw[dv,zis g l];simp
def zzj{α τ:Type}(l:List α)(g:α->ak)(L:Nat->(Int×List ak)->τ)(fin:List ak->τ)(hs:l.length<=1000)
  (hL:∀K (i:Nat) x s,l[i]?=bc x->bf s<=1000->L (K+1) ((i:Int),s)=L K (((i+1:Nat):Int),s++[g x])) (hE:∀K s,L (K+1) ((l.length:Int),s)=fin s):L KK (0,[])=fin (l.map g):=by
 have:=(Yg l (λs x=>s++[g x]) fin (λi s=>s.length=i/\i<=l.length) (λK q s=>L K (q,s)) [] ab ⟨rfl,cj _⟩ (λK i x s h hi=>⟨hL K i x s h ab,by have:=qN h;simp;omega⟩) (λK s _=>hE K s)).1;rw[zis]at this;simpa using this
def qO{α:Type}[Inhabited α](l:List α)(g:α->ak)(m:Nat)(L:Nat->(Int×List ak)->Option (List ak))(B:α->Option ak)(hs:l.length<=1000)(hn:∀x∈l,(g x).length<4611686018427387904)
  (hL:∀K q,L (K+1) q=(bif (decide (q.1<((bf l:Nat):Int)))then(idx l q.1).bind λx1=>aN (B x1) λx2=>aN (grd (bf (q.2++([x2]:List ak))*16<=140737488355328)) λ_=>L K ((w64 (q.1+1)),(q.2++([x2]:List ak)))else bc q.2))
  (hB:∀x,B x=bc (g x)):(L KK (0,[])).bind (λx1=>(bif (decide (((bf l:Nat):Int)<=(m:Int)))then(qC x1 bg).bind λx2=>bc x2 else bc bd))=bc (decide (l.length<=m)&&AD bg [] (l.map g)):=by
 rw[zzj l g L bc hs (λK i x s h h2=>?_) (λK s=>by rw[hL];simp only[jR,cf]),bsQ,zlp (by simp;omega) (λs h=>?_),zik _ m rfl]
 ·cases decide (l.length<=m)<;>rfl
 ·obtain⟨x,h1,rfl⟩:=bu.1 h
  exact hn x h1
 ·have:=qN h
  rw[hL];simp only[uC h,ctQ,z7 h,bsQ,hB];rw[zB (by rw[laQ,eF];omega),bsQ,yV ab]
-- expressions
def qP(op:Int):Int:=if op<=3 then 0 else if op=9∨op=15 then 1 else if op=16 then 3 else 2
def wA(e:Expr):Bool:=decide (0<=e.Op/\e.Op<17/\((e.Args.length:Nat):Int)=qP e.Op)&&(decide (if e.Op=0 then 0<=e.N/\e.N<=1099511627776 else e.N=0) &&
 ((if e.Op=1∨e.Op=2∨e.Op=3 then zN e.S else decide (e.S=[]))&&(if e.Op=2 then zN e.Key else decide (e.Key=[]))))
def okE:Nat->Expr->Bool
 |0,_=>bd
 |d+1,e=>wA e&&e.Args.all (okE d)
def zK5{n:Int}(h0:0<=n)(h1:n<17):n=0∨n=1∨n=2∨n=3∨n=9∨n=15∨n=16∨(¬n=0/\¬n=1/\¬n=2/\¬n=3/\¬n=9/\¬n=15/\¬n=16/\¬n<=3):=ab
def K6{n:Int}:decide ((min (max n 0) 1099511627776)=n)=decide (0<=n/\n<=1099511627776):=yE ab
def A8{s:ak}:decide ([]=s)=decide (s=[]):=yE ⟨Eq.symm,Eq.symm⟩
def qg{n:Int}:decide (0=n)=decide (n=0):=yE ⟨Eq.symm,Eq.symm⟩
def zZe{n:Int}{s k:ak}{az:List Expr} :wA ⟨0,n,s,k,az⟩=(decide (((az.length:Nat):Int)=0)&&(decide (0<=n/\n<=1099511627776)&&(decide (s=[])&&decide (k=[])))):=by
 simp[wA,qP]
def r_0{RK:Nat}{d n:Int}{s k:ak}{az:List Expr}{r:Bool}(hd:¬d=0)(hS:s.length<4611686018427387904)(hK:k.length<4611686018427387904)(h:wA ⟨0,n,s,k,az⟩=bg->xR (yx RK) d az ((bf az:Nat):Int) KK 0=bc (bif r then br ()else bp bd)):yx (RK+1) ⟨0,n,s,k,az⟩ d=bc (wA ⟨0,n,s,k,az⟩&&r):=by
 rw[zZe ]at h ⊢;rw[yx];simp only[df hd,K6,A8,qg,xj hS,xj hK,bW,cK,cf,ctQ,bsQ,xT,Int.reduceEq,Int.reduceLT,Int.reduceGE,Int.reduceLE,decide_true,decide_false,ge_iff_le]
 cases ha:decide (((az.length:Nat):Int)=0)<;>cases hb:decide (0<=n/\n<=1099511627776)<;>cases hc:decide (s=[])<;>cases he:decide (k=[])<;>(first|rfl|(rw[ha,hb,hc,he]at h;rw[h rfl];cases r<;>rfl))
def zZf{n:Int}{s k:ak}{az:List Expr} :wA ⟨1,n,s,k,az⟩=(decide (((az.length:Nat):Int)=0)&&(decide (n=0)&&(zN s&&decide (k=[])))):=by
 simp[wA,qP]
def r_1{RK:Nat}{d n:Int}{s k:ak}{az:List Expr}{r:Bool}(hd:¬d=0)(hS:s.length<4611686018427387904)(hK:k.length<4611686018427387904)(h:wA ⟨1,n,s,k,az⟩=bg->xR (yx RK) d az ((bf az:Nat):Int) KK 0=bc (bif r then br ()else bp bd)):yx (RK+1) ⟨1,n,s,k,az⟩ d=bc (wA ⟨1,n,s,k,az⟩&&r):=by
 rw[zZf ]at h ⊢;rw[yx];simp only[df hd,K6,A8,qg,xj hS,xj hK,bW,cK,cf,ctQ,bsQ,xT,Int.reduceEq,Int.reduceLT,Int.reduceGE,Int.reduceLE,decide_true,decide_false,ge_iff_le]
 cases ha:decide (((az.length:Nat):Int)=0)<;>cases hb:decide (n=0)<;>cases hc:zN s<;>cases he:decide (k=[])<;>(first|rfl|(rw[ha,hb,hc,he]at h;rw[h rfl];cases r<;>rfl))
def zZg{n:Int}{s k:ak}{az:List Expr} :wA ⟨2,n,s,k,az⟩=(decide (((az.length:Nat):Int)=0)&&(decide (n=0)&&(zN s&&zN k))):=by
 simp[wA,qP]
def r_2{RK:Nat}{d n:Int}{s k:ak}{az:List Expr}{r:Bool}(hd:¬d=0)(hS:s.length<4611686018427387904)(hK:k.length<4611686018427387904)(h:wA ⟨2,n,s,k,az⟩=bg->xR (yx RK) d az ((bf az:Nat):Int) KK 0=bc (bif r then br ()else bp bd)):yx (RK+1) ⟨2,n,s,k,az⟩ d=bc (wA ⟨2,n,s,k,az⟩&&r):=by
 rw[zZg ]at h ⊢;rw[yx];simp only[df hd,K6,A8,qg,xj hS,xj hK,bW,cK,cf,ctQ,bsQ,xT,Int.reduceEq,Int.reduceLT,Int.reduceGE,Int.reduceLE,decide_true,decide_false,ge_iff_le]
 cases he:zN k with
 |false=>simp only[eL,fc];rfl
 |true =>
  simp only[bW,cf,bsQ,xT,qg,decide_true]
  cases ha:decide (((az.length:Nat):Int)=0)<;>cases hb:decide (n=0)<;>cases hc:zN s<;>(first|rfl|(rw[ha,hb,hc,he]at h;rw[h rfl];cases r<;>rfl))
def zZh{n:Int}{s k:ak}{az:List Expr} :wA ⟨3,n,s,k,az⟩=(decide (((az.length:Nat):Int)=0)&&(decide (n=0)&&(zN s&&decide (k=[])))):=by
 simp[wA,qP]
def r_3{RK:Nat}{d n:Int}{s k:ak}{az:List Expr}{r:Bool}(hd:¬d=0)(hS:s.length<4611686018427387904)(hK:k.length<4611686018427387904)(h:wA ⟨3,n,s,k,az⟩=bg->xR (yx RK) d az ((bf az:Nat):Int) KK 0=bc (bif r then br ()else bp bd)):yx (RK+1) ⟨3,n,s,k,az⟩ d=bc (wA ⟨3,n,s,k,az⟩&&r):=by
 rw[zZh ]at h ⊢;rw[yx];simp only[df hd,K6,A8,qg,xj hS,xj hK,bW,cK,cf,ctQ,bsQ,xT,Int.reduceEq,Int.reduceLT,Int.reduceGE,Int.reduceLE,decide_true,decide_false,ge_iff_le]
 cases ha:decide (((az.length:Nat):Int)=0)<;>cases hb:decide (n=0)<;>cases hc:zN s<;>cases he:decide (k=[])<;>(first|rfl|(rw[ha,hb,hc,he]at h;rw[h rfl];cases r<;>rfl))
def zZi{n:Int}{s k:ak}{az:List Expr} :wA ⟨9,n,s,k,az⟩=(decide (((az.length:Nat):Int)=1)&&(decide (n=0)&&(decide (s=[])&&decide (k=[])))):=by
 simp[wA,qP]
def r_9{RK:Nat}{d n:Int}{s k:ak}{az:List Expr}{r:Bool}(hd:¬d=0)(hS:s.length<4611686018427387904)(hK:k.length<4611686018427387904)(h:wA ⟨9,n,s,k,az⟩=bg->xR (yx RK) d az ((bf az:Nat):Int) KK 0=bc (bif r then br ()else bp bd)):yx (RK+1) ⟨9,n,s,k,az⟩ d=bc (wA ⟨9,n,s,k,az⟩&&r):=by
 rw[zZi ]at h ⊢;rw[yx];simp only[df hd,K6,A8,qg,xj hS,xj hK,bW,cK,cf,ctQ,bsQ,xT,Int.reduceEq,Int.reduceLT,Int.reduceGE,Int.reduceLE,decide_true,decide_false,ge_iff_le]
 cases ha:decide (((az.length:Nat):Int)=1)<;>cases hb:decide (n=0)<;>cases hc:decide (s=[])<;>cases he:decide (k=[])<;>(first|rfl|(rw[ha,hb,hc,he]at h;rw[h rfl];cases r<;>rfl))
def zTg{n:Int}{s k:ak}{az:List Expr} :wA ⟨15,n,s,k,az⟩=(decide (((az.length:Nat):Int)=1)&&(decide (n=0)&&(decide (s=[])&&decide (k=[])))):=by
 simp[wA,qP]
def r_15{RK:Nat}{d n:Int}{s k:ak}{az:List Expr}{r:Bool}(hd:¬d=0)(hS:s.length<4611686018427387904)(hK:k.length<4611686018427387904)(h:wA ⟨15,n,s,k,az⟩=bg->xR (yx RK) d az ((bf az:Nat):Int) KK 0=bc (bif r then br ()else bp bd)):yx (RK+1) ⟨15,n,s,k,az⟩ d=bc (wA ⟨15,n,s,k,az⟩&&r):=by
 rw[zTg ]at h ⊢;rw[yx];simp only[df hd,K6,A8,qg,xj hS,xj hK,bW,cK,cf,ctQ,bsQ,xT,Int.reduceEq,Int.reduceLT,Int.reduceGE,Int.reduceLE,decide_true,decide_false,ge_iff_le]
 cases ha:decide (((az.length:Nat):Int)=1)<;>cases hb:decide (n=0)<;>cases hc:decide (s=[])<;>cases he:decide (k=[])<;>(first|rfl|(rw[ha,hb,hc,he]at h;rw[h rfl];cases r<;>rfl))
def zTh{n:Int}{s k:ak}{az:List Expr} :wA ⟨16,n,s,k,az⟩=(decide (((az.length:Nat):Int)=3)&&(decide (n=0)&&(decide (s=[])&&decide (k=[])))):=by
 simp[wA,qP]
def r_16{RK:Nat}{d n:Int}{s k:ak}{az:List Expr}{r:Bool}(hd:¬d=0)(hS:s.length<4611686018427387904)(hK:k.length<4611686018427387904)(h:wA ⟨16,n,s,k,az⟩=bg->xR (yx RK) d az ((bf az:Nat):Int) KK 0=bc (bif r then br ()else bp bd)):yx (RK+1) ⟨16,n,s,k,az⟩ d=bc (wA ⟨16,n,s,k,az⟩&&r):=by
 rw[zTh ]at h ⊢;rw[yx];simp only[df hd,K6,A8,qg,xj hS,xj hK,bW,cK,cf,ctQ,bsQ,xT,Int.reduceEq,Int.reduceLT,Int.reduceGE,Int.reduceLE,decide_true,decide_false,ge_iff_le]
 cases ha:decide (((az.length:Nat):Int)=3)<;>cases hb:decide (n=0)<;>cases hc:decide (s=[])<;>cases he:decide (k=[])<;>(first|rfl|(rw[ha,hb,hc,he]at h;rw[h rfl];cases r<;>rfl))
def zZj{op n:Int}{s k:ak}{az:List Expr}(hlo:0<=op)(hhi:op<17)(h0:¬op=0)(h1:¬op=1)(h2:¬op=2)(h3:¬op=3)(h9:¬op=9)(h15:¬op=15)(h16:¬op=16)(h3l:¬op<=3):wA ⟨op,n,s,k,az⟩=(decide (((az.length:Nat):Int)=2)&&(decide (n=0)&&(decide (s=[])&&decide (k=[])))):=by
 simp[wA,qP,h0,h1,h2,h3,h9,h15,h16,h3l,hlo,hhi]
def r_b{RK:Nat}{op d n:Int}{s k:ak}{az:List Expr}{r:Bool}(hlo:0<=op)(hhi:op<17)(h0:¬op=0)(h1:¬op=1)(h2:¬op=2)(h3:¬op=3)(h9:¬op=9)(h15:¬op=15)(h16:¬op=16)(h3l:¬op<=3)(hd:¬d=0)(hS:s.length<4611686018427387904)(hK:k.length<4611686018427387904)(h:wA ⟨op,n,s,k,az⟩=bg->xR (yx RK) d az ((bf az:Nat):Int) KK 0=bc (bif r then br ()else bp bd)):yx (RK+1) ⟨op,n,s,k,az⟩ d=bc (wA ⟨op,n,s,k,az⟩&&r):=by
 rw[zZj hlo hhi h0 h1 h2 h3 h9 h15 h16 h3l]at h ⊢;rw[yx];simp only[df h0,df h1,df h2,df h3,df h9,df h15,df h16,df h3l,df (Int.not_lt.2 hlo),df (Int.not_le.2 hhi),df hd,K6,A8,qg,xj hS,xj hK,bW,cK,cf,ctQ,bsQ,xT,Int.reduceEq,Int.reduceLT,Int.reduceGE,Int.reduceLE,decide_true,decide_false,ge_iff_le]
 cases ha:decide (((az.length:Nat):Int)=2)<;>cases hb:decide (n=0)<;>cases hc:decide (s=[])<;>cases he:decide (k=[])<;>(first|rfl|(rw[ha,hb,hc,he]at h;rw[h rfl];cases r<;>rfl))
def zZk{RK:Nat}{d:Int}{e:Expr}{r:Bool}(hd:¬d=0)(hS:e.S.length<4611686018427387904)(hK:e.Key.length<4611686018427387904)(h:wA e=bg->xR (yx RK) d e.Args ((bf e.Args:Nat):Int) KK 0=bc (bif r then br ()else bp bd)):yx (RK+1) e d=bc (wA e&&r):=by
 obtain⟨op,n,s,k,az⟩:=e;by_cases hlo:0<=op
 ·by_cases hhi:op<17
  ·obtain rfl|rfl|rfl|rfl|rfl|rfl|rfl|⟨h0,h1,h2,h3,h9,h15,h16,h3l⟩:=zK5 hlo hhi
   ·exact r_0 hd hS hK h
   ·exact r_1 hd hS hK h
   ·exact r_2 hd hS hK h
   ·exact r_3 hd hS hK h
   ·exact r_9 hd hS hK h
   ·exact r_15 hd hS hK h
   ·exact r_16 hd hS hK h
   ·exact r_b hlo hhi h0 h1 h2 h3 h9 h15 h16 h3l hd hS hK h
  ·have:wA ⟨op,n,s,k,az⟩=bd:=by simp[wA,hhi]
   rw[this,yx];simp only[df hd,df (show ¬op<0 by omega),dt (show op>=17 by omega)];rfl
 ·have:wA ⟨op,n,s,k,az⟩=bd:=by simp[wA,hlo]
  rw[this,yx];simp only[df hd,dt (show op<0 by omega)];rfl
def zTi{e:Expr}(h:AB e=bg):e.S.length<=30/\e.Key.length<=30:=by
 obtain⟨op,n,s,k,az⟩:=e;rw[AB]at h;simp only[bn,aW]at h;exact h.2
def zzk{e x:Expr}(h:AB e=bg)(hx:x∈e.Args):AB x=bg:=by
 obtain⟨op,n,s,k,az⟩:=e;rw[AB,Zw]at h;simp only[bn]at h;exact bj.1 h.1 x hx
def zK6{e:Expr}{n:Nat}(h:jF e<=n):e.Args.length<n:=by
 obtain⟨op,m,s,k,az⟩:=e;rw[jF]at h;have:=QK az
 show az.length<n
 omega
def zK7{e x:Expr}{n:Nat}(h:jF e<=n)(hx:x∈e.Args):jF x<=n:=by
 obtain⟨op,m,s,k,az⟩:=e;rw[jF]at h;have:=zb0 (show x∈az from hx);omega
def zK8:∀(d:Nat)(e:Expr)(K:Nat),d<K->d<=1000->jF e<=5000->AB e=bg->yx K e (d:Int)=bc (okE d e):=by
 intro d
 induction d with
 |zero =>
  intro e K hK _ _ _
  obtain⟨K,rfl⟩:∃k,K=k+1:=⟨K-1,ab⟩
  rw[yx];rfl
 |succ d ih =>
  intro e K hK hd hn hs
  obtain⟨K,rfl⟩:∃k,K=k+1:=⟨K-1,ab⟩
  have h1:=zTi hs;have hz:=zK6 hn;rw[okE]
  refine zZk ab ab ab λ_=>?_
  refine qf e.Args (okE d) _ (λq=>aN (idx e.Args q) λx1=>aN (yx K (Expr.mk x1.Op x1.N x1.S x1.Key x1.Args) (w64 (((d+1:Nat):Int)-1))) λx2=>bc (!x2)) ab (λK q=>?_) λi x hx=>?_
  ·rw[xR]
   simp only[cy,bsQ]
  ·have hx':=bL hx
   rw[z7 hx,bsQ,xg,xY ab ab,show(((d+1:Nat):Int)-1)=(d:Int) by omega,ih x K ab ab (zK7 hn hx') (zzk hs hx')];rfl
def zK9{e:Expr}(h:zz6 e=bg):jF e<=200/\AB e=bg:=by
 unfold zz6 at h;rw[bn]at h;exact⟨aY h.1,h.2⟩
def Yi{e:Expr}(h:zE4 e=bg):jF e<=5000/\AB e=bg:=by
 unfold zE4 at h;simp only[bn,aW]at h;exact h
def zan{e:Expr}(h:zE4 e=bg):j5 e=bc (okE 12 e):=by
 unfold j5;obtain⟨h1,h2⟩:=Yi h;rw[xg,show(12:Int)=((12:Nat):Int) from rfl,zK8 12 e KK (vJ ab) ab ab h2];rfl
def ze3{a b:Int}{l:List Int}(h:l.length<1000):yg a b l=bc (l.all λn=>decide (a<=n)&&decide (n<=b)):=by
 unfold yg;rw[qf l (λn=>decide (a<=n)&&decide (n<=b)) (Au a b l (bf l:Nat)) (λq=>aN (idx l q) λx1=>(bif (decide (x1<a))then bc bg else bc (decide (x1>b)))) ab (λK q=>?_) λi x hx=>?_]
 ·cases l.all λn=>decide (a<=n)&&decide (n<=b)<;>rfl
 ·rw[Au]
  simp only[cy]
 ·rw[z7 hx,bsQ]
  by_cases h1:a<=x
  ·rw[df (show ¬x<a by omega),dt h1,cf,cr]
   by_cases h2:x<=b
   ·rw[dt h2,df (show ¬x>b by omega)];rfl
   ·rw[df h2,dt (show x>b by omega)];rfl
  ·rw[dt (show x<a by omega),df h1];rfl
def AF{a b x:Int}:yg a b [x]=bc (pd (a<=x/\x<=b)):=by
 rw[ze3 af];exact aQ bc (Az af)
def Zy{a b x y:Int}:yg a b [x,y]=bc (pd ((a<=x/\x<=b)/\(a<=y/\y<=b))):=by
 rw[ze3 af];exact aQ bc (Az af)
def zTj{a b x y z:Int}:yg a b [x,y,z]=bc (pd ((a<=x/\x<=b)/\(a<=y/\y<=b)/\(a<=z/\z<=b))):=by
 rw[ze3 af];exact aQ bc (Az af)
def zE9:Expr:=⟨0,0,[],[],[]⟩
def VE(r:zO):Prop :=
 (0<=r.aM/\r.aM<=3)/\(r.aM=0->okE 12 r.Test=bg)/\(¬r.aM=0->r.Test=zE9) /\
 (r.aM=1->(0<=r.zy.Side/\r.zy.Side<=3)/\(0<=r.zy.Base/\r.zy.Base<=4096)/\(0<=r.zy.Num/\r.zy.Num<=4096)/\(1<=r.zy.Den/\r.zy.Den<=4096))/\(¬r.aM=1->r.zy=⟨0,0,0,0⟩) /\
 (r.aM=2->1<=r.Uses/\r.Uses<=63)/\(r.aM=3->(0<=r.Uses/\r.Uses<=5)/\(0<=r.Other/\r.Other<=5)/\(0<=r.N/\r.N<=1048576)) /\
 (¬r.aM=2->¬r.aM=3->r.Uses=0)/\(¬r.aM=3->r.Other=0/\r.N=0)
def zZl(r:zO):Prop:=(0<=r.From/\r.From<=1073741824)/\(0<=r.Grace/\r.Grace<=1073741824)/\(0<=r.Until/\r.Until<=1073741824)/\(r.Until=0∨r.From<r.Until)
def Yj(r:zO):Prop:=((r.aB.all zN=bg/\r.Except.all zN=bg)/\zZl r)/\VE r
def zqb{l:List ak}(h:zO3 l=bg):l.length<=10/\∀s∈l,s.length<=30:=by
 unfold zO3 at h;simp only[bn,aW,bj]at h;exact⟨h.2,h.1⟩
def zLa{r:zO}(h:zO4 r=bg):r.aL.length<=30/\(r.aB.length<=10/\∀s∈r.aB,s.length<=30)/\(r.Except.length<=10/\∀s∈r.Except,s.length<=30)/\zz6 r.Test=bg:=by
 unfold zO4 at h;simp only[bn,aW]at h;exact⟨h.1,zqb h.2.1,zqb h.2.2.1,h.2.2.2⟩
def zqc{l:List ak}(h:zVm l=bg):l.length<=3000/\∀s∈l,s.length<=30:=by
 unfold zVm at h;simp only[bn,aW,bj]at h;exact⟨h.2,h.1⟩
def Yk{r:zO}(h:zHo r=bg):r.aL.length<=30/\(r.aB.length<=3000/\∀s∈r.aB,s.length<=30)/\(r.Except.length<=3000/\∀s∈r.Except,s.length<=30)/\zE4 r.Test=bg:=by
 unfold zHo at h;simp only[bn,aW]at h;exact⟨h.1,zqc h.2.1,zqc h.2.2.1,h.2.2.2⟩
def zzl{e:Expr}(h:zE4 e=bg):Q7 e:=by
 have:=(Yi h).1;unfold Q7;omega
def zit{e:Expr}(h:zz6 e=bg):Q7 e:=by
 have:=(zK9 h).1;unfold Q7;omega
def zFa{A B C:Bool}{un fr:Int}:((bif (!A)then bc bg else(bif (!B)then bc bg else(bif (!C)then bc bg else(bif (!(decide (un=0)))then bc (decide (un<=fr))else bc bd)))):Option Bool)=bc (!(A&&(B&&(C&&pd (un=0∨fr<un))))):=by
 have:pd (un=0∨fr<un)=(decide (un=0)||decide (fr<un)):=(Az af).symm;rw[this]
 have lt:decide (un<=fr)=!(decide (fr<un)):=by
  by_cases h:un<=fr
  ·rw[dt h,df ab];rfl
  ·rw[df h,dt ab];rfl
 rw[lt];cases A<;>cases B<;>cases C<;>cases decide (un=0)<;>rfl
def zlq{p:Prop}(h:p):pd p=bg:=jE.2 h
def zFb{r:zO}(h:zHo r=bg):Av r=bc (pd (Yj r)):=by
 obtain⟨_,⟨z1,z2⟩,⟨x1,x2⟩,te⟩:=Yk h;obtain⟨nm,zs,ex,fr,un,gr,va,ki,t,⟨ps,pb,pn,pdn⟩,us,ot,n⟩:=r;simp only at z1 z2 x1 x2 te;have n1:=zlp (u:=bd) (l:=zs) ab (λs hs=>by have:=z2 s hs;omega);have n2:=zlp (u:=bd) (l:=ex) ab (λs hs=>by have:=x2 s hs;omega);rw[zam]at n1 n2
 have sm:∀x,qE ⟨nm,zs,ex,fr,un,gr,va,ki,t,⟨ps,pb,pn,pdn⟩,us,ot,n⟩ x=bc (pd ((⟨nm,zs,ex,fr,un,gr,va,ki,t,⟨ps,pb,pn,pdn⟩,us,ot,n⟩:zO)=x)):=λx=>zp5 (a:=⟨nm,zs,ex,fr,un,gr,va,ki,t,⟨ps,pb,pn,pdn⟩,us,ot,n⟩) (by show zs.length<_;omega) (by show ex.length<_;omega) (zzl te)
 have hp:pd (Yj ⟨nm,zs,ex,fr,un,gr,va,ki,t,⟨ps,pb,pn,pdn⟩,us,ot,n⟩)=((zs.all zN&&(ex.all zN&&(pd ((0<=fr/\fr<=1073741824)/\(0<=gr/\gr<=1073741824)/\(0<=un/\un<=1073741824))&&pd (un=0∨fr<un))))&&pd (VE ⟨nm,zs,ex,fr,un,gr,va,ki,t,⟨ps,pb,pn,pdn⟩,us,ot,n⟩)):=by
  refine(Az ?_).symm;simp only[bn,jE,Yj,zZl];constructor
  ·rintro⟨⟨a,b,⟨c,d,e⟩,f⟩,g⟩;exact⟨⟨⟨a,b⟩,c,d,e,f⟩,g⟩
  ·rintro⟨⟨⟨a,b⟩,c,d,e,f⟩,g⟩;exact⟨⟨a,b,⟨c,d,e⟩,f⟩,g⟩
 rw[hp];unfold Av;simp only[n1,n2,zTj,bsQ];rw[zFa,bsQ];cases hh:(zs.all zN&&(ex.all zN&&(pd ((0<=fr/\fr<=1073741824)/\(0<=gr/\gr<=1073741824)/\(0<=un/\un<=1073741824))&&pd (un=0∨fr<un))))
 ·rfl
 simp only[bW,cf,cr];by_cases k0:ki=0
 ·subst k0
  simp only[decide_true,ctQ,xg,zan te,bsQ]
  have hb:pd (VE ⟨nm,zs,ex,fr,un,gr,va,0,t,⟨ps,pb,pn,pdn⟩,us,ot,n⟩)=(okE 12 t&&pd ((⟨nm,zs,ex,fr,un,gr,va,0,t,⟨ps,pb,pn,pdn⟩,us,ot,n⟩:zO)=⟨nm,zs,ex,fr,un,gr,va,0,t,⟨0,0,0,0⟩,0,0,0⟩)):=by
   refine(Az ?_).symm;simp only[bn,jE,VE,zO.mk.injEq,zy.mk.injEq];simp
  rw[hb,sm];cases okE 12 t<;>rfl
 ·by_cases k1:ki=1
  ·subst k1
   simp only[df k0,decide_true,ctQ,cf,xg,AF,Zy,bsQ]
   have hb:pd (VE ⟨nm,zs,ex,fr,un,gr,va,1,t,⟨ps,pb,pn,pdn⟩,us,ot,n⟩)=(pd (0<=ps/\ps<=3)&&(pd ((0<=pb/\pb<=4096)/\(0<=pn/\pn<=4096))&&(pd (1<=pdn/\pdn<=4096)&&pd ((⟨nm,zs,ex,fr,un,gr,va,1,t,⟨ps,pb,pn,pdn⟩,us,ot,n⟩:zO)=⟨nm,zs,ex,fr,un,gr,va,1,⟨0,0,[],[],[]⟩,⟨ps,pb,pn,pdn⟩,0,0,0⟩)))):=by
    refine(Az ?_).symm;simp only[bn,jE,VE,zO.mk.injEq,zy.mk.injEq,zE9];simp
    grind
   rw[hb];cases pd (0<=ps/\ps<=3)
   ·rfl
   cases pd ((0<=pb/\pb<=4096)/\(0<=pn/\pn<=4096))
   ·rfl
   cases pd (1<=pdn/\pdn<=4096)
   ·rfl
   simp only[ctQ,bsQ,sm,cr]
  ·by_cases k2:ki=2
   ·subst k2
    simp only[df k0,df k1,decide_true,ctQ,cf,xg,AF,Zy,bsQ]
    have hb:pd (VE ⟨nm,zs,ex,fr,un,gr,va,2,t,⟨ps,pb,pn,pdn⟩,us,ot,n⟩)=(pd (1<=us/\us<=63)&&pd ((⟨nm,zs,ex,fr,un,gr,va,2,t,⟨ps,pb,pn,pdn⟩,us,ot,n⟩:zO)=⟨nm,zs,ex,fr,un,gr,va,2,⟨0,0,[],[],[]⟩,⟨0,0,0,0⟩,us,0,0⟩)):=by
     refine(Az ?_).symm;simp only[bn,jE,VE,zO.mk.injEq,zy.mk.injEq,zE9];simp
     grind
    rw[hb];cases pd (1<=us/\us<=63)
    ·rfl
    simp only[ctQ,bsQ,sm,cr]
   ·by_cases k3:ki=3
    ·subst k3
     simp only[df k0,df k1,df k2,decide_true,ctQ,cf,xg,AF,Zy,bsQ]
     have hb:pd (VE ⟨nm,zs,ex,fr,un,gr,va,3,t,⟨ps,pb,pn,pdn⟩,us,ot,n⟩)=(pd ((0<=us/\us<=5)/\(0<=ot/\ot<=5))&&(pd (0<=n/\n<=1048576)&&pd ((⟨nm,zs,ex,fr,un,gr,va,3,t,⟨ps,pb,pn,pdn⟩,us,ot,n⟩:zO)=⟨nm,zs,ex,fr,un,gr,va,3,⟨0,0,[],[],[]⟩,⟨0,0,0,0⟩,us,ot,n⟩))):=by
      refine(Az ?_).symm;simp only[bn,jE,VE,zO.mk.injEq,zy.mk.injEq,zE9];simp
      grind
     rw[hb];cases pd ((0<=us/\us<=5)/\(0<=ot/\ot<=5))
     ·rfl
     cases pd (0<=n/\n<=1048576)
     ·rfl
     simp only[ctQ,bsQ,sm,cr]
    ·simp only[df k0,df k1,df k2,df k3,cf,bsQ]
     have hb:pd (VE ⟨nm,zs,ex,fr,un,gr,va,ki,t,⟨ps,pb,pn,pdn⟩,us,ot,n⟩)=bd:=by
      refine(Az (b:=bd) ⟨λh=>(by cases h),λh=>?_⟩).symm;obtain⟨⟨h1,h2⟩,_⟩:=h;simp only at h1 h2;omega
     rw[hb]
def VF{α:Type}(l:List α)(P:α->Prop)(L:Nat->Int->Option (Bool⊕Unit))(B:Int->Option Bool)(hs:l.length<4611686018427387904)
  (hL:∀K q,L (K+1) q=(bif (decide (q<((bf l:Nat):Int)))then(B q).bind λr=>(bif r then bc (bp bd)else L K (w64 (q+1)))else bc (br ())))
  (hB:∀(i:Nat) x,l[i]?=bc x->B (i:Int)=bc (!(pd (P x)))):L KK 0=bc (bif pd (∀x∈l,P x)then br ()else bp bd):=by
 rw[qf l (λx=>pd (P x)) L B ab hL hB];have:l.all (λx=>pd (P x))=pd (∀x∈l,P x):=Az (by simp only[bj,jE]);rw[this]
def Yl(p:zg):Prop:=(0<=p.X/\p.X<=1048576)/\(0<=p.Y/\p.Y<=1048576)/\(0<=p.Z_/\p.Z_<=4096)
def zz7(p:zg):Prop:=(-4096<=p.X/\p.X<=4096)/\(-4096<=p.Y/\p.Y<=4096)/\(1<=p.Z_/\p.Z_<=4096)
def A9(t:au):Prop:=(t.Rows.length<=60/\AD bg [] (t.Rows.map aw.aL)=bg)/\(-1099511627776<=t.Else/\t.Else<=1099511627776)/\∀x∈t.Rows,-1099511627776<=x.N/\x.N<=1099511627776
def zLb(c:Cap):Prop:=(0<=c.Load/\c.Load<=2)/\(0<=c.Limit/\c.Limit<=1099511627776)/\Hs c.aA
def Zz(v:av):Prop:=(0<=v.Least/\v.Least<=20)/\(1<=((v.Targets.length:Nat):Int)/\((v.Targets.length:Nat):Int)<=20)/\Yl v.Eye/\∀x∈v.Targets,Yl x
def kg{α:Type}(l:List α)(g:α->ak)(m:Nat):Prop:=l.length<=m/\AD bg [] (l.map g)=bg
def zTk(p:yZ):Prop:=(∀d∈p.aF,okE 12 d.Body=bg)/\(∀t∈p.Tables,A9 t)/\(∀z∈p.aB,Hs z.aA)/\(∀r∈p.aE,Yj r)/\(∀c∈p.aJ,zLb c)/\(∀v∈p.aG,Zz v)/\(∀d∈p.aK,zz7 d)
def Q8(p:yZ):Prop :=
 (kg p.aF Def.aL 60/\kg p.Tables au.aL 60/\kg p.aB yt.aL 60/\kg p.aE zO.aL 200/\kg p.aJ Cap.aL 30/\kg p.aG av.aL 60)/\zTk p/\(0<=p.aI/\p.aI<=24)/\p.aK.length<=24
def VG{α:Type}{l:List α}{g:α->ak}{m:Nat}:(decide (l.length<=m)&&AD bg [] (l.map g))=pd (kg l g m):=Az (by simp[kg])
def zTl{l:List Def}(hs:l.length<=1000)(hn:∀x∈l,x.aL.length<4611686018427387904):zbk l 60=bc (pd (kg l Def.aL 60)):=by
 rw[<- VG];unfold zbk
 exact qO l Def.aL 60 (JL l 60 (bf l:Nat)) (λx=>bc x.aL) hs hn (λK q=>rfl) λx=>rfl
def zTm{l:List au}(hs:l.length<=1000)(hn:∀x∈l,x.aL.length<4611686018427387904):Qz l 60=bc (pd (kg l au.aL 60)):=by
 rw[<- VG];unfold Qz
 exact qO l au.aL 60 (u7 l 60 (bf l:Nat)) (λx=>bc x.aL) hs hn (λK q=>rfl) λx=>rfl
def zTn{l:List yt}(hs:l.length<=1000)(hn:∀x∈l,x.aL.length<4611686018427387904):QA l 60=bc (pd (kg l yt.aL 60)):=by
 rw[<- VG];unfold QA
 exact qO l yt.aL 60 (u9 l 60 (bf l:Nat)) (λx=>bc x.aL) hs hn (λK q=>rfl) λx=>rfl
def zTo{l:List zO}(hs:l.length<=1000)(hn:∀x∈l,x.aL.length<4611686018427387904):QB l 200=bc (pd (kg l zO.aL 200)):=by
 rw[<- VG];unfold QB
 exact qO l zO.aL 200 (oa l 200 (bf l:Nat)) (λx=>bc x.aL) hs hn (λK q=>rfl) λx=>rfl
def zTp{l:List Cap}(hs:l.length<=1000)(hn:∀x∈l,x.aL.length<4611686018427387904):QC l 30=bc (pd (kg l Cap.aL 30)):=by
 rw[<- VG];unfold QC
 exact qO l Cap.aL 30 (oc l 30 (bf l:Nat)) (λx=>bc x.aL) hs hn (λK q=>rfl) λx=>rfl
def zTq{l:List av}(hs:l.length<=1000)(hn:∀x∈l,x.aL.length<4611686018427387904):QD l 60=bc (pd (kg l av.aL 60)):=by
 rw[<- VG];unfold QD
 exact qO l av.aL 60 (od l 60 (bf l:Nat)) (λx=>bc x.aL) hs hn (λK q=>rfl) λx=>rfl
def zTr{l:List aw}(hs:l.length<=1000)(hn:∀x∈l,x.aL.length<4611686018427387904):QE l 60=bc (pd (kg l aw.aL 60)):=by
 rw[<- VG];unfold QE
 exact qO l aw.aL 60 (oe l 60 (bf l:Nat)) (λx=>bc x.aL) hs hn (λK q=>rfl) λx=>rfl
structure z1r(p:yZ):Prop where
 d:p.aF.length<=8
 t:p.Tables.length<=8
 z:p.aB.length<=8
 r:p.aE.length<=8
 c:p.aJ.length<=8
 v:p.aG.length<=8
 s:p.aK.length<=64
 ds:∀x∈p.aF,x.aL.length<=30/\zz6 x.Body=bg
 ts:∀x∈p.Tables,x.aL.length<=30/\x.Rows.length<=64/\∀y∈x.Rows,y.aL.length<=30
 zs:∀x∈p.aB,x.aL.length<=30/\x.aA.length<=64
 rs:∀x∈p.aE,zO4 x=bg
 cs:∀x∈p.aJ,x.aL.length<=30/\x.aA.length<=64
 vs:∀x∈p.aG,x.aL.length<=30/\x.Targets.length<=64
structure zZm(p:yZ):Prop where
 d:p.aF.length<=300
 t:p.Tables.length<=300
 z:p.aB.length<=300
 r:p.aE.length<=300
 c:p.aJ.length<=300
 v:p.aG.length<=300
 s:p.aK.length<=64
 ds:∀x∈p.aF,x.aL.length<=30/\zE4 x.Body=bg
 ts:∀x∈p.Tables,x.aL.length<=30/\x.Rows.length<=64/\∀y∈x.Rows,y.aL.length<=30
 zs:∀x∈p.aB,x.aL.length<=30/\x.aA.length<=64
 rs:∀x∈p.aE,zHo x=bg
 cs:∀x∈p.aJ,x.aL.length<=30/\x.aA.length<=64
 vs:∀x∈p.aG,x.aL.length<=30/\x.Targets.length<=64
def z1r.big{p:yZ}(h:z1r p):zZm p:=⟨by have:=h.d;omega,by have:=h.t;omega,by have:=h.z;omega,by have:=h.r;omega,by have:=h.c;omega,by have:=h.v;omega,h.s,λx hx=>⟨(h.ds x hx).1,zwk (h.ds x hx).2⟩,h.ts,h.zs,λx hx=>zK2 (h.rs x hx),h.cs,h.vs⟩
def zTs{p:yZ}(h:zY5 p=bg):z1r p:=by
 unfold zY5 at h;simp only[bn,aW,bj,Bool.and_true,zVl]at h;obtain⟨⟨a1,a2,a3,a4,a5,a6,a7⟩,b1,b2,b3,b4,b5,b6⟩:=h;exact⟨a1,a2,a3,a4,a5,a6,a7,b1,b2,b3,b4,b5,b6⟩
def zZn{p:yZ}(h:z1r p):z1p p:=by
 refine⟨⟨by have:=h.d;omega,λx hx=>zit (h.ds x hx).2⟩,⟨by have:=h.t;omega,λx hx=>by have:=(h.ts x hx).2.1;omega⟩,⟨by have:=h.z;omega,λx hx=>by have:=(h.zs x hx).2;omega⟩,⟨by have:=h.r;omega,λx hx=>?_⟩,⟨by have:=h.c;omega,λx hx=>by have:=(h.cs x hx).2;omega⟩,⟨by have:=h.v;omega,λx hx=>by have:=(h.vs x hx).2;omega⟩,by have:=h.s;omega⟩;obtain⟨_,h2,h3,h4⟩:=zLa (h.rs x hx);exact⟨by have:=h2.1;omega,by have:=h3.1;omega,zit h4⟩
def K7{o:Option Bool}{f:Option Bool}{g r:Prop}(h:o=bc (pd g))(hr:g->f=bc (!(pd r))):(o.bind λx=>bif (!x)then bc bg else f)=bc (!(pd (g/\r))):=by
 rw[AA]
 exact zlo h λhg=>hr (jE.1 hg)
def uc{o:Option Bool}{g:Prop}(h:o=bc (pd g)):(o.bind λx=>bc (!x))=bc (!(pd g)):=by rw[h];rfl
def pdb{b:Bool}:bc b=bc (pd (b=bg)):=aQ bc (Az Iff.rfl)
section code
variable{c0:List Def}{c1:Int}{c2:List au}{c3:List yt}{c4:List zO}{c5:List Cap}{c6:List av}{c7:List zg}{c8:Int}
def Rt_L1(hl:c0.length<=300)(h:∀x∈c0,x.aL.length<=30/\zE4 x.Body=bg):oO c0 (bf c0:Nat) c2 c3 c4 c5 c6 c7 c8 KK 0=bc (bif pd (∀d∈c0,okE 12 d.Body=bg)then .inr ()else .inl bd):=by
 refine VF c0 (λd=>okE 12 d.Body=bg) (oO c0 (bf c0:Nat) c2 c3 c4 c5 c6 c7 c8) (λq=>aN (idx c0 q) λx1=>aN (j5 (Expr.mk x1.Body.Op x1.Body.N x1.Body.S x1.Body.Key x1.Body.Args)) λx2=>bc (!x2)) ab (λK q=>?_) λi x hx=>?_
 ·rw[oO]
  simp only[cy,bsQ]
 ·rw[z7 hx,bsQ,xg]
  exact uc ((zan (h x (bL hx)).2).trans pdb)
def Rt_L2{c0:List au}{c2:List Def}(hl:c0.length<=300)(h:∀x∈c0,x.aL.length<=30/\x.Rows.length<=64/\∀y∈x.Rows,y.aL.length<=30):qF c0 (bf c0:Nat) c2 c3 c4 c5 c6 c7 c8 KK 0=bc (bif pd (∀d∈c0,A9 d)then .inr ()else .inl bd):=by
 have key:=zb1 c0 (λx=>pd (A9 x)) (bc (br ())) (bc (bp bd)) (qF c0 (bf c0:Nat) c2 c3 c4 c5 c6 c7 c8) ab (λK i x hx=>?_) (λK=>by rw[qF,jR];rfl)
 ·have:c0.all (λx=>pd (A9 x))=pd (∀x∈c0,A9 x):=Az (by simp only[bj,jE])
  rw[key,this];cases pd (∀x∈c0,A9 x)<;>rfl
 ·have hi:=qN hx
  obtain⟨_,h2,h3⟩:=h x (bL hx);rw[qF,uC hx,ctQ,z7 hx,bsQ,yV ab];rw[K7 (zTr (l:=x.Rows) ab (λy hy=>by have:=h3 y hy;omega)) (λ_=>uc AF),bsQ]
  have hp:pd (A9 x)=(pd (kg x.Rows aw.aL 60/\-1099511627776<=x.Else/\x.Else<=1099511627776)&&pd (∀y∈x.Rows,-1099511627776<=y.N/\y.N<=1099511627776)):=by
   rw[<- AA];exact JW ⟨λ⟨a,b,c⟩=>⟨⟨a,b⟩,c⟩,λ⟨⟨a,b⟩,c⟩=>⟨a,b,c⟩⟩
  simp only[hp];cases pd (kg x.Rows aw.aL 60/\-1099511627776<=x.Else/\x.Else<=1099511627776)
  ·rfl
  rw[bW,cf,cr];rw[VF x.Rows (λy=>-1099511627776<=y.N/\y.N<=1099511627776) (HN c0 (bf c0:Nat) (i:Int) x.Rows (bf x.Rows:Nat) c2 c3 c4 c5 c6 c7 c8) (λq=>aN (idx x.Rows q) λx1=>aN (yg (-1099511627776) 1099511627776 ([x1.N]:List Int)) λx2=>bc (!x2)) ab (λK q=>?_) λj y hy=>?_]
  ·cases pd (∀y∈x.Rows,-1099511627776<=y.N/\y.N<=1099511627776)<;>rfl
  ·rw[HN]
   simp only[cy,bsQ]
  ·rw[z7 hy,bsQ]
   exact uc AF
def Rt_L4{c0:List yt}{c2:List Def}{c3:List au}(hl:c0.length<=300):oP c0 (bf c0:Nat) c2 c3 c4 c5 c6 c7 c8 KK 0=bc (bif pd (∀d∈c0,Hs d.aA)then .inr ()else .inl bd):=by
 refine VF c0 (λd=>Hs d.aA) (oP c0 (bf c0:Nat) c2 c3 c4 c5 c6 c7 c8) (λq=>aN (idx c0 q) λx1=>aN (vc x1.aA) λx2=>bc (!x2)) ab (λK q=>?_) λi x hx=>?_
 ·rw[oP]
  simp only[cy,bsQ]
 ·rw[z7 hx,bsQ]
  exact uc ze2
def Rt_L5{c0:List zO}{c2:List Def}{c3:List au}{c4:List yt}(hl:c0.length<=300)(h:∀x∈c0,zHo x=bg):oQ c0 (bf c0:Nat) c2 c3 c4 c5 c6 c7 c8 KK 0=bc (bif pd (∀d∈c0,Yj d)then .inr ()else .inl bd):=by
 refine VF c0 Yj (oQ c0 (bf c0:Nat) c2 c3 c4 c5 c6 c7 c8) (λq=>aN (idx c0 q) λx1=>aN (Av (zO.mk x1.aL x1.aB x1.Except x1.From x1.Until x1.Grace x1.Vary x1.aM (Expr.mk x1.Test.Op x1.Test.N x1.Test.S x1.Test.Key x1.Test.Args) x1.zy x1.Uses x1.Other x1.N)) λx2=>bc (!x2)) ab (λK q=>?_) λi x hx=>?_
 ·rw[oQ]
  simp only[cy,bsQ]
 ·rw[z7 hx,bsQ,xg]
  exact uc (zFb (h x (bL hx)))
def Rt_L6{c0:List Cap}{c2:List Def}{c3:List au}{c4:List yt}{c5:List zO}(hl:c0.length<=300):oR c0 (bf c0:Nat) c2 c3 c4 c5 c6 c7 c8 KK 0=bc (bif pd (∀d∈c0,zLb d)then .inr ()else .inl bd):=by
 refine VF c0 zLb (oR c0 (bf c0:Nat) c2 c3 c4 c5 c6 c7 c8) (λq=>aN (idx c0 q) λx1=>(aN (yg 0 2 ([x1.Load]:List Int)) λx3=>(bif (!x3)then bc bg else(yg 0 1099511627776 ([x1.Limit]:List Int)).bind λx4=>(bif (!x4)then bc bg else(vc x1.aA).bind λx5=>bc (!x5))))) ab (λK q=>?_) λi x hx=>?_
 ·rw[oR]
  simp only[cy]
 ·rw[z7 hx,bsQ]
  exact K7 AF λ_=>K7 AF λ_=>uc ze2
def Rt_L7{c0:List av}{c2:List Def}{c3:List au}{c4:List yt}{c5:List zO}{c6:List Cap}(hl:c0.length<=300)(h:∀x∈c0,x.aL.length<=30/\x.Targets.length<=64):qG c0 (bf c0:Nat) c2 c3 c4 c5 c6 c7 c8 KK 0=bc (bif pd (∀d∈c0,Zz d)then .inr ()else .inl bd):=by
 have key:=zb1 c0 (λx=>pd (Zz x)) (bc (br ())) (bc (bp bd)) (qG c0 (bf c0:Nat) c2 c3 c4 c5 c6 c7 c8) ab (λK i x hx=>?_) (λK=>by rw[qG,jR];rfl)
 ·have:c0.all (λx=>pd (Zz x))=pd (∀x∈c0,Zz x):=Az (by simp only[bj,jE])
  rw[key,this];cases pd (∀x∈c0,Zz x)<;>rfl
 ·have hi:=qN hx
  obtain⟨_,h2⟩:=h x (bL hx);rw[qG,uC hx,ctQ,z7 hx,bsQ,yV ab];rw[K7 AF (λ_=>uc AF),bsQ]
  have hp:pd (Zz x)=(pd ((0<=x.Least/\x.Least<=20)/\(1<=((x.Targets.length:Nat):Int)/\((x.Targets.length:Nat):Int)<=20))&&pd (∀y∈([x.Eye]++x.Targets),Yl y)):=by
   rw[<- AA]
   exact JW ⟨λ⟨a,b,c,d⟩=>⟨⟨a,b⟩,λy hy=>by
    rcases bA.1 hy with h1|h1
    ·rw[msQ.1 h1];exact c
    ·exact d y h1⟩,λ⟨⟨a,b⟩,c⟩=>⟨a,b,c _ af,λy hy=>c y (by simp[hy])⟩⟩
  simp only[hp];cases pd ((0<=x.Least/\x.Least<=20)/\(1<=((x.Targets.length:Nat):Int)/\((x.Targets.length:Nat):Int)<=20))
  ·rfl
  have hlen:([x.Eye]++x.Targets).length<=65:=by simp;omega
  rw[bW,cf,cr,zB ab,bsQ];rw[VF ([x.Eye]++x.Targets) Yl (HO c0 (bf c0:Nat) (i:Int) (bf ([x.Eye]++x.Targets):Nat) c2 c3 c4 c5 c6 c7 c8 ([x.Eye]++x.Targets)) (λq=>aN (grd (0<=q/\q<(((bf ([x.Eye]++x.Targets)):Nat):Int))) λ_=>aN ((([x.Eye]++x.Targets))[(bX q)]?) λx2=>(aN (yg 0 1048576 ([x2.X,x2.Y]:List Int)) λx4=>(bif (!x4)then bc bg else(yg 0 4096 ([x2.Z_]:List Int)).bind λx5=>bc (!x5)))) ab (λK q=>?_) λj y hy=>?_]
  ·cases pd (∀y∈([x.Eye]++x.Targets),Yl y)<;>rfl
  ·rw[HO]
   simp only[cy]
  ·have hj:=qN hy
   rw[zB ab,bsQ,dB,hy,bsQ,K7 Zy (λ_=>uc AF)];exact aQ (λb=>bc (!b)) (JW ⟨λ⟨⟨a,b⟩,c⟩=>⟨a,b,c⟩,λ⟨a,b,c⟩=>⟨⟨a,b⟩,c⟩⟩)
def Rt_L9{c0:List zg}{c2:List Def}{c3:List au}{c4:List yt}{c5:List zO}{c6:List Cap}{c7:List av}(hl:c0.length<=64):oS c0 (bf c0:Nat) c2 c3 c4 c5 c6 c7 c8 KK 0=bc (bif pd (∀d∈c0,zz7 d)then .inr ()else .inl bd):=by
 refine VF c0 zz7 (oS c0 (bf c0:Nat) c2 c3 c4 c5 c6 c7 c8) (λq=>aN (idx c0 q) λx1=>(aN (yg (-4096) 4096 ([x1.X,x1.Y]:List Int)) λx3=>(bif (!x3)then bc bg else(yg 1 4096 ([x1.Z_]:List Int)).bind λx4=>bc (!x4)))) ab (λK q=>?_) λi x hx=>?_
 ·rw[oS]
  simp only[cy]
 ·rw[z7 hx,bsQ,K7 Zy (λ_=>uc AF)]
  exact aQ (λb=>bc (!b)) (JW ⟨λ⟨⟨a,b⟩,c⟩=>⟨a,b,c⟩,λ⟨a,b,c⟩=>⟨⟨a,b⟩,c⟩⟩)
end code
def zLc{p:yZ}(h:zZm p):Ze p=bc (pd (Q8 p)):=by
 unfold Ze;have hd:=h.d;have ht:=h.t;have hz:=h.z;have hr:=h.r;have hc:=h.c;have hv:=h.v;have hs:=h.s;rw[K7 (zTl (l:=p.aF) ab (λx hx=>by have:=(h.ds x hx).1;omega)) λ_=>K7 (zTm (l:=p.Tables) ab (λx hx=>by have:=(h.ts x hx).1;omega)) λ_=>K7 (zTn (l:=p.aB) ab (λx hx=>by have:=(h.zs x hx).1;omega)) λ_=>K7 (zTo (l:=p.aE) ab (λx hx=>by have:=(Yk (h.rs x hx)).1;omega)) λ_=>K7 (zTp (l:=p.aJ) ab (λx hx=>by have:=(h.cs x hx).1;omega)) λ_=>uc (zTq (l:=p.aG) ab (λx hx=>by have:=(h.vs x hx).1;omega)),bsQ]
 have hp:pd (Q8 p)=(pd (kg p.aF Def.aL 60/\kg p.Tables au.aL 60/\kg p.aB yt.aL 60/\kg p.aE zO.aL 200/\kg p.aJ Cap.aL 30/\kg p.aG av.aL 60)&&pd ((∀d∈p.aF,okE 12 d.Body=bg)/\(∀t∈p.Tables,A9 t)/\(∀z∈p.aB,Hs z.aA)/\(∀r∈p.aE,Yj r)/\(∀c∈p.aJ,zLb c)/\(∀v∈p.aG,Zz v)/\(∀d∈p.aK,zz7 d)/\(0<=p.aI/\p.aI<=24)/\(0<=((p.aK.length:Nat):Int)/\((p.aK.length:Nat):Int)<=24))):=by
  rw[<- AA];exact JW ⟨λ⟨a,⟨b1,b2,b3,b4,b5,b6,b7⟩,c,d⟩=>⟨a,b1,b2,b3,b4,b5,b6,b7,c,ab⟩,λ⟨a,b1,b2,b3,b4,b5,b6,b7,c,d⟩=>⟨a,⟨b1,b2,b3,b4,b5,b6,b7⟩,c,ab⟩⟩
 rw[hp];cases pd (kg p.aF Def.aL 60/\kg p.Tables au.aL 60/\kg p.aB yt.aL 60/\kg p.aE zO.aL 200/\kg p.aJ Cap.aL 30/\kg p.aG av.aL 60)
 ·rfl
 rw[bW,cf,cr]
 exact Yh (Rt_L1 hd h.ds) λ_=>Yh (Rt_L2 ht h.ts) λ_=>Yh (Rt_L4 hz) λ_=>Yh (Rt_L5 hr h.rs) λ_=>Yh (Rt_L6 hc) λ_=>Yh (Rt_L7 hv h.vs) λ_=>Yh (Rt_L9 hs) λ_=>by rw[Zy];rfl
section ref
variable{c0:List Def}{c1:List au}{c2:List yt}{c3:List zO}{c4:List Cap}{c5:List av}{c6:List zg}{c7:Int}
end ref
def zwn:∀(k n:Nat),n<10 ^ (k+1)->(Lib.decDigits n).length<=k+1
 |k,n,h=>by
  rw[Lib.decDigits];by_cases h10:n<10
  ·rw[dif_pos h10,eF];omega
  ·cases k with
   |zero=>omega
   |succ k =>
    have:=zwn k (n / 10) (by rw[gP]at h;omega);rw[dif_neg h10,laQ,eF];omega
def ze4{n:Nat}(h:n<=9223372036854775807):(Lib.decDigits n).length<=21:=by
 have:=zwn 19 n ab;omega
def AG(n:Int):Prop:=-9223372036854775807<=n/\n<=9223372036854775807
def VH{n:Int}:QQ (.inl n)=if n<0 then 45::32::Lib.decDigits n.natAbs else Lib.decDigits n.toNat:=rfl
def zTt{n:Int}(h:AG n):(QQ (.inl n)).length<=23:=by
 obtain⟨h0,h1⟩:=h;rw[VH];split
 ·have:=ze4 (n:=n.natAbs) ab
  simp only[lc];omega
 ·have:=ze4 (n:=n.toNat) ab
  omega
def zlr{n:Int}(h0:0<=n)(h1:n<=9223372036854775807):ZX n=bc (Lib.decDigits n.toNat):=by
 unfold ZX zu8;rw[zB ab,bsQ,Lib.itoa,aO ab]
def yw{a b:ak}(h:a.length+b.length<=140737488355328):xd a b=bc (((b.length:Nat):Int),a++b):=by
 unfold xd;rw[zB h];rfl
def zb2{a b:ak}(h:a.length+b.length<=140737488355328):Aw a b=bc (((b.length:Nat):Int),a++b):=by
 unfold Aw;rw[zB h];rfl
def K8{a:ak}(h:a.length+2<=140737488355328):zz4 a=bc (a++[32,41]):=by
 unfold zz4;rw[zB h];rfl
-- forms
def lvO(op:Int):Int:=if op=16 then 0 else if op=14 then 1 else if op=13 then 2 else if op=15 then 3 else if op=10∨op=11∨op=12 then 4 else if op=4∨op=5 then 5 else if op=6∨op=7∨op=8 then 6 else if op=9 then 7 else 8
def sgO(op:Int):ak:=if op=14 then zXe else if op=13 then zDf else if op=10 then qY else if op=11 then zgd else if op=12 then qX else if op=4 then zgb else if op=5 then xa else if op=6 then zga else if op=7 then zgc else zf9
def op17{n:Int}(h0:0<=n)(h1:n<17):n=0∨n=1∨n=2∨n=3∨n=4∨n=5∨n=6∨n=7∨n=8∨n=9∨n=10∨n=11∨n=12∨n=13∨n=14∨n=15∨n=16:=ab
def zwo(op:Int):Bool:=decide (4<=op/\op<=14/\¬op=9)
def zLd(k:Nat){c2 n:Int}{s ky:ak}{az:List Expr}(h0:0<=c2)(h1:c2<17):((Jy ([(zd.mk zXe 14 1),(zd.mk zDf 13 2),(zd.mk qY 10 4),(zd.mk zgd 11 4),(zd.mk qX 12 4),(zd.mk zgb 4 5),(zd.mk xa 5 5),(zd.mk zga 6 6),(zd.mk zgc 7 6),(zd.mk zf9 8 6)]:List zd) (10:Nat) c2 n s ky az (k+11) 0).bind (xT bc λ_=>(bif (decide (c2=16))then bc (0,([]:ak))else(bif (decide (c2=15))then bc (3,([]:ak))else(bif (decide (c2=9))then bc (7,([]:ak))else bc (8,([]:ak)))))))=bc (lvO c2,bif zwo c2 then sgO c2 else[]):=by
 obtain rfl|rfl|rfl|rfl|rfl|rfl|rfl|rfl|rfl|rfl|rfl|rfl|rfl|rfl|rfl|rfl|rfl:=op17 h0 h1<;>rfl
def zFc{e:Expr}(h0:0<=e.Op)(h1:e.Op<17):zbi e=bc (lvO e.Op,bif zwo e.Op then sgO e.Op else[]):=by
 unfold zbi wZ
 obtain⟨k,hk⟩:∃k,KK=k+11:=⟨KK-11,by have:=vJ (n:=100) ab;omega⟩
 rw[bsQ,hk];exact zLd k h0 h1
def zzm(op:Int):0<=lvO op/\lvO op<=8:=by unfold lvO;(repeat' split)<;>omega
def zFd(op:Int):(sgO op).length<=3:=by unfold sgO;(repeat' split)<;>decide
def atS(t:ak)(lv form:Int):ak:=if lv<form then zhl++(t++zhj)else t
def xI(e:Expr)(i:Nat):Expr:=e.Args.getD i zE9
def zQ:Nat->Expr->ak
 |0,_=>[]
 |d+1,e =>
  if e.Op=0 then Lib.decDigits e.N.toNat else if e.Op=1 then e.S else if e.Op=2 then wk++(e.S++(t__++e.Key))else if e.Op=3 then qv++e.S
  else if e.Op=16 then Ae++(atS (zQ d (xI e 0)) (lvO (xI e 0).Op) 0++(yQ++(atS (zQ d (xI e 1)) (lvO (xI e 1).Op) 0++(yP++atS (zQ d (xI e 2)) (lvO (xI e 2).Op) 0))))
  else if e.Op=15 then WM++atS (zQ d (xI e 0)) (lvO (xI e 0).Op) 3
  else if e.Op=9 then Kc++atS (zQ d (xI e 0)) (lvO (xI e 0).Op) 7
  else atS (zQ d (xI e 0)) (lvO (xI e 0).Op) (if lvO e.Op=4 then 5 else lvO e.Op)++(t__++(sgO e.Op++(t__++atS (zQ d (xI e 1)) (lvO (xI e 1).Op) (lvO e.Op+1))))
def Ha(t:ak)(a b:Int):(atS t a b).length<=t.length+4:=by
 unfold atS;split
 ·simp only[laQ,show zhl.length=2 from rfl,show zhj.length=2 from rfl];omega
 ·omega
def Hb{s:ak}(h:zN s=bg):s.length<=20/\s≠[]:=by
 unfold zN at h;simp only[bn]at h;exact zv9 h.1
def ZA{e:Expr}(h:wA e=bg):(0<=e.Op/\e.Op<17/\((e.Args.length:Nat):Int)=qP e.Op)/\(0<=e.N/\e.N<=1099511627776)/\e.S.length<=20/\e.Key.length<=20/\((e.Op=1∨e.Op=2∨e.Op=3)->zN e.S=bg)/\(e.Op=2->zN e.Key=bg):=by
 unfold wA at h;simp only[bn,aW]at h;obtain⟨h1,h2,h3,h4⟩:=h;refine⟨h1,?_,?_,?_,λho=>by rwa [aP ho]at h3,λho=>by rwa [aP ho]at h4⟩
 ·split at h2
  ·exact h2
  ·omega
 ·split at h3
  ·exact(Hb h3).1
  ·rw[aY h3];decide
 ·split at h4
  ·exact(Hb h4).1
  ·rw[aY h4];decide
def zwp:∀(d:Nat)(e:Expr),okE d e=bg->(zQ d e).length<=100*4 ^ d
 |0,e,h=>by cases h
 |d+1,e,h=>by
  rw[okE,bn]at h;obtain⟨hh,ha⟩:=h;obtain⟨⟨h0,h1,hl⟩,⟨n0,n1⟩,hs,hk,_⟩:=ZA hh;have hp:0<4 ^ d:=Nat.pow_pos ab
  have arg:∀i,i<e.Args.length->(zQ d (xI e i)).length<=100*4 ^ d:=λi hi=>by
   refine zwp d _ (bj.1 ha _ ?_);unfold xI;rw[cg,bz hi];exact dG hi
  rw[gP,zQ];by_cases o0:e.Op=0
  ·rw[aP o0];have:=ze4 (n:=e.N.toNat) ab;omega
  rw[aO o0];by_cases o1:e.Op=1
  ·rw[aP o1];omega
  rw[aO o1];by_cases o2:e.Op=2
  ·rw[aP o2];simp only[laQ,show wk.length=6 from rfl,show t__.length=1 from rfl];omega
  rw[aO o2];by_cases o3:e.Op=3
  ·rw[aP o3];simp only[laQ,show qv.length=5 from rfl];omega
  rw[aO o3];by_cases o16:e.Op=16
  ·rw[aP o16]
   have:e.Args.length=3:=by rw[o16]at hl;have:qP 16=3:=rfl;omega
   have a0:=arg 0 ab;have a1:=arg 1 ab;have a2:=arg 2 ab;have b0:=Ha (zQ d (xI e 0)) (lvO (xI e 0).Op) 0;have b1:=Ha (zQ d (xI e 1)) (lvO (xI e 1).Op) 0;have b2:=Ha (zQ d (xI e 2)) (lvO (xI e 2).Op) 0;simp only[laQ,show Ae.length=3 from rfl,show yQ.length=6 from rfl,show yP.length=6 from rfl];omega
  rw[aO o16];by_cases o15:e.Op=15
  ·rw[aP o15]
   have:e.Args.length=1:=by rw[o15]at hl;have:qP 15=1:=rfl;omega
   have a0:=arg 0 ab;have b0:=Ha (zQ d (xI e 0)) (lvO (xI e 0).Op) 3;simp only[laQ,show WM.length=4 from rfl];omega
  rw[aO o15];by_cases o9:e.Op=9
  ·rw[aP o9]
   have:e.Args.length=1:=by rw[o9]at hl;have:qP 9=1:=rfl;omega
   have a0:=arg 0 ab;have b0:=Ha (zQ d (xI e 0)) (lvO (xI e 0).Op) 7;simp only[laQ,show Kc.length=2 from rfl];omega
  rw[aO o9]
  have:e.Args.length=2:=by
   have:qP e.Op=2:=by unfold qP;rw[aO ab,aO ab,aO o16]
   omega
  have a0:=arg 0 ab;have a1:=arg 1 ab;have b0:=Ha (zQ d (xI e 0)) (lvO (xI e 0).Op) (if lvO e.Op=4 then 5 else lvO e.Op);have b1:=Ha (zQ d (xI e 1)) (lvO (xI e 1).Op) (lvO e.Op+1);have:=zFd e.Op;simp only[laQ,show t__.length=1 from rfl];omega
inductive OX:Nat->Expr->Prop
 |num {d:Nat} {n:Int}:0<=n->n<=1099511627776->OX (d+1) ⟨0,n,[],[],[]⟩
 |name {d:Nat} {s:ak}:zN s=bg->OX (d+1) ⟨1,0,s,[],[]⟩
 |table {d:Nat} {s k:ak}:zN s=bg->zN k=bg->OX (d+1) ⟨2,0,s,k,[]⟩
 |zone {d:Nat} {s:ak}:zN s=bg->OX (d+1) ⟨3,0,s,[],[]⟩
 |neg {d:Nat} {a:Expr}:OX d a->OX (d+1) ⟨9,0,[],[],[a]⟩
 |not {d:Nat} {a:Expr}:OX d a->OX (d+1) ⟨15,0,[],[],[a]⟩
 |cond {d:Nat} {a b c:Expr}:OX d a->OX d b->OX d c->OX (d+1) ⟨16,0,[],[],[a,b,c]⟩
 |bin {d:Nat} {op:Int} {a b:Expr}:zwo op=bg->OX d a->OX d b->OX (d+1) (Zu op a b)
def z1s{α:Type}{l:List α}(h:((l.length:Nat):Int)=0):l=[]:=List.length_eq_zero_iff.1 ab
def len1{α:Type}{l:List α}(h:((l.length:Nat):Int)=1):∃a,l=[a]:=List.length_eq_one_iff.1 ab
def len2{α:Type}{l:List α}(h:((l.length:Nat):Int)=2):∃a b,l=[a,b]:=by
 match l,h with
 |[a,b],_=>exact⟨a,b,rfl⟩
 |[],h=>simp at h
 |[a],h=>simp at h
 |a::b::c::r,h=>simp only[lc]at h;omega
def len3{α:Type}{l:List α}(h:((l.length:Nat):Int)=3):∃a b c,l=[a,b,c]:=by
 match l,h with
 |[a,b,c],_=>exact⟨a,b,c,rfl⟩
 |[],h=>simp at h
 |[a],h=>simp at h
 |[a,b],h=>simp at h
 |a::b::c::d::r,h=>simp only[lc]at h;omega
def zZo{op:Int}(h0:0<=op)(h1:op<17)(a0:¬op=0)(a1:¬op=1)(a2:¬op=2)(a3:¬op=3)(a9:¬op=9)(a15:¬op=15)(a16:¬op=16):zwo op=bg:=dt ab
def zwq{op:Int}(h:zwo op=bg):4<=op/\op<=14/\¬op=9:=aY h
def zFe{op:Int}(h:zwo op=bg):qP op=2:=by
 have:=zwq h;unfold qP;rw[aO ab,aO ab,aO ab]
def zFf:∀(d:Nat)(e:Expr),okE d e=bg->OX d e
 |0,e,h=>by cases h
 |d+1,e,h=>by
  rw[okE,bn]at h;obtain⟨hh,ha⟩:=h
  have ih:∀x∈e.Args,OX d x:=λx hx=>zFf d x (bj.1 ha x hx)
  obtain⟨op,n,s,k,az⟩:=e;simp only[wA,bn,aW]at hh;obtain⟨⟨h0,h1,hl⟩,hn,hs,hk⟩:=hh;dsimp only at ih;by_cases a0:op=0
  ·subst a0
   obtain rfl:=z1s hl;simp at hn hs hk
   obtain⟨rfl,rfl⟩:s=[]/\k=[]:=⟨hs,hk⟩
   exact .num hn.1 hn.2
  by_cases a1:op=1
  ·subst a1
   obtain rfl:=z1s hl;simp at hn hs hk;subst hn hk;exact .name hs
  by_cases a2:op=2
  ·subst a2
   obtain rfl:=z1s hl;simp at hn hs hk;subst hn;exact .table hs hk
  by_cases a3:op=3
  ·subst a3
   obtain rfl:=z1s hl;simp at hn hs hk;subst hn hk;exact .zone hs
  rw[aO a0]at hn;rw[aO ab,aW]at hs;rw[aO a2,aW]at hk;subst hn hs hk;by_cases a9:op=9
  ·subst a9
   obtain⟨a,rfl⟩:=len1 hl;exact .neg (ih a af)
  by_cases a15:op=15
  ·subst a15
   obtain⟨a,rfl⟩:=len1 hl;exact .not (ih a af)
  by_cases a16:op=16
  ·subst a16
   obtain⟨a,b,c,rfl⟩:=len3 hl;exact .cond (ih a af) (ih b af) (ih c af)
  have hb:=zZo h0 h1 a0 a1 a2 a3 a9 a15 a16;rw[zFe hb]at hl;obtain⟨a,b,rfl⟩:=len2 hl;exact .bin hb (ih a af) (ih b af)
def kwQ(w:ak):T3:=(0,w,0)
def sgQ(w:ak):T3:=(2,w,0)
def wa(n:Int):T3:=(1,Lib.decDigits n.toNat,n)
def opQ(op:Int):T3:=if op=13∨op=14 then kwQ (sgO op)else sgQ (sgO op)
def Ym(t:List T3)(lv form:Int):List T3:=if lv<form then sgQ AP::(t++[sgQ qu])else t
def zls(op:Int):Int:=if lvO op=4 then 5 else lvO op
def xH:Nat->Expr->List T3
 |0,_=>[]
 |d+1,e =>
  if e.Op=0 then[wa e.N]else if e.Op=1 then[kwQ e.S]else if e.Op=2 then[kwQ ym,kwQ e.S,kwQ e.Key]else if e.Op=3 then[kwQ yR,kwQ e.S]
  else if e.Op=16 then kwQ WL::(xH d (xI e 0)++(kwQ uR::(xH d (xI e 1)++(kwQ xh::xH d (xI e 2)))))
  else if e.Op=15 then kwQ um::Ym (xH d (xI e 0)) (lvO (xI e 0).Op) 3
  else if e.Op=9 then sgQ xa::Ym (xH d (xI e 0)) (lvO (xI e 0).Op) 7
  else Ym (xH d (xI e 0)) (lvO (xI e 0).Op) (zls e.Op)++(opQ e.Op::Ym (xH d (xI e 1)) (lvO (xI e 1).Op) (lvO e.Op+1))
def Yn{op:Int}(h:zwo op=bg)(d:Nat)(a b:Expr):xH (d+1) (Zu op a b)=Ym (xH d a) (lvO a.Op) (zls op)++(opQ op::Ym (xH d b) (lvO b.Op) (lvO op+1)):=by
 have h3:=zwq h;rw[xH];unfold Zu;dsimp only;rw[aO ab,aO ab,aO ab,aO ab,aO ab,aO ab,aO ab];rfl
def zqd{op:Int}(h:zwo op=bg)(d:Nat)(a b:Expr):zQ (d+1) (Zu op a b)=atS (zQ d a) (lvO a.Op) (zls op)++(t__++(sgO op++(t__++atS (zQ d b) (lvO b.Op) (lvO op+1)))):=by
 have h3:=zwq h;rw[zQ];unfold Zu;dsimp only;rw[aO ab,aO ab,aO ab,aO ab,aO ab,aO ab,aO ab];rfl
def zZp{t:List T3}{op:Int}:Ym t (lvO op) 0=t:=aO (by have:=zzm op;omega)
def at0{t:ak}{op:Int}:atS t (lvO op) 0=t:=aO (by have:=zzm op;omega)
def sq(ts:List T3):ak:=ts.flatMap λt=>32::t.2.1
def jq:List T3->ak
 |[]=>[]
 |t::ts=>t.2.1++sq ts
def zO7(a b:List T3):sq (a++b)=sq a++sq b:=dy
def zLe{a:List T3}(h:a≠[]):sq a=32::jq a:=by
 cases a with
 |nil=>exact aU rfl h
 |cons t ts=>rfl
def zZq{a b:List T3}(h:a≠[]):jq (a++b)=jq a++sq b:=by
 cases a with
 |nil=>exact aU rfl h
 |cons t ts=>rw[bP,jq,jq,zO7,asc]
def VI{t:T3}{b:List T3}(h:b≠[]):jq (t::b)=t.2.1++32::jq b:=by rw[jq,zLe h]
def zwr{a b:List T3}(ha:a≠[])(hb:b≠[]):jq (a++b)=jq a++32::jq b:=by rw[zZq ha,zLe hb]
def zZr(a:List T3):BL (sq a):=by
 cases a with
 |nil=>exact zOy
 |cons t ts=>exact zlj rfl
def zZs:∀{ts:List T3},(∀t∈ts,okT t)->LX (sq ts) ts
 |[],_=>zOz
 |t::ts,h=>by
  have:=zEp (zwe (c:=32) rfl (zEo (h t al))) (zZs λx hx=>h x (mcQ _ hx)) (zZr ts);exact this
def zZt{ts:List T3}(h:∀t∈ts,okT t):LX (jq ts) ts:=by
 cases ts with
 |nil=>exact zOz
 |cons t ts=>exact zEp (zEo (h t al)) (zZs λx hx=>h x (mcQ _ hx)) (zZr ts)
def OKs(ts:List T3):Prop:=∀t∈ts,okT t
def AI:OKs []:=λ_ h=>by cases h
def xq{t:T3}{ts:List T3}(h:okT t)(hs:OKs ts):OKs (t::ts):=λx hx=>by
 rcases bq.1 hx with rfl|hx
 ·exact h
 ·exact hs x hx
def VJ{a b:List T3}(ha:OKs a)(hb:OKs b):OKs (a++b):=λx hx=>by
 rcases bA.1 hx with hx|hx
 ·exact ha x hx
 ·exact hb x hx
def zb3{n:Int}(h0:0<=n)(h1:n<=1099511627776):okT (wa n):=by
 have:=zTc (n:=n.toNat) ab;rw[Int.toNat_of_nonneg h0]at this;exact this
def zFg{w:ak}(h:Kp w=bg):okT (kwQ w):=zwf h
def Yo{w:ak}(h:zN w=bg):okT (kwQ w):=zKy h
def ze5{op:Int}(h:zwo op=bg):op=4∨op=5∨op=6∨op=7∨op=8∨op=10∨op=11∨op=12∨op=13∨op=14:=by
 have:=zwq h;omega
def zO8{op:Int}(h:zwo op=bg):okT (opQ op):=by
 rcases ze5 h with rfl|rfl|rfl|rfl|rfl|rfl|rfl|rfl|rfl|rfl<;>rfl
def zLf(op:Int):(opQ op).2.1=sgO op:=by
 unfold opQ;split<;>rfl
def zws{t:List T3}{a b:Int}(h:t≠[]):Ym t a b≠[]:=by
 unfold Ym;split
 ·simp
 ·exact h
def Yp{t:List T3}{a b:Int}(h:OKs t):OKs (Ym t a b):=by
 unfold Ym;split
 ·exact xq rfl (VJ h (xq rfl AI))
 ·exact h
def zwt{t:List T3}{s:ak}{a b:Int}(hn:t≠[])(h:s=jq t):atS s a b=jq (Ym t a b):=by
 unfold atS Ym;split
 ·rw[VI af,zwr hn af,<- h];rfl
 ·exact h
def uL{d:Nat}{e:Expr}(h:OX d e):xH d e≠[]/\OKs (xH d e)/\zQ d e=jq (xH d e):=by
 induction h with
 |@num d n h1 h2 =>
  refine⟨by simp[xH],?_,?_⟩
  ·exact xq (zb3 h1 h2) AI
  ·show Lib.decDigits n.toNat=Lib.decDigits n.toNat++[]
   rw[bE]
 |@name d s h =>
  refine⟨by simp[xH],xq (Yo h) AI,?_⟩
  show s=s++[]
  rw[bE]
 |@table d s k h1 h2 =>
  refine⟨by simp[xH],xq rfl (xq (Yo h1) (xq (Yo h2) AI)),?_⟩
  show wk++(s++(t__++k))=ym++((32::s)++((32::k)++[]))
  rw[bE];rfl
 |@zone d s h =>
  refine⟨by simp[xH],xq rfl (xq (Yo h) AI),?_⟩
  show qv++s=yR++((32::s)++[])
  rw[bE];rfl
 |@neg d a _ ih =>
  obtain⟨i1,i2,i3⟩:=ih;refine⟨by simp[xH],xq rfl (Yp i2),?_⟩
  show Kc++atS (zQ d a) (lvO a.Op) 7=jq (sgQ xa::Ym (xH d a) (lvO a.Op) 7)
  rw[VI (zws i1),zwt i1 i3];rfl
 |@not d a _ ih =>
  obtain⟨i1,i2,i3⟩:=ih;refine⟨by simp[xH],xq rfl (Yp i2),?_⟩
  show WM++atS (zQ d a) (lvO a.Op) 3=jq (kwQ um::Ym (xH d a) (lvO a.Op) 3)
  rw[VI (zws i1),zwt i1 i3];rfl
 |@cond d a b c _ _ _ ia ib ic =>
  obtain⟨a1,a2,a3⟩:=ia;obtain⟨b1,b2,b3⟩:=ib;obtain⟨c1,c2,c3⟩:=ic;refine⟨by simp[xH],xq rfl (VJ a2 (xq rfl (VJ b2 (xq rfl c2)))),?_⟩
  show Ae++(atS (zQ d a) (lvO a.Op) 0++(yQ++(atS (zQ d b) (lvO b.Op) 0++(yP++atS (zQ d c) (lvO c.Op) 0))))=jq (kwQ WL::(xH d a++(kwQ uR::(xH d b++(kwQ xh::xH d c)))))
  rw[VI af,zwr a1 af,VI af,zwr b1 af,VI c1,at0,at0,at0,a3,b3,c3];rfl
 |@bin d op a b hb _ _ ia ib =>
  obtain⟨a1,a2,a3⟩:=ia;obtain⟨b1,b2,b3⟩:=ib;rw[Yn hb,zqd hb];refine⟨af,VJ (Yp a2) (xq (zO8 hb) (Yp b2)),?_⟩;rw[zwr (zws a1) af,VI (zws b1),zwt a1 a3,zwt b1 b3,zLf];rfl
def PX(lv:Nat)(r:List ar):Except EE ((Nat×Expr)×List ar) :=
 if lv<=0/\isB WL r=bg then thn (ifS r) λe r=>.ok ((0,e),r)
 else if lv<=3/\isB um r=bg then thn (DE 3 r.tail) λa r1=>.ok ((3,Expr.mk 15 0 [] [] [a]),r1)
 else if lv<=7/\isB xa r=bg then thn (DE 7 r.tail) λa r1=>.ok ((7,Expr.mk 9 0 [] [] [a]),r1)
 else thn (Yf r) λe r=>.ok ((8,e),r)
def KL(lv:Nat):Nat->Expr->List ar->Except EE (Expr×List ar)
 |0,e,r=>.ok (e,r)
 |k+1,e,r=>thn (LP (lv+k) e r) λe r=>KL lv k e r
def zFh(lv:Nat):∀(k:Nat)(e:Expr)(r:List ar),KL lv (k+1) e r=thn (KL (lv+1) k e r) λe r=>LP lv e r
 |0,e,r=>by simp only[KL,eg,Ye];rfl
 |k+1,e,r=>by
  rw[KL,KL,zP,show lv+(k+1)=lv+1+k by omega]
  exact xZ λa r1 _=>zFh lv k a r1
def Yq{o:zd}(h:o∈OPS):∃f:Nat,o.form=(f:Int)/\(f=1∨f=2∨f=4∨f=5∨f=6)/\o.text≠[]:=by
 simp only[OPS,bq,cR,or_false]at h
 rcases h with rfl|rfl|rfl|rfl|rfl|rfl|rfl|rfl|rfl|rfl
 ·exact⟨1,rfl,ab,ae⟩
 ·exact⟨2,rfl,ab,ae⟩
 ·exact⟨4,rfl,ab,ae⟩
 ·exact⟨4,rfl,ab,ae⟩
 ·exact⟨4,rfl,ab,ae⟩
 ·exact⟨5,rfl,ab,ae⟩
 ·exact⟨5,rfl,ab,ae⟩
 ·exact⟨6,rfl,ab,ae⟩
 ·exact⟨6,rfl,ab,ae⟩
 ·exact⟨6,rfl,ab,ae⟩
def zqe{lv:Nat}{r:List ar}(h:lv=0∨lv=3∨lv>=7):zmn lv r=bh:=by
 cases ho:zmn lv r with
 |none=>rfl
 |some op =>
  obtain⟨o,h1,h2,_⟩:=K5 ho;obtain⟨f,h3,h4,_⟩:=Yq (qe h1).2.1;omega
def ZB{lv:Nat}{e:Expr}{r:List ar}(hr:TWF r)(h:zmn lv r=bh):LP lv e r=.ok (e,r):=by
 rw[zEu hr,h]
def zTu{lv:Nat}{r:List ar}(hl:lv<8)(h0:¬(lv=0/\isB WL r=bg))(h3:¬(lv=3/\isB um r=bg))(h7:¬(lv=7/\isB xa r=bg)):PX lv r=PX (lv+1) r:=by
 unfold PX
 have e0:(lv<=0/\isB WL r=bg)=False:=by simp only[eq_iff_iff,iff_false];intro hh;exact h0 ⟨ab,hh.2⟩
 have e0':(lv+1<=0/\isB WL r=bg)=False:=by simp only[eq_iff_iff,iff_false];intro hh;omega
 have e3:(lv<=3/\isB um r=bg)=(lv+1<=3/\isB um r=bg):=by
  rw[eq_iff_iff];constructor
  ·intro hh
   refine⟨?_,hh.2⟩
   have:lv≠3:=λe=>h3 ⟨e,hh.2⟩
   omega
  ·intro hh;exact⟨ab,hh.2⟩
 have e7:(lv<=7/\isB xa r=bg)=(lv+1<=7/\isB xa r=bg):=by
  rw[eq_iff_iff];constructor
  ·intro hh
   refine⟨?_,hh.2⟩
   have:lv≠7:=λe=>h7 ⟨e,hh.2⟩
   omega
  ·intro hh;exact⟨ab,hh.2⟩
 simp only[e0,e0',e3,e7]
def zO9{lv:Nat}{r:List ar}{o:Nat}{e:Expr}{r1:List ar}(hl:lv<=8)(h:PX lv r=.ok ((o,e),r1)):lv<=o/\(o=0∨o=3∨o=7∨o=8):=by
 unfold PX at h;split at h
 ·obtain⟨a,r2,h1,h2⟩:=yA h;cases h2;rename_i hh;omega
 ·split at h
  ·obtain⟨a,r2,h1,h2⟩:=yA h;cases h2;rename_i hh;omega
  ·split at h
   ·obtain⟨a,r2,h1,h2⟩:=yA h;cases h2;rename_i hh;omega
   ·obtain⟨a,r2,h1,h2⟩:=yA h;cases h2;omega
def zFi{r r2:List ar}{e:Expr}(hr:TWF r)(hk:isB WL r=bg)(h:ifS r=.ok (e,r2)):Aft r r2:=by
 have:=zgi (lv:=0) ab hr;rw[aP ⟨rfl,hk⟩,h]at this;exact wu hr this
def zFj{lv:Nat}{r r2:List ar}{x:Nat×Expr}(hr:TWF r)(h:PX lv r=.ok (x,r2)):Aft r r2:=by
 unfold PX at h;split at h
 ·rename_i hb
  obtain⟨a,r1,h1,h2⟩:=yA h;cases h2;exact zFi hr hb.2 h1
 ·split at h
  ·rename_i hb
   obtain⟨a,r1,h1,h2⟩:=yA h;cases h2;have ht:=zF hr (zw hb.2);exact ht.trans (wu ht.wf h1).e
  ·split at h
   ·rename_i hb
    obtain⟨a,r1,h1,h2⟩:=yA h;cases h2;have ht:=zF hr (zw hb.2);exact ht.trans (wu ht.wf h1).e
   ·obtain⟨a,r1,h1,h2⟩:=yA h;cases h2
    rw[<- zHn hr]at h1;exact wu hr h1
def DE_PX:∀(k lv:Nat),8-lv=k->lv<=8->∀(r:List ar),TWF r->DE lv r=thn (PX lv r) λx r1=>KL lv (x.1+1-lv) x.2 r1:=by
 intro k
 induction k with
 |zero =>
  intro lv hk hl r hr
  obtain rfl:lv=8:=ab
  rw[zHn hr,PX,aO ab,aO ab,aO ab,zP]
  conv=>lhs;rw[<- Ye (x:=Yf r)]
  refine xZ λe r1 h1=>?_
  show _=KL 8 1 e r1
  rw[<- zHn hr]at h1;rw[KL,ZB (wu hr h1).wf (zqe ab)];rfl
 |succ k ih =>
  intro lv hk hl r hr;rw[zgi ab hr]
  have one:∀(e:Expr)(r1:List ar),(lv=0∨lv=3∨lv=7)->TWF r1->KL lv (lv+1-lv) e r1=.ok (e,r1):=λe r1 h h1=>by
   rw[show lv+1-lv=1 by omega,KL,eg,ZB h1 (zqe ab)];rfl
  by_cases h0:lv=0/\isB WL r=bg
  ·rw[aP h0,PX,aP ⟨ab,h0.2⟩,zP]
   conv=>lhs;rw[<- Ye (x:=ifS r)]
   refine xZ λe r1 h1=>?_
   have:=one e r1 ab (zFi hr h0.2 h1).wf;rw[h0.1]at this ⊢;exact this.symm
  ·rw[aO h0]
   by_cases h3:lv=3/\isB um r=bg
   ·rw[aP h3,PX,aO ab,aP ⟨ab,h3.2⟩,zP]
    refine xZ λa r1 h1=>?_
    have ht:=zF hr (zw h3.2);have:=one (Expr.mk 15 0 [] [] [a]) r1 ab (wu ht.wf h1).wf;rw[h3.1]at this ⊢;exact this.symm
   ·rw[aO h3]
    by_cases h7:lv=7/\isB xa r=bg
    ·rw[aP h7,PX,aO ab,aO ab,aP ⟨ab,h7.2⟩,zP]
     refine xZ λa r1 h1=>?_
     have ht:=zF hr (zw h7.2);have:=one (Expr.mk 9 0 [] [] [a]) r1 ab (wu ht.wf h1).wf;rw[h7.1]at this ⊢;exact this.symm
    ·rw[aO h7,ih (lv+1) ab ab r hr,zTu ab h0 h3 h7,zP]
     refine xZ λx r1 h1=>?_
     have:=(zO9 ab h1).1;rw[show x.1+1-lv=(x.1+1-(lv+1))+1 by omega,zFh]
def CL(lv own:Nat)(e:Expr)(r:List ar):Except EE (Expr×List ar):=match opR r with
 |none=>.ok (e,r)
 |some o=>if o.form<(lv:Int)∨(own:Int)<o.form∨(own=4/\o.form=4)then .ok (e,r)else
  if h:r.tail.length<r.length then thn (DE (o.form.toNat+1) r.tail) λe2 r2=>if h2:r2.length<r.length then CL lv o.form.toNat (Zu o.op e e2) r2 else oof else oof
termination_by r.length
def ztl{lv:Nat}{e:Expr}{r:List ar}(hr:TWF r):∀(k:Nat),(∀j,lv<=j->j<lv+k->zmn j r=bh)->KL lv k e r=.ok (e,r)
 |0,_=>rfl
 |k+1,h=>by
  rw[KL,ZB hr (h (lv+k) ab ab)]
  exact ztl hr k λj h1 h2=>h j h1 ab
def zwu{lv:Nat}{e:Expr}{r:List ar}(hr:TWF r):∀(k j:Nat),(∀i,lv+j<=i->i<lv+j+k->zmn i r=bh)->KL lv (j+k) e r=KL lv j e r
 |0,j,_=>rfl
 |k+1,j,h=>by
  rw[show j+(k+1)=(j+k)+1 by omega,KL,ZB hr (h (lv+(j+k)) ab ab)]
  exact zwu hr k j λi h1 h2=>h i h1 ab
def CL_KL(lv:Nat):∀(n:Nat)(r:List ar)(own:Nat)(e:Expr),r.length<n->TWF r->KL lv ((if own=4 then 3 else own)+1-lv) e r=CL lv own e r:=by
 intro n
 induction n with
 |zero=>intro r own e h;omega
 |succ n ih =>
  intro r own e hn hr;rw[CL]
  cases ho:opR r with
  |none=>exact ztl hr _ λj _ _=>by rw[zmn,ho]
  |some o =>
   dsimp only;obtain⟨hk,hmem,_⟩:=qe ho;obtain⟨f,hf,hf2,_⟩:=Yq hmem
   have hat:∀j,j≠f->zmn j r=bh:=λj hj=>by
    rw[zmn,ho];dsimp only;rw[aO (by rw[hf];omega)]
   have hatf:zmn f r=bc o.op:=by
    rw[zmn,ho];dsimp only;rw[aP hf]
   rw[hf];by_cases hc:(f:Int)<(lv:Int)∨(own:Int)<(f:Int)∨(own=4/\(f:Int)=4)
   ·rw[aP hc]
    refine ztl hr _ λj h1 h2=>hat j ?_
    rcases hc with hc|hc|hc
    ·omega
    ·split at h2<;>omega
    ·rw[aP hc.1]at h2;omega
   ·rw[aO hc]
    have ht:=zF hr hk;rw[dif_pos ht.lt,dB]
    have hle:lv<=f/\f<=(if own=4 then 3 else own):=by
     refine⟨ab,?_⟩;split
     ·rename_i h4;subst h4;omega
     ·omega
    rw[show(if own=4 then 3 else own)+1-lv=(f-lv+1)+((if own=4 then 3 else own)-f) by omega,zwu hr _ _ (λi h1 h2=>hat i ab),KL,show lv+(f-lv)=f by omega,zEu hr,hatf,zP]
    refine xZ λe2 r2 h2=>?_
    have hq:=ht.trans (wu ht.wf h2).e;rw[dif_pos hq.lt,<- ih r2 f (Zu o.op e e2) (by have:=hq.lt;omega) hq.wf];by_cases h4:f=4
    ·subst h4
     rw[aP rfl,aP rfl]
     show KL lv (4-lv) _ r2=_
     rw[show 4-lv=3+1-lv by omega]
    ·rw[aO h4,aO h4,show f+1-lv=(f-lv)+1 by omega,KL,show lv+(f-lv)=f by omega]
def zZu{lv own:Nat}{e:Expr}{r:List ar}(hr:TWF r):CL lv own e r=match opR r with
 |none=>.ok (e,r)
 |some o=>if o.form<(lv:Int)∨(own:Int)<o.form∨(own=4/\o.form=4)then .ok (e,r)else thn (DE (o.form.toNat+1) r.tail) λe2 r2=>CL lv o.form.toNat (Zu o.op e e2) r2:=by
 rw[CL];split
 ·rfl
 ·rename_i o ho
  have ht:=zF hr (qe ho).1;rw[dif_pos ht.lt];split
  ·rfl
  ·refine xZ λe2 r2 h2=>?_
   rw[dif_pos (ht.trans (wu ht.wf h2).e).lt]
def zZv{lv:Nat}{r:List ar}(hl:lv<=8)(hr:TWF r):DE lv r=thn (PX lv r) λx r1=>CL lv x.1 x.2 r1:=by
 rw[DE_PX _ lv rfl hl r hr]
 refine xZ λx r1 h1=>?_
 have ho:=(zO9 (o:=x.1) (e:=x.2) hl h1).2;have:=CL_KL lv (r1.length+1) r1 x.1 x.2 (cS _) (zFj hr h1).wf;rw[aO ab]at this;exact this
def tk(a:T3)(p:Int):ar:=ar.mk a.1 a.2.1 a.2.2 p
def map_nil{l:List ar}(h:l.map t3=[]):l=[]:=List.map_eq_nil_iff.1 h
def map_cons{l:List ar}{a:T3}{ts:List T3}(h:l.map t3=a::ts):∃p l',l=tk a p::l'/\l'.map t3=ts:=by
 obtain⟨t,l',rfl,rfl,h2⟩:=List.map_eq_cons_iff.1 h;exact⟨t.Pos,l',rfl,h2⟩
def wh{l:List ar}{a b:List T3}(h:l.map t3=a++b):∃l1 l2,l=l1++l2/\l1.map t3=a/\l2.map t3=b:=List.map_eq_append_iff.1 h
def zLg{t:T3}(h:okT t):t.1=0∨t.1=1∨t.1=2:=by
 obtain⟨k,x,n⟩:=t;unfold okT at h;dsimp only at h ⊢
 cases x with
 |nil=>cases h
 |cons c x =>
  rw[vX]at h;split at h
  ·split at h
   ·exact .inl (aQ (λy:T3=>y.1) (Except.ok.inj h)).symm
   ·cases h
  ·split at h
   ·split at h
    ·exact .inr (.inl (aQ (λy:T3=>y.1) (Except.ok.inj h)).symm)
    ·cases h
   ·split at h
    ·exact .inr (.inr (aQ (λy:T3=>y.1) (Except.ok.inj h)).symm)
    ·cases h
def TWF.cons{t:ar}{r:List ar}(h:t.aM≠3)(hr:TWF r):TWF (t::r):=by
 cases r with
 |nil=>exact hr.elim
 |cons u r=>exact⟨h,hr⟩
def zZw{t:T3}(h:okT t):t.1≠3:=by have:=zLg h;omega
def jS{a:T3}{p:Int}{r:List ar}(h:okT a)(hr:TWF r):TWF (tk a p::r):=TWF.cons (zZw h) hr
def kh:∀{ts:List T3}{l r:List ar},OKs ts->l.map t3=ts->TWF r->TWF (l++r)
 |[],l,r,_,h,hr=>by rw[map_nil h];exact hr
 |t::ts,l,r,ho,h,hr=>by
  obtain⟨p,l',rfl,h2⟩:=map_cons h;exact jS (ho t al) (kh (λx hx=>ho x (mcQ _ hx)) h2 hr)
def NO(lv:Nat)(r:List ar):Prop:=∀j,lv<=j->zmn j r=bh
def NO.le{lv k:Nat}{r:List ar}(h:NO lv r)(hk:lv<=k):NO k r:=λj hj=>h j ab
def zFk{r:List ar}{lv:Nat}(h:opR r=bh):NO lv r:=λj _=>by rw[zmn,h]
def zE(s:ak)(a:T3)(p:Int)(r:List ar):isB s (tk a p::r)=((!(decide (a.1=3)))&&decide (a.2.1=s)):=rfl
def AJ{n:Nat}{s:ak}(h:s.all xi=bd):Lib.decDigits n≠s:=λe=>by
 have:=zlk n;rw[e,h]at this;cases this
def ztm{s w:ak}(h:zN s=bg)(hw:zN w=bd):s≠w:=λe=>by
 rw[e,hw]at h;cases h
def zFl{d:Nat}{e:Expr}(h:OX d e):∀t ts,xH d e=t::ts->(t.2.1=WL->lvO e.Op=0)/\(t.2.1=um->lvO e.Op<=3)/\(t.2.1=xa->lvO e.Op<=7):=by
 induction h with
 |@num d n h1 h2 =>
  intro t ts e;obtain⟨rfl,rfl⟩:=List.cons.inj (show[wa n]=t::ts from e);exact⟨λe=>aU e (AJ rfl),λe=>aU e (AJ rfl),λe=>aU e (AJ rfl)⟩
 |@name d s h =>
  intro t ts e;obtain⟨rfl,rfl⟩:=List.cons.inj (show[kwQ s]=t::ts from e);exact⟨λe=>aU e (ztm h ah),λe=>aU e (ztm h ah),λe=>aU e (ztm h ah)⟩
 |@table d s k h1 h2 =>
  intro t ts e;obtain⟨rfl,_⟩:=List.cons.inj (show[kwQ ym,kwQ s,kwQ k]=t::ts from e);exact⟨λe=>aU e ae,λe=>aU e ae,λe=>aU e ae⟩
 |@zone d s h =>
  intro t ts e;obtain⟨rfl,_⟩:=List.cons.inj (show[kwQ yR,kwQ s]=t::ts from e);exact⟨λe=>aU e ae,λe=>aU e ae,λe=>aU e ae⟩
 |@neg d a _ _ =>
  intro t ts e;obtain⟨rfl,_⟩:=List.cons.inj (show sgQ xa::_=t::ts from e);exact⟨λe=>aU e ae,λe=>aU e ae,λ_=>show lvO 9<=7 by decide⟩
 |@not d a _ _ =>
  intro t ts e;obtain⟨rfl,_⟩:=List.cons.inj (show kwQ um::_=t::ts from e);exact⟨λe=>aU e ae,λ_=>show lvO 15<=3 by decide,λe=>aU e ae⟩
 |@cond d a b c _ _ _ _ _ _ =>
  intro t ts e;obtain⟨rfl,_⟩:=List.cons.inj (show kwQ WL::_=t::ts from e);exact⟨λ_=>show lvO 16=0 by decide,λe=>aU e ae,λe=>aU e ae⟩
 |@bin d op a b hb ha _ ia _ =>
  intro t ts e;rw[Yn hb]at e
  have hl:1<=lvO op/\lvO op<=zls op/\lvO op<=6:=by rcases ze5 hb with rfl|rfl|rfl|rfl|rfl|rfl|rfl|rfl|rfl|rfl<;>decide
  show(_->lvO op=0)/\(_->lvO op<=3)/\(_->lvO op<=7)
  by_cases hp:lvO a.Op<zls op
  ·rw[Ym,aP hp]at e
   obtain⟨rfl,_⟩:=List.cons.inj e;exact⟨λe=>aU e ae,λe=>aU e ae,λe=>aU e ae⟩
  ·rw[Ym,aO hp]at e
   cases hq:xH d a with
   |nil=>exact aU hq (uL ha).1
   |cons u us =>
    rw[hq]at e;obtain⟨rfl,_⟩:=List.cons.inj e;obtain⟨h1,h2,h3⟩:=ia _ _ hq;exact⟨λe=>by have:=h1 e;omega,λe=>by have:=h2 e;omega,λe=>by have:=h3 e;omega⟩
def ztn{x r:List ar}{e:Expr}(hx:TWF x)(hr:TWF r):∀(n lv k:Nat),lv+n=k->k<=8->(∀j,lv<=j->j<k->¬(j=0/\isB WL x=bg)/\¬(j=3/\isB um x=bg)/\¬(j=7/\isB xa x=bg))->NO lv r->DE k x=.ok (e,r)->DE lv x=.ok (e,r)
 |0,lv,k,hk,_,_,_,h=>by
  obtain rfl:lv=k:=ab
  exact h
 |n+1,lv,k,hk,h8,hh,hn,h=>by
  have ih:=ztn hx hr n (lv+1) k ab h8 (λj hj=>hh j ab) (hn.le ab) h;obtain⟨h1,h2,h3⟩:=hh lv aq ab;rw[zgi ab hx,aO h1,aO h2,aO h3,ih];exact ZB hr (hn lv aq)
def zZx{l r:List ar}{e:Expr}{p q:Int}{ts:List T3}(ho:OKs ts)(hl:l.map t3=ts)(hr:TWF r)(h:DE 0 (l++(tk (sgQ qu) q::r))=.ok (e,tk (sgQ qu) q::r)):DE 8 (tk (sgQ AP) p::(l++(tk (sgQ qu) q::r)))=.ok (e,r):=by
 have hw:TWF (tk (sgQ AP) p::(l++(tk (sgQ qu) q::r))):=jS rfl (kh ho hl (jS rfl hr));rw[zHn hw,Yf]
 show thn (DE 0 (l++(tk (sgQ qu) q::r))) _=_
 rw[h];rfl
def qm{lo hi n p:Int}{r:List ar}(h1:lo<=n)(h2:n<=hi):qk lo hi (tk (wa n) p::r)=.ok (n,r):=by
 unfold qk;rw[aP (show Kq (tk (wa n) p::r)=bg from rfl),aP (show lo<=(hdT (tk (wa n) p::r)).N/\(hdT (tk (wa n) p::r)).N<=hi from⟨h1,h2⟩)];rfl
def zwv{s:ak}{p:Int}{r:List ar}(h:zN s=bg):zfv (tk (kwQ s) p::r)=bg:=by rw[<- h];exact cr _
def ZC{s:ak}{p:Int}{r:List ar}(h:zN s=bg):oq (tk (kwQ s) p::r)=.ok (s,r):=by
 unfold oq;rw[aP (zwv h)];rfl
def K9{a:T3}{w:ak}{p:Int}{r:List ar}(h:isB w (tk a p::r)=bg):wb w (tk a p::r)=.ok ((),r):=by
 unfold wb;rw[aP h];rfl
def OwnP(e:Expr)(ts:List T3)(own:Nat):Prop:=(∀l r,l.map t3=ts->TWF r->NO own r->DE own (l++r)=.ok (e,r)) /\
 (own=1∨own=2∨own=5∨own=6->∀l r,l.map t3=ts->TWF r->NO (own+1) r->DE own (l++r)=LP own e r)
def AtP(e:Expr)(ts:List T3):Prop:=(∀(lv:Nat)(l r:List ar),lv<=8->l.map t3=Ym ts (lvO e.Op) lv->TWF r->NO lv r->DE lv (l++r)=.ok (e,r)) /\
 (∀(L:Nat)(l r:List ar),L=1∨L=2∨L=5∨L=6->l.map t3=Ym ts (lvO e.Op) L->TWF r->NO (L+1) r->DE L (l++r)=LP L e r)
def uD{d:Nat}{e:Expr}(h:OX d e){own:Nat}(he:lvO e.Op=own)(hp:OwnP e (xH d e) own):AtP e (xH d e):=by
 obtain⟨hne,hok,_⟩:=uL h;have hh:=zFl h
 have h8:own<=8:=by have:=zzm e.Op;omega
 have hd:∀{x:List ar}{l r:List ar},l.map t3=xH d e->∀j,j<own->¬(j=0/\isB WL (l++r)=bg)/\¬(j=3/\isB um (l++r)=bg)/\¬(j=7/\isB xa (l++r)=bg):=λ{x l r} hl j hj=>by
  cases hq:xH d e with
  |nil=>exact aU hq hne
  |cons t ts =>
   rw[hq]at hl;obtain⟨p,l',rfl,_⟩:=map_cons hl;obtain⟨h1,h2,h3⟩:=hh t ts hq
   have tx:∀s,isB s (tk t p::l'++r)=bg->t.2.1=s:=λs e=>by
    rw[bP,zE,bn]at e;exact aY e.2
   exact⟨λ⟨e1,e2⟩=>by have:=h1 (tx _ e2);omega,λ⟨e1,e2⟩=>by have:=h2 (tx _ e2);omega,λ⟨e1,e2⟩=>by have:=h3 (tx _ e2);omega⟩
 have plain:∀(lv:Nat)(l r:List ar),lv<=own->l.map t3=xH d e->TWF r->NO lv r->DE lv (l++r)=.ok (e,r):=λlv l r hl hm hr hn =>
  ztn (kh hok hm hr) hr (own-lv) lv own ab h8 (λj _ hj=>hd (x:=l) hm j hj) hn (hp.1 l r hm hr (hn.le hl))
 have all:∀(lv:Nat)(l r:List ar),lv<=8->l.map t3=Ym (xH d e) (lvO e.Op) lv->TWF r->NO lv r->DE lv (l++r)=.ok (e,r):=λlv l r hl hm hr hn=>by
  by_cases hlt:lvO e.Op<lv
  ·rw[Ym,aP hlt]at hm
   obtain⟨p,l1,rfl,hm2⟩:=map_cons hm;obtain⟨l2,l3,rfl,h2,h3⟩:=wh hm2;obtain⟨q,l4,rfl,h4⟩:=map_cons h3;obtain rfl:=map_nil h4
   have e1:tk (sgQ AP) p::(l2++[tk (sgQ qu) q])++r=tk (sgQ AP) p::(l2++(tk (sgQ qu) q::r)):=af
   rw[e1];have hin:=plain 0 l2 (tk (sgQ qu) q::r) (cj _) h2 (jS rfl hr) (zFk rfl)
   exact ztn (jS (a:=sgQ AP) rfl (kh hok h2 (jS (a:=sgQ qu) rfl hr))) hr (8-lv) lv 8 ab aq
    (λj _ _=>⟨λhh=>aU hh.2 (by rw[zE];decide),λhh=>aU hh.2 (by rw[zE];decide),λhh=>aU hh.2 (by rw[zE];decide)⟩) hn (zZx hok h2 hr hin)
  ·rw[Ym,aO hlt]at hm
   exact plain lv l r ab hm hr hn
 refine⟨all,λL l r hL hm hr hn=>?_⟩;by_cases hlo:lvO e.Op=L
 ·have e1:own=L:=ab
  subst e1;rw[Ym,aO ab]at hm;exact hp.2 hL l r hm hr hn
 ·have e1:Ym (xH d e) (lvO e.Op) L=Ym (xH d e) (lvO e.Op) ((L+1:Nat):Int):=by
   unfold Ym;by_cases hlt:lvO e.Op<L
   ·rw[aP hlt,aP ab]
   ·rw[aO hlt,aO ab]
  have hx:TWF (l++r):=kh (Yp hok) hm hr;rw[zgi ab hx,aO ab,aO ab,aO ab,all (L+1) l r ab (by rw[hm,e1]) hr hn];rfl
def zPa{op:Int}(h:zwo op=bg){p:Int}{r:List ar}(j:Nat):zmn j (tk (opQ op) p::r)=if lvO op=(j:Int)then bc op else bh:=by
 have:∃o,opR (tk (opQ op) p::r)=bc o/\o.form=lvO op/\o.op=op:=by
  rcases ze5 h with rfl|rfl|rfl|rfl|rfl|rfl|rfl|rfl|rfl|rfl<;>exact⟨_,rfl,rfl,rfl⟩
 obtain⟨o,h1,h2,h3⟩:=this;rw[zmn,h1];dsimp only;rw[h2,h3]
def zPb{op:Int}(h:zwo op=bg){p:Int}{r:List ar}{lv:Nat}(hl:lvO op<lv):NO lv (tk (opQ op) p::r):=λj hj=>by
 rw[zPa h,aO ab]
def zFm{d:Nat}{e:Expr}(h:OX d e):AtP e (xH d e):=by
 induction h with
 |@num d n h1 h2 =>
  refine uD (own:=8) (.num h1 h2) rfl ⟨λl r hm hr hn=>?_,λh=>ab⟩;obtain⟨p,l,rfl,h⟩:=map_cons (show l.map t3=[wa n] from hm);obtain rfl:=map_nil h
  show DE 8 (tk (wa n) p::r)=_
  rw[zHn (jS (zb3 h1 h2) hr),Yf,aP (show Kq (tk (wa n) p::r)=bg from rfl)];rw[qm h1 h2];rfl
 |@name d s hs =>
  refine uD (own:=8) (.name hs) rfl ⟨λl r hm hr hn=>?_,λh=>ab⟩;obtain⟨p,l,rfl,h⟩:=map_cons (show l.map t3=[kwQ s] from hm);obtain rfl:=map_nil h
  have no:∀w,zN w=bd->¬isB w (tk (kwQ s) p::r)=bg:=λw hw e=>by
   rw[zE,bn]at e;exact ztm hs hw (aY e.2)
  show DE 8 (tk (kwQ s) p::r)=_
  rw[zHn (jS (Yo hs) hr),Yf,aO (show ¬Kq (tk (kwQ s) p::r)=bg from λe=>by cases e),aO (no _ ah),aO (no _ ah),aO (no _ ah)];rw[ZC hs];rfl
 |@table d s k h1 h2 =>
  refine uD (own:=8) (.table h1 h2) rfl ⟨λl r hm hr hn=>?_,λh=>ab⟩;obtain⟨p,l,rfl,h⟩:=map_cons (show l.map t3=[kwQ ym,kwQ s,kwQ k] from hm);obtain⟨p2,l2,rfl,ha⟩:=map_cons h;obtain⟨p3,l3,rfl,hb⟩:=map_cons ha;obtain rfl:=map_nil hb
  show DE 8 (tk (kwQ ym) p::tk (kwQ s) p2::tk (kwQ k) p3::r)=_
  rw[zHn (jS (a:=kwQ ym) rfl (jS (Yo h1) (jS (Yo h2) hr))),Yf,aO (show ¬Kq (tk (kwQ ym) p::tk (kwQ s) p2::tk (kwQ k) p3::r)=bg from λe=>by cases e),aP (by rw[zE];decide)]
  show thn (oq (tk (kwQ s) p2::tk (kwQ k) p3::r)) _=_
  rw[ZC h1]
  show thn (oq (tk (kwQ k) p3::r)) _=_
  rw[ZC h2];rfl
 |@zone d s hs =>
  refine uD (own:=8) (.zone hs) rfl ⟨λl r hm hr hn=>?_,λh=>ab⟩;obtain⟨p,l,rfl,h⟩:=map_cons (show l.map t3=[kwQ yR,kwQ s] from hm);obtain⟨p2,l2,rfl,ha⟩:=map_cons h;obtain rfl:=map_nil ha
  show DE 8 (tk (kwQ yR) p::tk (kwQ s) p2::r)=_
  rw[zHn (jS (a:=kwQ yR) rfl (jS (Yo hs) hr)),Yf,aO (show ¬Kq (tk (kwQ yR) p::tk (kwQ s) p2::r)=bg from λe=>by cases e),aO (by rw[zE];decide),aP (by rw[zE];decide)]
  show thn (oq (tk (kwQ s) p2::r)) _=_
  rw[ZC hs];rfl
 |@neg d a ha ia =>
  refine uD (own:=7) (.neg ha) rfl ⟨λl r hm hr hn=>?_,λh=>ab⟩;obtain⟨p,l,rfl,h⟩:=map_cons (show l.map t3=sgQ xa::Ym (xH d a) (lvO a.Op) 7 from hm)
  show DE 7 (tk (sgQ xa) p::(l++r))=_
  have hw:=jS (a:=sgQ xa) (p:=p) rfl (kh (Yp (uL ha).2.1) h hr);rw[zgi ab hw,aO ab,aO ab,aP ⟨rfl,by rw[zE];decide⟩]
  show thn (DE 7 (l++r)) _=_
  rw[ia.1 7 l r ab h hr hn];rfl
 |@not d a ha ia =>
  refine uD (own:=3) (.not ha) rfl ⟨λl r hm hr hn=>?_,λh=>ab⟩;obtain⟨p,l,rfl,h⟩:=map_cons (show l.map t3=kwQ um::Ym (xH d a) (lvO a.Op) 3 from hm)
  show DE 3 (tk (kwQ um) p::(l++r))=_
  have hw:=jS (a:=kwQ um) (p:=p) rfl (kh (Yp (uL ha).2.1) h hr);rw[zgi ab hw,aO ab,aP ⟨rfl,by rw[zE];decide⟩]
  show thn (DE 3 (l++r)) _=_
  rw[ia.1 3 l r ab h hr hn];rfl
 |@cond d a b c ha hb hc ia ib ic =>
  refine uD (own:=0) (.cond ha hb hc) rfl ⟨λl r hm hr hn=>?_,λh=>ab⟩;obtain⟨p,l,rfl,h⟩:=map_cons (show l.map t3=kwQ WL::(xH d a++(kwQ uR::(xH d b++(kwQ xh::xH d c)))) from hm);obtain⟨l1,m1,rfl,h1,q1⟩:=wh h;obtain⟨p2,m2,rfl,q2⟩:=map_cons q1;obtain⟨l2,m3,rfl,h2,q3⟩:=wh q2;obtain⟨p3,l,rfl,h3⟩:=map_cons q3
  have e1:tk (kwQ WL) p::(l1++tk (kwQ uR) p2::(l2++tk (kwQ xh) p3::l))++r=tk (kwQ WL) p::(l1++(tk (kwQ uR) p2::(l2++(tk (kwQ xh) p3::(l++r))))):=af
  rw[e1];have w3:=jS (a:=kwQ xh) (p:=p3) rfl (kh (uL hc).2.1 h3 hr);have w2:=jS (a:=kwQ uR) (p:=p2) rfl (kh (uL hb).2.1 h2 w3);have w1:=jS (a:=kwQ WL) (p:=p) rfl (kh (uL ha).2.1 h1 w2);rw[zgi ab w1,aP ⟨rfl,by rw[zE];decide⟩,ifS]
  show thn (DE 0 (l1++(tk (kwQ uR) p2::(l2++(tk (kwQ xh) p3::(l++r)))))) _=_
  rw[ia.1 0 l1 _ ab (by rw[h1];exact zZp.symm) w2 (zFk rfl)]
  show thn (DE 0 (l2++(tk (kwQ xh) p3::(l++r)))) _=_
  rw[ib.1 0 l2 _ ab (by rw[h2];exact zZp.symm) w3 (zFk rfl)]
  show thn (DE 0 (l++r)) _=_
  rw[ic.1 0 l r ab (by rw[h3];exact zZp.symm) hr hn];rfl
 |@bin d op a b ho ha hb ia ib =>
  have key:∀{own:Nat},lvO op=own->∀l r,l.map t3=xH (d+1) (Zu op a b)->TWF r->NO (own+1) r->(own=4->DE own (l++r)=.ok (Zu op a b,r))/\(own=1∨own=2∨own=5∨own=6->DE own (l++r)=LP own (Zu op a b) r):=λ{own} hw l r hm hr hn=>by
   rw[Yn ho]at hm;obtain⟨l1,l,rfl,h1,h⟩:=wh hm;obtain⟨p,l,rfl,h2⟩:=map_cons h
   have e1:l1++tk (opQ op) p::l++r=l1++(tk (opQ op) p::(l++r)):=af
   rw[e1];have w2:TWF (l++r):=kh (Yp (uL hb).2.1) h2 hr;have w1:TWF (tk (opQ op) p::(l++r)):=jS (zO8 ho) w2;have w0:TWF (l1++(tk (opQ op) p::(l++r))):=kh (Yp (uL ha).2.1) h1 w1
   have h8:own<=6:=by
    have:lvO op<=6:=by rcases ze5 ho with rfl|rfl|rfl|rfl|rfl|rfl|rfl|rfl|rfl|rfl<;>decide
    omega
   have hB:DE (own+1) (l++r)=.ok (b,r):=ib.1 (own+1) l r ab (by rw[h2,hw];rfl) hr hn
   have hLP:LP own a (tk (opQ op) p::(l++r))=if own=4 then .ok (Zu op a b,r)else LP own (Zu op a b) r:=by
    rw[zEu w1,zPa ho,aP hw]
    show thn (DE (own+1) (l++r)) _=_
    rw[hB];rfl
   constructor
   ·rintro rfl
    rw[zgi ab w0,aO ab,aO ab,aO ab,ia.1 5 l1 _ ab (by rw[h1,zls,aP (show lvO op=4 from hw)];rfl) w1 (zPb ho ab)]
    show LP 4 a _=_
    rw[hLP,aP rfl]
   ·intro hc
    rw[ia.2 own l1 _ hc (by rw[h1,zls,aO ab,hw]) w1 (zPb ho ab),hLP,aO ab]
  obtain⟨own,hw⟩:∃own:Nat,lvO op=own:=⟨(lvO op).toNat,by have:=zzm op;omega⟩
  have hc:own=4∨own=1∨own=2∨own=5∨own=6:=by
   have:lvO op=4∨lvO op=1∨lvO op=2∨lvO op=5∨lvO op=6:=by rcases ze5 ho with rfl|rfl|rfl|rfl|rfl|rfl|rfl|rfl|rfl|rfl<;>decide
   omega
  refine uD (own:=own) (.bin ho ha hb) hw ⟨λl r hm hr hn=>?_,λh l r hm hr hn=>(key hw l r hm hr hn).2 h⟩;obtain⟨k1,k2⟩:=key hw l r hm hr (hn.le (Nat.le_succ _))
  rcases hc with h|h
  ·exact k1 h
  ·rw[k2 h]
   exact ZB hr (hn own aq)
def zPc{d:Nat}{e:Expr}(h:OX d e):YJ e<=d:=by
 induction h with
 |num _ _=>simp[YJ,zth]
 |name _=>simp[YJ,zth]
 |table _ _=>simp[YJ,zth]
 |zone _=>simp[YJ,zth]
 |neg _ ih=>simp only[YJ,zth];omega
 |not _ ih=>simp only[YJ,zth];omega
 |cond _ _ _ i1 i2 i3=>simp only[YJ,zth];omega
 |bin _ _ _ i1 i2=>unfold Zu;simp only[YJ,zth];omega
def lzQ:(∀a b:ak,(a++b).length=a.length+b.length)/\zhl.length=2/\zhj.length=2/\t__.length=1/\wk.length=6/\qv.length=5/\Ae.length=3/\yQ.length=6/\yP.length=6/\WM.length=4/\Kc.length=2:=⟨λ_ _=>List.length_append,rfl,rfl,rfl,rfl,rfl,rfl,rfl,rfl,rfl,rfl⟩
def Hc{t:ak}{a b:Int}(h:a<b):atS t a b=zhl++(t++zhj):=aP h
def ou{t:ak}{a b:Int}(h:¬a<b):atS t a b=t:=aO h
def l28:zhl.length=2:=rfl
def l29:zhj.length=2:=rfl
def lsp:t__.length=1:=rfl
def ltb:wk.length=6:=rfl
def lzn:qv.length=5:=rfl
def lif:Ae.length=3:=rfl
def lth:yQ.length=6:=rfl
def lel:yP.length=6:=rfl
def lnt:WM.length=4:=rfl
def lmi:Kc.length=2:=rfl
def i29:zhj=[32,41]:=rfl
def qQ{e:Expr}{i:Nat}(h:i<e.Args.length):idx e.Args (i:Int)=bc (xI e i):=by
 refine z7 ?_;unfold xI;rw[cg,bz h];rfl
def zFn{e:Expr}{i:Nat}(h:i<e.Args.length):xI e i∈e.Args:=by
 unfold xI;rw[cg,bz h];exact dG h
def WrOK(RK:Nat)(d:Nat)(e:Expr):Prop:=∀i,i<e.Args.length->∀(b:ak)(f:Int),b.length+(atS (zQ d (xI e i)) (lvO (xI e i).Op) f).length<=140737488355328->wg RK b (xI e i) f=bc (b++atS (zQ d (xI e i)) (lvO (xI e i).Op) f)
def zLh{RK d:Nat}{e:Expr}(ih:WrOK RK d e)(hl:e.Args.length=3){b:ak}(hb:b.length+(Ae++(atS (zQ d (xI e 0)) (lvO (xI e 0).Op) 0++(yQ++(atS (zQ d (xI e 1)) (lvO (xI e 1).Op) 0++(yP++atS (zQ d (xI e 2)) (lvO (xI e 2).Op) 0))))).length<=140737488355328)(c1 c2:Int)(c3 c4:ak):
  kv (wg RK) ((3:Nat):Int) c1 c2 c3 c4 e.Args ([Ae,yQ,yP]:List ak) KK (b,0)=bc (b++(Ae++(atS (zQ d (xI e 0)) (lvO (xI e 0).Op) 0++(yQ++(atS (zQ d (xI e 1)) (lvO (xI e 1).Op) 0++(yP++atS (zQ d (xI e 2)) (lvO (xI e 2).Op) 0)))))):=by
 obtain⟨k,hk⟩:∃k,KK=k+4:=⟨KK-4,by have:=vJ (n:=100) ab;omega⟩
 simp only[laQ,lif,lth,lel]at hb;have i0:idx e.Args 0=bc (xI e 0):=qQ (i:=0) ab;have i1:idx e.Args 1=bc (xI e 1):=qQ (i:=1) ab;have i2:idx e.Args 2=bc (xI e 2):=qQ (i:=2) ab;rw[hk,kv];simp only[show decide ((0:Int)<((3:Nat):Int))=bg from rfl,ctQ];rw[zB ae,bsQ,show(([Ae,yQ,yP]:List ak))[(bX 0)]?=bc Ae from rfl,bsQ,yw (by rw[lif];omega),bsQ,i0,bsQ];simp only[];rw[ih 0 ab _ _ (by simp only[laQ,lif];omega),bsQ,show w64 (0+1)=1 from rfl,kv];simp only[show decide ((1:Int)<((3:Nat):Int))=bg from rfl,ctQ];rw[zB ae,bsQ,show(([Ae,yQ,yP]:List ak))[(bX 1)]?=bc yQ from rfl,bsQ,yw (by simp only[laQ,lif,lth];omega),bsQ,i1,bsQ];simp only[];rw[ih 1 ab _ _ (by simp only[laQ,lif,lth];omega),bsQ,show w64 (1+1)=2 from rfl,kv];simp only[show decide ((2:Int)<((3:Nat):Int))=bg from rfl,ctQ];rw[zB ae,bsQ,show(([Ae,yQ,yP]:List ak))[(bX 2)]?=bc yP from rfl,bsQ,yw (by simp only[laQ,lif,lth,lel];omega),bsQ,i2,bsQ];simp only[];rw[ih 2 ab _ _ (by simp only[laQ,lif,lth,lel];omega),bsQ,show w64 (2+1)=3 from rfl,kv];simp only[show decide ((3:Int)<((3:Nat):Int))=bd from rfl,cf,asc]
def zLi{RK d:Nat}{e:Expr}(ih:WrOK RK d e)(hl:e.Args.length=3){b:ak}(hb:b.length+(Ae++(atS (zQ d (xI e 0)) (lvO (xI e 0).Op) 0++(yQ++(atS (zQ d (xI e 1)) (lvO (xI e 1).Op) 0++(yP++atS (zQ d (xI e 2)) (lvO (xI e 2).Op) 0))))).length<=140737488355328)(c1 c2:Int)(c3 c4:ak):
  kz (wg RK) ((3:Nat):Int) c1 c2 c3 c4 e.Args ([Ae,yQ,yP]:List ak) KK (b,0)=bc (b++(Ae++(atS (zQ d (xI e 0)) (lvO (xI e 0).Op) 0++(yQ++(atS (zQ d (xI e 1)) (lvO (xI e 1).Op) 0++(yP++atS (zQ d (xI e 2)) (lvO (xI e 2).Op) 0)))))):=by
 obtain⟨k,hk⟩:∃k,KK=k+4:=⟨KK-4,by have:=vJ (n:=100) ab;omega⟩
 simp only[laQ,lif,lth,lel]at hb;have i0:idx e.Args 0=bc (xI e 0):=qQ (i:=0) ab;have i1:idx e.Args 1=bc (xI e 1):=qQ (i:=1) ab;have i2:idx e.Args 2=bc (xI e 2):=qQ (i:=2) ab;rw[hk,kz];simp only[show decide ((0:Int)<((3:Nat):Int))=bg from rfl,ctQ];rw[zB ae,bsQ,show(([Ae,yQ,yP]:List ak))[(bX 0)]?=bc Ae from rfl,bsQ,yw (by rw[lif];omega),bsQ,i0,bsQ];simp only[];rw[ih 0 ab _ _ (by simp only[laQ,lif];omega),bsQ,show w64 (0+1)=1 from rfl,kz];simp only[show decide ((1:Int)<((3:Nat):Int))=bg from rfl,ctQ];rw[zB ae,bsQ,show(([Ae,yQ,yP]:List ak))[(bX 1)]?=bc yQ from rfl,bsQ,yw (by simp only[laQ,lif,lth];omega),bsQ,i1,bsQ];simp only[];rw[ih 1 ab _ _ (by simp only[laQ,lif,lth];omega),bsQ,show w64 (1+1)=2 from rfl,kz];simp only[show decide ((2:Int)<((3:Nat):Int))=bg from rfl,ctQ];rw[zB ae,bsQ,show(([Ae,yQ,yP]:List ak))[(bX 2)]?=bc yP from rfl,bsQ,yw (by simp only[laQ,lif,lth,lel];omega),bsQ,i2,bsQ];simp only[];rw[ih 2 ab _ _ (by simp only[laQ,lif,lth,lel];omega),bsQ,show w64 (2+1)=3 from rfl,kz];simp only[show decide ((3:Int)<((3:Nat):Int))=bd from rfl,cf,asc]
def zzn{RK d:Nat}{e:Expr}{b:ak}{f:Int}(hh:wA e=bg)(ih:WrOK RK d e)(hb:b.length+(atS (zQ (d+1) e) (lvO e.Op) f).length<=140737488355328):wg (RK+1) b e f=bc (b++atS (zQ (d+1) e) (lvO e.Op) f):=by
 obtain⟨⟨h0,h1,hl⟩,⟨n0,n1⟩,hs,hk,_⟩:=ZA hh;have hsg:=zFd e.Op;have hlv:=zzm e.Op;rw[wg,xg,zFc h0 h1];simp only[bsQ];by_cases o0:e.Op=0
 ·have hT:zQ (d+1) e=Lib.decDigits e.N.toNat:=by rw[zQ,aP o0]
  rw[hT]at hb ⊢;have hd:=ze4 (n:=e.N.toNat) ab;by_cases hf:lvO e.Op<f
  ·rw[Hc hf]at hb ⊢
   try simp only[lzQ]at hb
   simp only[dt hf,ctQ,cf,dt o0,];rw[yw (by (try simp only[lzQ]);omega),bsQ]
   try simp only[]
   rw[zlr n0 ab,bsQ]
   try simp only[]
   rw[yw (by (try simp only[lzQ]);omega),bsQ]
   try simp only[]
   rw[K8 (by (try simp only[lzQ]);omega),bsQ]
   try simp only[]
   try simp only[asc,i29]
  ·rw[ou hf]at hb ⊢
   try simp only[lzQ]at hb
   simp only[df hf,ctQ,cf,dt o0,];rw[zlr n0 ab,bsQ]
   try simp only[]
   rw[yw (by (try simp only[lzQ]);omega),bsQ]
   try simp only[]
   try simp only[asc,i29]
 by_cases o1:e.Op=1
 ·have hT:zQ (d+1) e=e.S:=by rw[zQ,aO o0,aP o1]
  rw[hT]at hb ⊢;by_cases hf:lvO e.Op<f
  ·rw[Hc hf]at hb ⊢
   try simp only[lzQ]at hb
   simp only[dt hf,ctQ,cf,df o0,dt o1,];rw[yw (by (try simp only[lzQ]);omega),bsQ]
   try simp only[]
   rw[yw (by (try simp only[lzQ]);omega),bsQ]
   try simp only[]
   rw[K8 (by (try simp only[lzQ]);omega),bsQ]
   try simp only[]
   try simp only[asc,i29]
  ·rw[ou hf]at hb ⊢
   try simp only[lzQ]at hb
   simp only[df hf,ctQ,cf,df o0,dt o1,];rw[yw (by (try simp only[lzQ]);omega),bsQ]
   try simp only[]
   try simp only[asc,i29]
 by_cases o2:e.Op=2
 ·have hT:zQ (d+1) e=wk++(e.S++(t__++e.Key)):=by rw[zQ,aO o0,aO o1,aP o2]
  rw[hT]at hb ⊢;by_cases hf:lvO e.Op<f
  ·rw[Hc hf]at hb ⊢
   try simp only[lzQ]at hb
   simp only[dt hf,ctQ,cf,df o0,df o1,dt o2,];rw[yw (by (try simp only[lzQ]);omega),bsQ]
   try simp only[]
   rw[zB (by (try simp only[lzQ]);omega),bsQ]
   try simp only[]
   rw[zB (by (try simp only[lzQ]);omega),bsQ]
   try simp only[]
   rw[zB (by (try simp only[lzQ]);omega),bsQ]
   try simp only[]
   rw[yw (by (try simp only[lzQ]);omega),bsQ]
   try simp only[]
   rw[K8 (by (try simp only[lzQ]);omega),bsQ]
   try simp only[]
   try simp only[asc,i29]
  ·rw[ou hf]at hb ⊢
   try simp only[lzQ]at hb
   simp only[df hf,ctQ,cf,df o0,df o1,dt o2,];rw[zB (by (try simp only[lzQ]);omega),bsQ]
   try simp only[]
   rw[zB (by (try simp only[lzQ]);omega),bsQ]
   try simp only[]
   rw[zB (by (try simp only[lzQ]);omega),bsQ]
   try simp only[]
   rw[yw (by (try simp only[lzQ]);omega),bsQ]
   try simp only[]
   try simp only[asc,i29]
 by_cases o3:e.Op=3
 ·have hT:zQ (d+1) e=qv++e.S:=by rw[zQ,aO o0,aO o1,aO o2,aP o3]
  rw[hT]at hb ⊢;by_cases hf:lvO e.Op<f
  ·rw[Hc hf]at hb ⊢
   try simp only[lzQ]at hb
   simp only[dt hf,ctQ,cf,df o0,df o1,df o2,dt o3,];rw[yw (by (try simp only[lzQ]);omega),bsQ]
   try simp only[]
   rw[zB (by (try simp only[lzQ]);omega),bsQ]
   try simp only[]
   rw[yw (by (try simp only[lzQ]);omega),bsQ]
   try simp only[]
   rw[K8 (by (try simp only[lzQ]);omega),bsQ]
   try simp only[]
   try simp only[asc,i29]
  ·rw[ou hf]at hb ⊢
   try simp only[lzQ]at hb
   simp only[df hf,ctQ,cf,df o0,df o1,df o2,dt o3,];rw[zB (by (try simp only[lzQ]);omega),bsQ]
   try simp only[]
   rw[yw (by (try simp only[lzQ]);omega),bsQ]
   try simp only[]
   try simp only[asc,i29]
 by_cases o16:e.Op=16
 ·have hT:zQ (d+1) e=Ae++(atS (zQ d (xI e 0)) (lvO (xI e 0).Op) 0++(yQ++(atS (zQ d (xI e 1)) (lvO (xI e 1).Op) 0++(yP++atS (zQ d (xI e 2)) (lvO (xI e 2).Op) 0)))):=by rw[zQ,aO o0,aO o1,aO o2,aO o3,aP o16]
  rw[hT]at hb ⊢
  have hn:e.Args.length=3:=by rw[o16]at hl;have:qP 16=3:=rfl;omega
  have i0:idx e.Args 0=bc (xI e 0):=qQ (i:=0) ab;have i1:idx e.Args 1=bc (xI e 1):=qQ (i:=1) ab;have i2:idx e.Args 2=bc (xI e 2):=qQ (i:=2) ab;by_cases hf:lvO e.Op<f
  ·rw[Hc hf]at hb ⊢
   try simp only[lzQ]at hb
   simp only[dt hf,ctQ,cf,df o0,df o1,df o2,df o3,dt o16,];rw[yw (by (try simp only[lzQ]);omega),bsQ]
   try simp only[]
   rw[zLh ih hn (by (try simp only[lzQ]);omega),bsQ]
   try simp only[]
   rw[K8 (by (try simp only[lzQ]);omega),bsQ]
   try simp only[]
   try simp only[asc,i29]
  ·rw[ou hf]at hb ⊢
   try simp only[lzQ]at hb
   simp only[df hf,ctQ,cf,df o0,df o1,df o2,df o3,dt o16,];rw[zLi ih hn (by (try simp only[lzQ]);omega),bsQ]
   try simp only[]
   try simp only[asc,i29]
 by_cases o15:e.Op=15
 ·have hT:zQ (d+1) e=WM++atS (zQ d (xI e 0)) (lvO (xI e 0).Op) 3:=by rw[zQ,aO o0,aO o1,aO o2,aO o3,aO o16,aP o15]
  rw[hT]at hb ⊢
  have hn:e.Args.length=1:=by rw[o15]at hl;have:qP 15=1:=rfl;omega
  have i0:idx e.Args 0=bc (xI e 0):=qQ (i:=0) ab
  have hv:lvO e.Op=3:=by rw[o15];rfl
  by_cases hf:lvO e.Op<f
  ·rw[Hc hf]at hb ⊢
   try simp only[lzQ]at hb
   simp only[dt hf,ctQ,cf,df o0,df o1,df o2,df o3,df o16,dt o15,];rw[yw (by (try simp only[lzQ]);omega),bsQ]
   try simp only[]
   rw[yw (by (try simp only[lzQ]);omega),bsQ]
   try simp only[]
   rw[i0,bsQ]
   try simp only[]
   simp only[hv];rw[ih 0 ab _ _ (by (try simp only[lzQ]);omega),bsQ]
   try simp only[]
   rw[K8 (by (try simp only[lzQ]);omega),bsQ]
   try simp only[]
   try simp only[asc,i29]
  ·rw[ou hf]at hb ⊢
   try simp only[lzQ]at hb
   simp only[df hf,ctQ,cf,df o0,df o1,df o2,df o3,df o16,dt o15,];rw[yw (by (try simp only[lzQ]);omega),bsQ]
   try simp only[]
   rw[i0,bsQ]
   try simp only[]
   simp only[hv];rw[ih 0 ab _ _ (by (try simp only[lzQ]);omega),bsQ]
   try simp only[]
   try simp only[asc,i29]
 by_cases o9:e.Op=9
 ·have hT:zQ (d+1) e=Kc++atS (zQ d (xI e 0)) (lvO (xI e 0).Op) 7:=by rw[zQ,aO o0,aO o1,aO o2,aO o3,aO o16,aO o15,aP o9]
  rw[hT]at hb ⊢
  have hn:e.Args.length=1:=by rw[o9]at hl;have:qP 9=1:=rfl;omega
  have i0:idx e.Args 0=bc (xI e 0):=qQ (i:=0) ab
  have hv:lvO e.Op=7:=by rw[o9];rfl
  by_cases hf:lvO e.Op<f
  ·rw[Hc hf]at hb ⊢
   try simp only[lzQ]at hb
   simp only[dt hf,ctQ,cf,df o0,df o1,df o2,df o3,df o16,df o15,dt o9,];rw[yw (by (try simp only[lzQ]);omega),bsQ]
   try simp only[]
   rw[yw (by (try simp only[lzQ]);omega),bsQ]
   try simp only[]
   rw[i0,bsQ]
   try simp only[]
   simp only[hv];rw[ih 0 ab _ _ (by (try simp only[lzQ]);omega),bsQ]
   try simp only[]
   rw[K8 (by (try simp only[lzQ]);omega),bsQ]
   try simp only[]
   try simp only[asc,i29]
  ·rw[ou hf]at hb ⊢
   try simp only[lzQ]at hb
   simp only[df hf,ctQ,cf,df o0,df o1,df o2,df o3,df o16,df o15,dt o9,];rw[yw (by (try simp only[lzQ]);omega),bsQ]
   try simp only[]
   rw[i0,bsQ]
   try simp only[]
   simp only[hv];rw[ih 0 ab _ _ (by (try simp only[lzQ]);omega),bsQ]
   try simp only[]
   try simp only[asc,i29]
 ·have hT:zQ (d+1) e=atS (zQ d (xI e 0)) (lvO (xI e 0).Op) (if lvO e.Op=4 then 5 else lvO e.Op)++(t__++(sgO e.Op++(t__++atS (zQ d (xI e 1)) (lvO (xI e 1).Op) (lvO e.Op+1)))):=by rw[zQ,aO o0,aO o1,aO o2,aO o3,aO o16,aO o15,aO o9]
  rw[hT]at hb ⊢
  have hn:e.Args.length=2:=by
   have:qP e.Op=2:=by unfold qP;rw[aO ab,aO ab,aO o16]
   omega
  have hbin:zwo e.Op=bg:=by unfold zwo;exact dt ab
  have i0:idx e.Args 0=bc (xI e 0):=qQ (i:=0) ab;have i1:idx e.Args 1=bc (xI e 1):=qQ (i:=1) ab
  have hx:(bif (decide (lvO e.Op=4))then bc (lvO e.Op+1)else bc (lvO e.Op))=bc (if lvO e.Op=4 then 5 else lvO e.Op):=by
   by_cases h4:lvO e.Op=4
   ·rw[dt h4,aP h4,h4];rfl
   ·rw[df h4,aO h4];rfl
  have hw:w64 (lvO e.Op+1)=lvO e.Op+1:=xY ab ab;by_cases hf:lvO e.Op<f
  ·rw[Hc hf]at hb ⊢
   try simp only[lzQ]at hb
   simp only[dt hf,ctQ,cf,df o0,df o1,df o2,df o3,df o16,df o15,df o9,hbin,hx,hw,bsQ];rw[yw (by (try simp only[lzQ]);omega),bsQ]
   try simp only[]
   rw[i0,bsQ]
   try simp only[]
   rw[ih 0 ab _ _ (by (try simp only[lzQ]);omega),bsQ]
   try simp only[]
   rw[zB (by (try simp only[lzQ]);omega),bsQ]
   try simp only[]
   rw[zB (by (try simp only[lzQ]);omega),bsQ]
   try simp only[]
   rw[yw (by (try simp only[lzQ]);omega),bsQ]
   try simp only[]
   rw[i1,bsQ]
   try simp only[]
   rw[ih 1 ab _ _ (by (try simp only[lzQ]);omega),bsQ]
   try simp only[]
   rw[K8 (by (try simp only[lzQ]);omega),bsQ]
   try simp only[]
   try simp only[asc,i29]
  ·rw[ou hf]at hb ⊢
   try simp only[lzQ]at hb
   simp only[df hf,ctQ,cf,df o0,df o1,df o2,df o3,df o16,df o15,df o9,hbin,hx,hw,bsQ];rw[i0,bsQ]
   try simp only[]
   rw[ih 0 ab _ _ (by (try simp only[lzQ]);omega),bsQ]
   try simp only[]
   rw[zB (by (try simp only[lzQ]);omega),bsQ]
   try simp only[]
   rw[zB (by (try simp only[lzQ]);omega),bsQ]
   try simp only[]
   rw[yw (by (try simp only[lzQ]);omega),bsQ]
   try simp only[]
   rw[i1,bsQ]
   try simp only[]
   rw[ih 1 ab _ _ (by (try simp only[lzQ]);omega),bsQ]
   try simp only[]
   try simp only[asc,i29]
def zww:∀(d:Nat)(e:Expr)(K:Nat)(b:ak)(f:Int),okE d e=bg->d<K->b.length+(atS (zQ d e) (lvO e.Op) f).length<=140737488355328->wg K b e f=bc (b++atS (zQ d e) (lvO e.Op) f)
 |0,e,K,b,f,h,_,_=>by cases h
 |d+1,e,K,b,f,h,hK,hb=>by
  obtain⟨K,rfl⟩:∃k,K=k+1:=⟨K-1,ab⟩
  rw[okE,bn]at h;exact zzn h.1 (λi hi b f hb=>zww d _ K b f (bj.1 h.2 _ (zFn hi)) ab hb) hb
def zLj{d:Nat}(h:d<=12):100*4 ^ d<=1677721600:=by
 have:4 ^ d<=4 ^ 12:=eM ab h;have:(4:Nat) ^ 12=16777216:=rfl;omega
def at_root{d:Nat}{e:Expr}:atS (zQ d e) (lvO e.Op) 0=zQ d e:=ou (by have:=zzm e.Op;omega)
def zzo{e:Expr}(h:okE 12 e=bg):wg KK [] e 0=bc (zQ 12 e):=by
 have hl:=zwp 12 e h;have hp:=zLj (d:=12) ab;have:=zww 12 e KK [] 0 h (vJ ab) (by rw[at_root];simp only[bI];omega);rw[at_root,bN]at this;exact this
def TokN:Int⊕ak->Prop
 |.inl n=>AG n
 |.inr _=>True
def zLk{s:ak}(h:s.length<=140737488355328):(aN ((bif (!(decide (s=([]:ak))))then(idx s (w64 (((bf s:Nat):Int)-1))).bind λx6=>bc (!(decide (((x6.toNat:Nat):Int)=10)))else bc bd)) λx5=>(bif x5 then(JM s 32).bind λx7=>bc x7 else bc s))=(grd ((ztj s).length<=140737488355328)).bind λ_=>bc (ztj s):=by
 cases s with
 |nil=>rfl
 |cons c r =>
  have hn:¬(c::r)=[]:=af
  rw[df hn,cK,ctQ,xY (by simp only[lc];omega) ab,show((((c::r).length:Nat):Int)-1)=(((c::r).length-1:Nat):Int) by simp only[lc];omega];have hg:(c::r)[(c::r).length-1]?=(c::r).getLast?:=(List.getLast?_eq_getElem? ..).symm
  obtain⟨a,ha⟩:∃a,(c::r).getLast?=bc a:=by
   cases h:(c::r).getLast? with
   |none=>exact aU (gC.1 h) hn
   |some a=>exact⟨a,rfl⟩
  rw[z7 (hg.trans ha),bsQ,bsQ];unfold ztj;rw[show(c::r).isEmpty=bd from rfl,fH,ha]
  have e:decide (((a.toNat:Nat):Int)=10)=decide (bc a=bc (10:UInt8)):=yE (by
   constructor
   ·intro h;rw[fL.1 (show a.toNat=(10:UInt8).toNat by show a.toNat=10;omega)]
   ·intro h;cases h;rfl)
  rw[e]
  cases hd:decide (bc a=bc (10:UInt8))with
  |true =>
   simp only[bW,cf,ctQ];rw[zB h];rfl
  |false =>
   simp only[cK,cf,ctQ];unfold JM zvc
   have:((0:Int)<=32/\(32:Int)<256/\(c::r).length+1<=140737488355328)↔((c::r)++[32]).length<=140737488355328:=by simp only[laQ,eF];omega
   by_cases hl:((c::r)++[32]).length<=140737488355328
   ·rw[zB (this.2 hl),zB hl];rfl
   ·unfold grd
    rw[aO hl,aO (λh=>hl (this.1 h))];rfl
def zTv(s:ak):s.length<=(ztj s).length:=by
 unfold ztj
 cases s.isEmpty||decide (s.getLast?=bc 10)
 ·simp only[cf,laQ];omega
 ·exact dj _
def zFo(s:ak)(x:Int⊕ak):s.length<=(zln s x).length:=by
 unfold zln;have:=zTv s;rw[laQ];omega
def zwx:∀(l:List (Int⊕ak))(s:ak),s.length<=(l.foldl zln s).length
 |[],s=>dj _
 |x::l,s=>by
  rw[dv];have:=zFo s x;have:=zwx l (zln s x);omega
def zZy(l:List (Int⊕ak))(hs:l.length<4611686018427387904)(hN:∀x∈l,TokN x):∀(r:List (Int⊕ak))(i K:Nat)(s:ak),l.drop i=r->i<=l.length->r.length<K->(r.foldl zln s).length<=140737488355328 ->
  oT l (bf l:Nat) K (s,(i:Int))=bc (r.foldl zln s)
 |[],i,K,s,hr,hi,hK,hb=>by
  obtain⟨K,rfl⟩:∃k,K=k+1:=⟨K-1,by simp at hK;omega⟩
  have:=drop_nil hr hi;subst this;rw[oT];simp only[jR,cf,gV]
 |x::r,i,K,s,hr,hi,hK,hb=>by
  obtain⟨K,rfl⟩:∃k,K=k+1:=⟨K-1,by simp at hK;omega⟩
  obtain⟨h1,h2,h3⟩:=xA hr;simp only[lc]at hK;rw[dv]at hb ⊢;have l1:=zwx r (zln s x);have l2:=zFo s x
  have l3:(ztj s).length+(QQ x).length<=140737488355328:=by
   have:(zln s x).length=(ztj s).length+(QQ x).length:=by unfold zln;rw[laQ]
   omega
  have hx:=hN x (bL h1)
  have key:((aN ((bif (!(decide (s=([]:ak))))then(idx s (w64 (((bf s:Nat):Int)-1))).bind λx6=>bc (!(decide (((x6.toNat:Nat):Int)=10)))else bc bd)) λx5=>(bif x5 then(JM s 32).bind λx7=>bc x7 else bc s))).bind (λx3=>(bif (zRe x)then(Aw x3 (anyS x)).bind λx8=>bc x8.2 else(bif (!(zRe x))then((bif (decide ((anyI x)<0))then(Aw x3 Kc).bind λx10=>bc (x10.2,(w64 (0-(anyI x))))else bc (x3,(anyI x)))).bind λx9=>aN (ZX x9.2) λx11=>aN (Aw x9.1 x11) λx12=>bc x12.2 else bc x3)))=bc (zln s x):=by
   rw[zLk ab,zB ab,bsQ,bsQ]
   cases x with
   |inr t =>
    simp only[zRe,anyS,ctQ];rw[zb2 (show(ztj s).length+t.length<=_ from l3)];rfl
   |inl n =>
    obtain⟨g0,g1⟩:-9223372036854775807<=n/\n<=9223372036854775807:=hx
    show(aN (bif (decide (n<0))then(Aw (ztj s) Kc).bind λx10=>bc (x10.2,(w64 (0-n)))else bc ((ztj s),n)) λx9=>aN (ZX x9.2) λx11=>aN (Aw x9.1 x11) λx12=>bc x12.2)=_
    rw[VH]at l3;by_cases hn:n<0
    ·rw[aP hn]at l3
     simp only[lc]at l3;rw[dt hn,ctQ,zb2 (by rw[lmi];omega),bsQ,bsQ,xY ab ab];simp only[];rw[zlr ab ab,bsQ,show(0-n).toNat=n.natAbs by omega,zb2 (by rw[laQ,lmi];omega),bsQ];unfold zln;rw[VH,aP hn,asc];rfl
    ·rw[aO hn]at l3
     rw[df hn,cf,bsQ];simp only[];rw[zlr ab ab,bsQ,zb2 ab,bsQ];unfold zln;rw[VH,aO hn]
  rw[oT];simp only[uC h1,ctQ,z7 h1,HP,bsQ];rw[key,bsQ,yV ab];exact zZy l hs hN r (i+1) K _ h2 ab ab hb
def put_eq{l:List (Int⊕ak)}{s:ak}(hs:l.length<4611686018427387904)(hN:∀x∈l,TokN x)(hb:(l.foldl zln s).length<=140737488355328):yB s l=bc (l.foldl zln s):=by
 unfold yB;rw[show(0:Int)=((0:Nat):Int) from rfl,zZy l hs hN l 0 KK s rfl (cj _) (vJ ab) hb];rfl
def VR(s:ak):Prop:=s=[]∨s.getLast?=bc 10
def zFp{s:ak}(h:VR s):ztj s=s:=by
 unfold ztj
 rcases h with rfl|h
 ·rfl
 ·rw[dt h,Bool.or_true];rfl
def zLl{s:ak}:VR (s++[10]):=.inr (by rw[gT];rfl)
def zVo(x:Int⊕ak):Prop:=TokN x/\Good (QQ x)
def JZ(a b:List (Int⊕ak)):spT (a++b)=spT a++spT b:=dy
def zb4(x:Int⊕ak)(b:List (Int⊕ak)):spT (x::b)=32::QQ x++spT b:=rfl
def vj{l:List (Int⊕ak)}{s:ak}(hg:Good s)(hl:∀x∈l,zVo x)(hs:l.length<4611686018427387904)(hb:(s++spT l).length<=140737488355328):yB s l=bc (s++spT l)/\Good (s++spT l):=by
 obtain⟨h1,h2⟩:=ze0 hg (λx hx=>(hl x hx).2);rw[<- h1]at hb ⊢;exact⟨put_eq hs (λx hx=>(hl x hx).1) hb,h1▸h2⟩
def Hd{x:Int⊕ak}{l:List (Int⊕ak)}{s:ak}(hg:VR s)(hl:∀y∈x::l,zVo y)(hs:l.length<1000)(hb:(s++(QQ x++spT l)).length<=140737488355328):yB s (x::l)=bc (s++(QQ x++spT l))/\Good (s++(QQ x++spT l)):=by
 have e:zln s x=s++QQ x:=by unfold zln;rw[zFp hg]
 have hg2:Good (s++QQ x):=xp (hl x al).2;obtain⟨h1,h2⟩:=ze0 hg2 (λy hy=>(hl y (mcQ _ hy)).2);rw[asc]at h1 h2;refine⟨?_,h2⟩;have:=put_eq (l:=x::l) (s:=s) (by simp only[lc];omega) (λy hy=>(hl y hy).1) (by rw[dv,e,h1];exact hb);rw[this,dv,e,h1]
def zFq:Good yc:=⟨ae,ae⟩
def Yr{s:ak}(hg:Good s)(hb:(s++[32,59,10]).length<=140737488355328):qH s=bc (s++[32,59,10])/\VR (s++[32,59,10]):=by
 simp only[laQ,lc,bI]at hb;unfold qH;rw[(vj (l:=[br yc]) hg (λx hx=>by rw[msQ.1 hx];exact⟨trivial,zFq⟩) ae (by simp only[laQ,show(spT [br yc]).length=2 from rfl];omega)).1,bsQ];unfold JM zvc;rw[zB ⟨ae,ae,by simp only[laQ,show(spT [br yc]).length=2 from rfl];omega⟩,bsQ,bsQ]
 have e:s++spT [br yc]++[ew (bX 10)]=s++[32,59,10]:=by rw[asc];rfl
 rw[e];refine⟨rfl,?_⟩;have:=zLl (s:=s++[32,59]);simpa using this
def zqf{α:Type}(l:List α)(g:α->ak)(L:Nat->Int->ak->Option ak)(M:Nat)(Inv:ak->Prop)
  (hL:∀K (i:Nat) x s,l[i]?=bc x->Inv s->(s++g x).length<=M->L (K+1) (i:Int) s=L K ((i+1:Nat):Int) (s++g x)/\Inv (s++g x)) (hE:∀K s,L (K+1) (l.length:Int) s=bc s):
  ∀(r:List α)(i K:Nat)(s:ak),l.drop i=r->i<=l.length->r.length<K->Inv s->(s++r.flatMap g).length<=M->L K (i:Int) s=bc (s++r.flatMap g)/\Inv (s++r.flatMap g)
 |[],i,K,s,hr,hi,hK,hI,hM=>by
  obtain⟨K,rfl⟩:∃k,K=k+1:=⟨K-1,by simp at hK;omega⟩
  have:=drop_nil hr hi;subst this;rw[hE];simp only[dx,bE,true_and];exact hI
 |x::r,i,K,s,hr,hi,hK,hI,hM=>by
  obtain⟨K,rfl⟩:∃k,K=k+1:=⟨K-1,by simp at hK;omega⟩
  obtain⟨h1,h2,h3⟩:=xA hr;simp only[lc]at hK;rw[bO,<- asc]at hM ⊢;obtain⟨e1,e2⟩:=hL K i x s h1 hI (by rw[laQ]at hM;omega);rw[e1];exact zqf l g L M Inv hL hE r (i+1) K _ h2 ab ab e2 hM
def vZ{α:Type}(l:List α)(g:α->ak)(L:Nat->Int->ak->Option ak)(M:Nat)(Inv:ak->Prop){s:ak}(hs:l.length<4611686018427387904)(h0:Inv s)(hM:(s++l.flatMap g).length<=M)
  (hL:∀K (i:Nat) x s,l[i]?=bc x->Inv s->(s++g x).length<=M->L (K+1) (i:Int) s=L K ((i+1:Nat):Int) (s++g x)/\Inv (s++g x)) (hE:∀K s,L (K+1) (l.length:Int) s=bc s):
  L KK 0 s=bc (s++l.flatMap g)/\Inv (s++l.flatMap g):=zqf l g L M Inv hL hE l 0 KK s rfl (cj _) (vJ ab) h0 hM
def Ys{α:Type}(l:List α)(f:α->List (Int⊕ak)):spT (l.flatMap f)=l.flatMap λx=>spT (f x):=by
 unfold spT;rw[List.flatMap_assoc]
-- what tokens look like
def zlt:∀n:Nat,Good (Lib.decDigits n)
 |n=>by
  have hb:∀m<10,ew (48+m)≠10:=ae
  rw[Lib.decDigits];by_cases h:n<10
  ·rw[dif_pos h];exact⟨af,by simpa using hb n h⟩
  ·rw[dif_neg h]
   exact xp ⟨af,by simpa using hb (n % 10) ab⟩
def zLm(n:Int):Good (QQ (.inl n)):=by
 rw[VH];split
 ·exact xp (s:=[45,32]) (zlt _)
 ·exact zlt _
def AK{s:ak}(h:zN s=bg):Good s:=by
 have hn:=Hb h;unfold zN at h;simp only[bn]at h;have ha:=bj.1 (Zr h.1);refine⟨hn.2,λhl=>?_⟩;have:=ha 10 (gZ hl);revert this;decide
def zlu{t:ak}{a b:Int}(h:Good t):Good (atS t a b):=by
 unfold atS;split
 ·rw[<- asc]
  exact xp ⟨ae,ae⟩
 ·exact h
def ze6:∀(d:Nat)(e:Expr),okE d e=bg->Good (zQ d e)
 |0,e,h=>by cases h
 |d+1,e,h=>by
  rw[okE,bn]at h;obtain⟨hh,ha⟩:=h;obtain⟨⟨h0,h1,hl⟩,_,_,_,hs,hk⟩:=ZA hh
  have arg:∀i,i<e.Args.length->Good (zQ d (xI e i)):=λi hi=>ze6 d _ (bj.1 ha _ (zFn hi))
  rw[zQ];by_cases o0:e.Op=0
  ·rw[aP o0];exact zlt _
  rw[aO o0];by_cases o1:e.Op=1
  ·rw[aP o1];exact AK (hs (.inl o1))
  rw[aO o1];by_cases o2:e.Op=2
  ·rw[aP o2];exact xp (xp (xp (AK (hk o2))))
  rw[aO o2];by_cases o3:e.Op=3
  ·rw[aP o3];exact xp (AK (hs (.inr (.inr o3))))
  rw[aO o3];by_cases o16:e.Op=16
  ·rw[aP o16]
   have:e.Args.length=3:=by rw[o16]at hl;have:qP 16=3:=rfl;omega
   exact xp (xp (xp (xp (xp (zlu (arg 2 ab))))))
  rw[aO o16];by_cases o15:e.Op=15
  ·rw[aP o15]
   have:e.Args.length=1:=by rw[o15]at hl;have:qP 15=1:=rfl;omega
   exact xp (zlu (arg 0 ab))
  rw[aO o15];by_cases o9:e.Op=9
  ·rw[aP o9]
   have:e.Args.length=1:=by rw[o9]at hl;have:qP 9=1:=rfl;omega
   exact xp (zlu (arg 0 ab))
  rw[aO o9]
  have:e.Args.length=2:=by
   have:qP e.Op=2:=by unfold qP;rw[aO ab,aO ab,aO o16]
   omega
  exact xp (xp (xp (xp (zlu (arg 1 ab)))))
abbrev Tok:=Int⊕ak
def ow:List ak:=[zXd,zXg,zXh,zXf,zSf,zXc]
def J0:List ak:=[zSe,zDh,zKa]
def zto:vH zj=bc ow:=by
 unfold vH Jp;rw[zB ah,bsQ];exact aQ bc ah
def zqg:vH zX=bc J0:=by
 unfold vH Jp;rw[zB ah,bsQ];exact aQ bc ah
def zz8(d:Def):List Tok:=[.inr xJ,.inr d.aL,.inr AQ,.inr (zQ 12 d.Body)]
def ztp(x:aw):List Tok:=[.inr x.aL,.inl x.N]
def Kj(t:au):List Tok:=[.inr ym,.inr t.aL]++(t.Rows.flatMap ztp++[.inr xh,.inl t.Else])
def ptT(p:zV):List Tok:=[.inl p.X,.inl p.Y]
def ze7(z:yt):List Tok:=[.inr (bif z.Overlay then yr else yR),.inr z.aL]++z.aA.flatMap ptT
def YK(p:zg):List Tok:=[.inl p.X,.inl p.Y,.inl p.Z_]
def zFr(c:Cap):List Tok:=[.inr Ko,.inr c.aL,.inr (J0.getD c.Load.toNat []),.inl c.Limit]++c.aA.flatMap ptT
def ze8(v:av):List Tok:=[.inr ql,.inr v.aL,.inl v.Eye.X,.inl v.Eye.Y,.inl v.Eye.Z_,.inr vO,.inl v.Least,.inr xQ]++v.Targets.flatMap YK
def wc(w:ak)(l:List ak):List Tok:=bif l.isEmpty then[]else .inr w::l.map .inr
def vk(w:ak)(n:Int):List Tok:=if n=0 then[]else[.inr w,.inl n]
def ztq(u:Int)(i:Nat):List Tok:=bif dH u.toNat i then[.inr (ow.getD i [])]else[]
def Qa(r:zO):List Tok :=
 if r.aM=0 then[.inr (zQ 12 r.Test)]
 else if r.aM=1 then[.inr qt,.inl r.zy.Side,.inr AX,.inl r.zy.Base,.inr jH,.inl r.zy.Num,.inl r.zy.Den]
 else if r.aM=3 then[.inr qs,.inr (ow.getD r.Uses.toNat []),.inr (ow.getD r.Other.toNat []),.inl r.N]
 else .inr Ag::(cL 6).flatMap (ztq r.Uses)
def VK(r:zO):List Tok:=[.inr jN,.inr r.aL]++(wc zft r.aB++(wc xe r.Except++(vk vE r.From++(vk xK r.Until++(vk xW r.Grace++((bif r.Vary then[.inr wB]else[])++(.inr xQ::Qa r)))))))
def zFs:List zg->List Tok
 |[]=>[]
 |p::r=>(.inr Af::YK p)++r.flatMap λp=>.inr kP::YK p
def Q9(n:Int):List Tok:=[.inr vA,.inl n]
def Kk(p:yZ):ak :=
 p.aF.flatMap (λx=>yi (zz8 x))++(p.Tables.flatMap (λx=>yi (Kj x))++(p.aB.flatMap (λx=>yi (ze7 x))++(p.aE.flatMap (λx=>yi (VK x))++(p.aJ.flatMap (λx=>yi (zFr x))++(p.aG.flatMap (λx=>yi (ze8 x)) ++
 ((bif p.aK.isEmpty then[]else yi (zFs p.aK))++(if p.aI=0 then[]else yi (Q9 p.aI))))))))
def jT(x:Tok)(l:List Tok):yi (x::l)=QQ x++(spT l++[32,59,10]):=by rw[yi,asc]
-- names joined
def ztr:List ak->ak
 |[]=>[]
 |n::r=>n++r.flatMap λx=>32::x
def zTw:∀{l:List ak},l≠[]->32::ztr l=spT (l.map br)
 |n::r,_=>by
  rw[ztr,mk9,zb4]
  have:∀r:List ak,r.flatMap (λx=>32::x)=spT (r.map br):=λr=>by
   unfold spT;rw[List.flatMap_map];rfl
  rw[this];rfl
def zLn{m:Nat}(h1:2<=m)(h2:m<=10000):(aN (grd ((w64 (((m:Nat):Int)-1))≠0)) λ_=>(bif (decide (((1:Nat):Int)>=(w64 (lG 9223372036854775807 (w64 (((m:Nat):Int)-1))))))then bh else bc (w64 (0+(w64 (((1:Nat):Int)*(w64 (((m:Nat):Int)-1))))))))=bc ((m:Int)-1):=by
 have e:w64 (((m:Nat):Int)-1)=((m-1:Nat):Int):=by rw[xY ab ab];omega
 have hq:2<=9223372036854775807 / (m-1):=(Nat.le_div_iff_mul_le ab).2 ab;have hq2:9223372036854775807 / (m-1)<=9223372036854775807:=Nat.div_le_self _ _;have et:lG 9223372036854775807 ((m-1:Nat):Int)=((9223372036854775807 / (m-1):Nat):Int):=rfl;rw[e,zB ab,bsQ,et,xY ab ab,df ab,cf,xY (n:=((1:Nat):Int)*((m-1:Nat):Int)) ab ab,xY ab ab];exact aQ bc ab
def join_eq{l:List ak}(h0:l≠[])(h1:l.length<=10000)(h2:∀s∈l,s.length<=8000):zoo l t__=bc (ztr l):=by
 unfold zoo J.qW
 obtain⟨n,r,rfl⟩:∃n r,l=n::r:=by
  cases l with
  |nil=>exact aU rfl h0
  |cons n r=>exact⟨n,r,rfl⟩
 rw[df (show ¬(((n::r).length:Nat):Int)=0 by simp only[lc];omega),cf];by_cases hr:r=[]
 ·subst hr
  rw[dt (show((([n]:List ak).length:Nat):Int)=1 from rfl),ctQ,show idx [n] 0=bc n from rfl];simp[ztr]
 ·have hr1:1<=r.length:=by
   cases r with
   |nil=>exact aU rfl hr
   |cons=>simp
  have hlen:(n::r).length=r.length+1:=rfl;rw[df (show ¬(((n::r).length:Nat):Int)=1 by omega),cf,dt (show((bf t__:Nat):Int)>0 by decide),ctQ];have:=zLn (m:=(n::r).length) ab ab;rw[show(bf t__:Nat)=1 from rfl,this,bsQ]
  have hsum:=Yg (n::r) (λ(s:Int) x=>s+((x.length:Nat):Int)) (λs=>bc s) (λi s=>0<=s/\s<=10000+8000*(i:Int)) (λK q s=>J.yL (n::r) t__ (bf (n::r):Nat) K (s,q)) ((((n::r).length:Nat):Int)-1) ab ⟨ab,ab⟩ (λK i x s hx hs=>by
   have hi:=qN hx;have h30:=h2 x (bL hx);refine⟨?_,ab,ab⟩
   show J.yL _ _ _ (K+1) (s,(i:Int))=_
   rw[J.yL];simp only[uC hx,ctQ,z7 hx,bsQ]
   rw[xY (n:=9223372036854775807-s) ab ab,df ab,cf,xY ab ab,yV ab]) (λK s hs=>by
   show J.yL _ _ _ (K+1) (s,_)=_
   rw[J.yL]
   simp only[jR,cf])
  obtain⟨e1,e2,e3⟩:=hsum;rw[e1,bsQ]
  have hg:J.zvb (List.foldl (λ(s:Int) x=>s+((x.length:Nat):Int)) ((((n::r).length:Nat):Int)-1) (n::r))=bc []:=by
   unfold J.zvb J.zDb;rw[zB ab];rfl
  have hn:=h2 n al
  have hb:J.xd [] n=bc (((n.length:Nat):Int),n):=by
   unfold J.xd;rw[zB (by simp only[bI];omega)];rfl
  have hc:cut (n::r) 1 (((n::r).length:Nat):Int)=bc r:=by
   have:=zld (l:=n::r) (a:=1) ab;simpa using this
  have hi0:idx (n::r) 0=bc n:=z7 (i:=0) rfl;rw[hg,bsQ,hi0,bsQ,hb,bsQ,hc,bsQ]
  have ht:=vZ r (λx=>32::x) (λK q s=>J.yM t__ r (bf r:Nat) K (q,s)) 1000000000 (λ_=>True) (s:=n) ab trivial (by
    have:∀r:List ak,(∀s∈r,s.length<=8000)->(r.flatMap λx=>32::x).length<=8001*r.length:=λr=>by
     induction r with
     |nil=>intro _;simp
     |cons a r ih=>intro h;have:=ih (λs hs=>h s (mcQ _ hs));have:=h a al;simp only[bO,laQ,lc];omega
    have:=this r (λs hs=>h2 s (mcQ _ hs))
    rw[laQ];refine Nat.le_trans (Nat.add_le_add_left this _) ?_;omega) (λK i x s hx _ hM=>by
   have hi:=qN hx;refine⟨?_,trivial⟩
   show J.yM _ _ _ (K+1) ((i:Int),s)=_
   simp only[laQ,lc]at hM;rw[J.yM];simp only[uC hx,ctQ,z7 hx,bsQ,J.xd]
   rw[zB (by rw[lsp];omega),bsQ,bsQ,zB (by rw[laQ,lsp];omega),bsQ,bsQ,yV ab,asc];rfl) (λK s=>by
   show J.yM _ _ _ (K+1) (_,s)=_
   rw[J.yM]
   simp only[jR,cf])
  rw[ht.1];rfl
def zFt(t:T3)(a:List T3):sq (t::a)=32::t.2.1++sq a:=by rw[sq,bO];rfl
def oy{n:Int}(h:AG n):zVo (.inl n):=⟨h,zLm n⟩
def xM{s:ak}(h:Good s):zVo (.inr s):=⟨trivial,h⟩
def AL{c:UInt8}{r:ak}(h:∀x∈c::r,x≠10):Good (c::r):=⟨af,λhl=>h 10 (gZ hl) rfl⟩
def J1{α:Type}{a x:α}(h:x∈[a]):x=a:=msQ.1 h
def zqh{s:ak}{e:Expr}(hg:Good s)(hk:okE 12 e=bg)(hb:(s++(spT [.inr (zQ 12 e)]++[32,59,10])).length<=140737488355328):QF s e=bc (s++(spT [.inr (zQ 12 e)]++[32,59,10]))/\VR (s++(spT [.inr (zQ 12 e)]++[32,59,10])):=by
 have hb2:(s++spT [.inr (zQ 12 e)]++[32,59,10]).length<=140737488355328:=by rw[asc];exact hb
 obtain⟨h1,h2⟩:=vj (l:=[.inr (zQ 12 e)]) hg (λx hx=>by rw[J1 hx];exact xM (ze6 12 e hk)) af (by rw[laQ]at hb2;omega);obtain⟨h3,h4⟩:=Yr h2 hb2;rw[asc]at h3 h4;unfold QF;rw[xg,zzo hk,bsQ];unfold qq;rw[bsQ,h1,bsQ,h3];exact⟨rfl,h4⟩
def ze9{s:ak}{l:List zV}(hg:Good s)(hn:∀p∈l,AG p.X/\AG p.Y)(hl:l.length<=64)(hb:(s++(spT (l.flatMap ptT)++[32,59,10])).length<=140737488355328):HQ s l=bc (s++(spT (l.flatMap ptT)++[32,59,10]))/\VR (s++(spT (l.flatMap ptT)++[32,59,10])):=by
 have hb2:(s++spT (l.flatMap ptT)++[32,59,10]).length<=140737488355328:=by rw[asc];exact hb
 rw[Ys]at hb2 ⊢
 have ht:=vZ l (λp=>spT (ptT p)) (λK q s=>wo l (bf l:Nat) K (s,q)) 140737488355328 Good (s:=s) ab hg (by rw[laQ]at hb2;omega) (λK i x s hx hI hM=>by
  have hi:=qN hx;obtain⟨n1,n2⟩:=hn x (bL hx)
  obtain⟨p1,p2⟩:=vj (l:=ptT x) hI (λy hy=>by
   rcases bq.1 hy with rfl|hy
   ·exact oy n1
   ·rw[J1 hy];exact oy n2) (by simp[ptT]) hM
  refine⟨?_,p2⟩
  show wo _ _ (K+1) (s,(i:Int))=_
  rw[wo];simp only[uC hx,ctQ,z7 hx,bsQ]
  rw[show([(bp x.X),(bp x.Y)]:List (Int⊕ak))=ptT x from rfl,p1,bsQ,yV ab]) (λK s=>by
  show wo _ _ (K+1) (s,_)=_
  rw[wo]
  simp only[jR,cf])
 obtain⟨h3,h4⟩:=Yr ht.2 hb2;rw[asc]at h3 h4;unfold HQ;rw[ht.1,bsQ,h3];exact⟨rfl,h4⟩
def zFu{l:List ak}(h0:l≠[])(hn:∀s∈l,zN s=bg):Good (ztr l):=by
 have key:∀(r:List ak)(n:ak),Good n->(∀s∈r,zN s=bg)->Good (n++r.flatMap λx=>32::x):=λr=>by
  induction r with
  |nil=>intro n hg _;simpa using hg
  |cons a r ih =>
   intro n hg h
   have:=ih (n++32::a) (by
    have:=xp (s:=n++[32]) (AK (h a al))
    simpa using this) (λs hs=>h s (mcQ _ hs))
   simpa using this
 cases l with
 |nil=>exact aU rfl h0
 |cons n r=>exact key r n (AK (hn n al)) (λs hs=>hn s (mcQ _ hs))
def zqi{s w:ak}{l:List ak}(hg:Good s)(hw:Good w)(hn:∀s∈l,zN s=bg)(h1:l.length<=3000)(h2:∀s∈l,s.length<=30)(hb:(s++spT (wc w l)).length<=140737488355328):
  (bif (decide (((bf l:Nat):Int)>0))then(zoo l t__).bind λx6=>aN (yB s ([(br w),(br x6)]:List (Int⊕ak))) λx7=>bc x7 else bc s)=bc (s++spT (wc w l))/\Good (s++spT (wc w l)):=by
 by_cases h0:l=[]
 ·subst h0
  simp only[wc,List.isEmpty_nil,ctQ,spT,dx,bE];exact⟨rfl,hg⟩
 ·have hlen:0<l.length:=dz.2 h0
  have he:l.isEmpty=bd:=by
   cases l with
   |nil=>exact aU rfl h0
   |cons=>rfl
  have e:spT (wc w l)=spT [.inr w,.inr (ztr l)]:=by
   unfold wc;rw[he,cf,zb4,zb4,<- zTw h0];simp[QQ,spT]
  rw[e]at hb ⊢;rw[dt (show((bf l:Nat):Int)>0 by omega),ctQ,join_eq h0 ab (λs hs=>cU (h2 s hs) ab),bsQ]
  obtain⟨p1,p2⟩:=vj (l:=[.inr w,.inr (ztr l)]) hg (λy hy=>by
   rcases bq.1 hy with rfl|hy
   ·exact xM hw
   ·rw[J1 hy];exact xM (zFu h0 hn)) af hb
  rw[p1];exact⟨rfl,p2⟩
def zlv{s w:ak}{n:Int}(hg:Good s)(hw:Good w)(hn:AG n)(hb:(s++spT (vk w n)).length<=140737488355328):
  (bif (!(decide (n=0)))then(yB s ([(br w),(bp n)]:List (Int⊕ak))).bind λx6=>bc x6 else bc s)=bc (s++spT (vk w n))/\Good (s++spT (vk w n)):=by
 unfold vk at hb ⊢;by_cases h0:n=0
 ·rw[aP h0,dt h0]
  simp only[spT,dx,bE];exact⟨rfl,hg⟩
 ·rw[aO h0]at hb ⊢
  rw[df h0,cK,ctQ]
  obtain⟨p1,p2⟩:=vj (l:=[.inr w,.inl n]) hg (λy hy=>by
   rcases bq.1 hy with rfl|hy
   ·exact xM hw
   ·rw[J1 hy];exact oy hn) af hb
  rw[p1];exact⟨rfl,p2⟩
def zTx:Good zft:=AL ae
def zts:Good xe:=AL ae
def zFv:Good vE:=AL ae
def zzp:Good xK:=AL ae
def zzq:Good xW:=AL ae
section rule
variable{c1:ak}{c2 c3:List ak}{c4 c5 c6:Int}{c7:Bool}{c8 c9 c10:Int}{c11 c12:ak}{c13:List Expr}{c14 c15 c16 c17 c18 c19 c20:Int}{s:ak}
def zTy{zs ex:List ak}(hg:Good s)(hn:∀s∈zs,zN s=bg)(h1:zs.length<=3000)(h2:∀s∈zs,s.length<=30)(hn':∀s∈ex,zN s=bg)(h1':ex.length<=3000)(h2':∀s∈ex,s.length<=30)(hb:(s++(spT (wc zft zs)++spT (wc xe ex))).length<=140737488355328):
  j7 ((2:Nat):Int) c1 c2 c3 c4 c5 c6 c7 c8 c9 c10 c11 c12 c13 c14 c15 c16 c17 c18 c19 c20 [zs,ex] KK (s,0)=bc (s++(spT (wc zft zs)++spT (wc xe ex)))/\Good (s++(spT (wc zft zs)++spT (wc xe ex))):=by
 obtain⟨k,hk⟩:∃k,KK=k+3:=⟨KK-3,by have:=vJ (n:=100) ab;omega⟩
 rw[<- asc]at hb ⊢;obtain⟨a1,a2⟩:=zqi hg zTx hn h1 h2 (by rw[laQ]at hb;omega);obtain⟨b1,b2⟩:=zqi a2 zts hn' h1' h2' hb;refine⟨?_,b2⟩;rw[hk,j7];simp only[show decide ((0:Int)<((2:Nat):Int))=bg from rfl,ctQ];rw[zB (show(0:Int)<=0/\(0:Int)<((bf [zs,ex]:Nat):Int) from by simp),bsQ,show([zs,ex])[(bX 0)]?=bc zs from rfl,bsQ,zB (show(0:Int)<=0/\(0:Int)<((2:Nat):Int) by decide),bsQ,show(([zft,xe]:List ak))[(bX 0)]?=bc zft from rfl,bsQ,a1,bsQ,show w64 (0+1)=1 from rfl,j7];simp only[show decide ((1:Int)<((2:Nat):Int))=bg from rfl,ctQ];rw[zB (show(0:Int)<=1/\(1:Int)<((bf [zs,ex]:Nat):Int) from by simp),bsQ,show([zs,ex])[(bX 1)]?=bc ex from rfl,bsQ,zB (show(0:Int)<=1/\(1:Int)<((2:Nat):Int) by decide),bsQ,show(([zft,xe]:List ak))[(bX 1)]?=bc xe from rfl,bsQ,b1,bsQ,show w64 (1+1)=2 from rfl,j7];rfl
def zTz{fr un gr:Int}(hg:Good s)(n1:AG fr)(n2:AG un)(n3:AG gr)(hb:(s++(spT (vk vE fr)++(spT (vk xK un)++spT (vk xW gr)))).length<=140737488355328):
  vR ((3:Nat):Int) c1 c2 c3 c4 c5 c6 c7 c8 c9 c10 c11 c12 c13 c14 c15 c16 c17 c18 c19 c20 [fr,un,gr] KK (s,0)=bc (s++(spT (vk vE fr)++(spT (vk xK un)++spT (vk xW gr))))/\Good (s++(spT (vk vE fr)++(spT (vk xK un)++spT (vk xW gr)))):=by
 obtain⟨k,hk⟩:∃k,KK=k+4:=⟨KK-4,by have:=vJ (n:=100) ab;omega⟩
 rw[<- asc,<- asc]at hb ⊢;have hb1:=hb;rw[laQ]at hb1
 have hb2:(s++spT (vk vE fr)++spT (vk xK un)).length<=140737488355328:=ab
 rw[laQ]at hb2;obtain⟨a1,a2⟩:=zlv hg zFv n1 ab;obtain⟨b1,b2⟩:=zlv a2 zzp n2 ab;obtain⟨d1,d2⟩:=zlv b2 zzq n3 hb;refine⟨?_,d2⟩;rw[hk,vR];simp only[show decide ((0:Int)<((3:Nat):Int))=bg from rfl,ctQ];rw[zB (show(0:Int)<=0/\(0:Int)<((bf [fr,un,gr]:Nat):Int) from by simp),bsQ,show([fr,un,gr])[(bX 0)]?=bc fr from rfl,bsQ,zB (show(0:Int)<=0/\(0:Int)<((3:Nat):Int) by decide),bsQ,show(([vE,xK,xW]:List ak))[(bX 0)]?=bc vE from rfl,bsQ,a1,bsQ,show w64 (0+1)=1 from rfl,vR];simp only[show decide ((1:Int)<((3:Nat):Int))=bg from rfl,ctQ];rw[zB (show(0:Int)<=1/\(1:Int)<((bf [fr,un,gr]:Nat):Int) from by simp),bsQ,show([fr,un,gr])[(bX 1)]?=bc un from rfl,bsQ,zB (show(0:Int)<=1/\(1:Int)<((3:Nat):Int) by decide),bsQ,show(([vE,xK,xW]:List ak))[(bX 1)]?=bc xK from rfl,bsQ,b1,bsQ,show w64 (1+1)=2 from rfl,vR];simp only[show decide ((2:Int)<((3:Nat):Int))=bg from rfl,ctQ];rw[zB (show(0:Int)<=2/\(2:Int)<((bf [fr,un,gr]:Nat):Int) from by simp),bsQ,show([fr,un,gr])[(bX 2)]?=bc gr from rfl,bsQ,zB (show(0:Int)<=2/\(2:Int)<((3:Nat):Int) by decide),bsQ,show(([vE,xK,xW]:List ak))[(bX 2)]?=bc xW from rfl,bsQ,d1,bsQ,show w64 (2+1)=3 from rfl,vR];rfl
def zT0:∀s<64,∀k<6,decide ((IntKind.i64.wrap ((BitVec.ofInt IntKind.i64.bits (Int.fdiv (s:Nat) (2 ^ (min (bX (k:Nat)) IntKind.i64.bits))) &&& BitVec.ofInt IntKind.i64.bits 1).toNat:Int))=1)=dH s k:=ah
def zfa:∀i<6,Good (ow.getD i []):=by
 intro i hi
 obtain rfl|rfl|rfl|rfl|rfl|rfl:i=0∨i=1∨i=2∨i=3∨i=4∨i=5:=ab
 all_goals exact AL ae
def zlw{i:Nat}(h:i<6):ow[i]?=bc (ow.getD i []):=by
 rw[cg,bz (show i<ow.length from h)];rfl
def zT1(hg:Good s)(hu:0<=c18/\c18<64)(hb:(s++spT ((cL 6).flatMap (ztq c18))).length<=140737488355328):
  wx (((bf ow):Nat):Int) c1 c2 c3 c4 c5 c6 c7 c8 c9 c10 c11 c12 c13 c14 c15 c16 c17 c18 c19 c20 ow KK (s,0)=bc (s++spT ((cL 6).flatMap (ztq c18)))/\Good (s++spT ((cL 6).flatMap (ztq c18))):=by
 rw[Ys]at hb ⊢;refine vZ (cL 6) (λi=>spT (ztq c18 i)) (λK q s=>wx (((bf ow):Nat):Int) c1 c2 c3 c4 c5 c6 c7 c8 c9 c10 c11 c12 c13 c14 c15 c16 c17 c18 c19 c20 ow K (s,q)) 140737488355328 Good ae hg hb (λK i x s hx hI hM=>?_) (λK s=>?_)
 ·have hi:=qN hx
  rw[iL]at hi
  have hxi:x=i:=by simpa[dL,hi]using hx.symm
  subst hxi;obtain⟨u,rfl⟩:=Int.eq_ofNat_of_zero_le hu.1;have hbit:=zT0 u ab x hi
  show wx _ _ _ _ _ _ _ _ _ _ _ _ _ _ _ _ _ _ _ _ _ _ (K+1) (s,(x:Int))=_/\_
  rw[wx];simp only[dt (show(x:Int)<((bf ow:Nat):Int) by rw[show ow.length=6 from rfl];omega),ctQ];rw[zB (show(0:Int)<=(x:Int)/\(x:Int)<((bf ow:Nat):Int) by rw[show ow.length=6 from rfl];omega),bsQ,dB,zlw hi,bsQ,zB (show(0:Int)<=(x:Int) by omega),bsQ];rw[dB]at hbit;rw[hbit,yV ab];unfold ztq at hM ⊢;rw[show(((u:Nat):Int)).toNat=u from rfl]at *
  cases hbb:dH u x with
  |false =>
   simp only[cf,spT,dx,bE,bsQ,true_and];exact hI
  |true =>
   rw[hbb]at hM;simp only[ctQ]at hM ⊢;obtain⟨p1,p2⟩:=vj (l:=[.inr (ow.getD x [])]) hI (λy hy=>by rw[J1 hy];exact xM (zfa x hi)) af hM;rw[p1];exact⟨rfl,p2⟩
 ·show wx _ _ _ _ _ _ _ _ _ _ _ _ _ _ _ _ _ _ _ _ _ _ (K+1) (s,_)=_
  rw[wx];rfl
end rule
def zlx(b:Bool):List Tok:=bif b then[.inr wB]else[]
def zFw(r:zO):yi (VK r)=QQ (.inr jN)++(spT [.inr r.aL]++((spT (wc zft r.aB)++spT (wc xe r.Except))++((spT (vk vE r.From)++(spT (vk xK r.Until)++spT (vk xW r.Grace)))++(spT (zlx r.Vary)++(spT [.inr xQ]++(spT (Qa r)++[32,59,10])))))):=by
 show yi (.inr jN::([.inr r.aL]++(wc zft r.aB++(wc xe r.Except++(vk vE r.From++(vk xK r.Until++(vk xW r.Grace++(zlx r.Vary++([.inr xQ]++Qa r)))))))))=_
 rw[jT];simp only[JZ,asc]
def we{n a b:Int}(h:a<=n/\n<=b)(ha:-9223372036854775807<=a)(hb:b<=9223372036854775807):AG n:=⟨ab,ab⟩
def zT2{s:ak}{r:zO}(hg:Good s)(hb:VE r)(hf:zE4 r.Test=bg)(hl:(s++(spT (Qa r)++[32,59,10])).length<=140737488355328){c1:ak}{c2 c3:List ak}{c4 c5 c6:Int}{c7:Bool}:
  (((bif (decide (r.aM=0))then(QF s (Expr.mk r.Test.Op r.Test.N r.Test.S r.Test.Key r.Test.Args)).bind λx9=>bc (bp x9)else(bif (decide (r.aM=1))then(yB s ([(br qt),(bp r.zy.Side),(br AX),(bp r.zy.Base),(br jH),(bp r.zy.Num),(bp r.zy.Den)]:List (Int⊕ak))).bind λx10=>bc (br x10)else(bif (decide (r.aM=3))then(grd (0<=r.Uses/\r.Uses<(((bf ow):Nat):Int))).bind λ_=>aN ((ow)[(bX r.Uses)]?) λx12=>aN (grd (0<=r.Other/\r.Other<(((bf ow):Nat):Int))) λ_=>aN ((ow)[(bX r.Other)]?) λx14=>aN (yB s ([(br qs),(br x12),(br x14),(bp r.N)]:List (Int⊕ak))) λx15=>bc (br x15)else(bif (decide (r.aM=2))then(yB s ([(br Ag)]:List (Int⊕ak))).bind λx16=>aN (wx (((bf ow):Nat):Int) c1 c2 c3 c4 c5 c6 c7 r.aM r.Test.Op r.Test.N r.Test.S r.Test.Key r.Test.Args r.zy.Side r.zy.Base r.zy.Num r.zy.Den r.Uses r.Other r.N ow KK (x16,0)) λx17=>bc (br x17)else bc (br s)))))).bind (xT bc λx8=>aN (qH x8) λx18=>bc x18))=bc (s++(spT (Qa r)++[32,59,10]))/\VR (s++(spT (Qa r)++[32,59,10])):=by
 obtain⟨⟨k0,k3⟩,b1,b2,b3,b4,b5,b6,b7,b8⟩:=hb
 have hl2:(s++spT (Qa r)++[32,59,10]).length<=140737488355328:=by rw[asc];exact hl
 have hl3:=hl2;rw[laQ]at hl3;unfold Qa at hl hl2 hl3 ⊢;by_cases h0:r.aM=0
 ·rw[aP h0]at hl hl2 hl3 ⊢
  obtain⟨p1,p2⟩:=zqh hg (b1 h0) hl;rw[dt h0,ctQ,xg,p1];exact⟨rfl,p2⟩
 rw[aO h0]at hl hl2 hl3 ⊢;rw[df h0,cf];by_cases h1:r.aM=1
 ·rw[aP h1]at hl hl2 hl3 ⊢
  obtain⟨n1,n2,n3,n4⟩:=b3 h1;rw[dt h1,ctQ]
  obtain⟨p1,p2⟩:=vj hg (λy hy=>by
   simp only[bq,eu,or_false]at hy
   rcases hy with rfl|rfl|rfl|rfl|rfl|rfl|rfl
   ·exact xM (AL ae)
   ·exact oy (we n1 ab ab)
   ·exact xM (AL ae)
   ·exact oy (we n2 ab ab)
   ·exact xM (AL ae)
   ·exact oy (we n3 ab ab)
   ·exact oy (we n4 ab ab)) af (show(s++spT [.inr qt,.inl r.zy.Side,.inr AX,.inl r.zy.Base,.inr jH,.inl r.zy.Num,.inl r.zy.Den]).length<=_ by omega)
  obtain⟨q1,q2⟩:=Yr p2 hl2;rw[p1,bsQ,bsQ,xT,q1,<- asc];exact⟨rfl,q2⟩
 rw[aO h1]at hl hl2 hl3 ⊢;rw[df h1,cf];by_cases h3:r.aM=3
 ·rw[aP h3]at hl hl2 hl3 ⊢
  obtain⟨n1,n2,n3⟩:=b6 h3;rw[dt h3,ctQ,zB (show 0<=r.Uses/\r.Uses<((bf ow:Nat):Int) by rw[show ow.length=6 from rfl];omega),bsQ,zlw (show r.Uses.toNat<6 by omega),bsQ,zB (show 0<=r.Other/\r.Other<((bf ow:Nat):Int) by rw[show ow.length=6 from rfl];omega),bsQ,zlw (show r.Other.toNat<6 by omega),bsQ]
  obtain⟨p1,p2⟩:=vj hg (λy hy=>by
   simp only[bq,eu,or_false]at hy
   rcases hy with rfl|rfl|rfl|rfl
   ·exact xM (AL ae)
   ·exact xM (zfa _ ab)
   ·exact xM (zfa _ ab)
   ·exact oy (we n3 ab ab)) af (show(s++spT [.inr qs,.inr (ow.getD r.Uses.toNat []),.inr (ow.getD r.Other.toNat []),.inl r.N]).length<=_ by omega)
  obtain⟨q1,q2⟩:=Yr p2 hl2;rw[p1,bsQ,bsQ,xT,q1,<- asc];exact⟨rfl,q2⟩
 have h2:r.aM=2:=ab
 rw[aO h3]at hl hl2 hl3 ⊢;obtain⟨n1,n2⟩:=b5 h2;rw[df h3,cf,dt h2,ctQ]
 have es:spT (.inr Ag::(cL 6).flatMap (ztq r.Uses))=spT [.inr Ag]++spT ((cL 6).flatMap (ztq r.Uses)):=by rw[<- JZ];rfl
 rw[es,<- asc]at hl2 hl3;rw[es];obtain⟨p1,p2⟩:=vj (l:=[.inr Ag]) hg (λy hy=>by rw[J1 hy];exact xM (AL ae)) af (by rw[laQ]at hl3;omega);obtain⟨u1,u2⟩:=zT1 (c1:=c1) (c2:=c2) (c3:=c3) (c4:=c4) (c5:=c5) (c6:=c6) (c7:=c7) (c8:=r.aM) (c9:=r.Test.Op) (c10:=r.Test.N) (c11:=r.Test.S) (c12:=r.Test.Key) (c13:=r.Test.Args) (c14:=r.zy.Side) (c15:=r.zy.Base) (c16:=r.zy.Num) (c17:=r.zy.Den) (c18:=r.Uses) (c19:=r.Other) (c20:=r.N) p2 ab ab;obtain⟨q1,q2⟩:=Yr u2 hl2;rw[p1,bsQ,u1,bsQ,bsQ,xT,q1];simp only[asc]at q2 ⊢;exact⟨rfl,q2⟩
def zFx{s:ak}{r:zO}(hs:VR s)(hr:Yj r)(hn:zN r.aL=bg)(hf:zHo r=bg)(hb:(s++yi (VK r)).length<=140737488355328):zbl s r=bc (s++yi (VK r))/\VR (s++yi (VK r)):=by
 obtain⟨⟨⟨z0,x0⟩,d1,d2,d3,_⟩,hbody⟩:=hr;obtain⟨_,⟨z1,z2⟩,⟨x1,x2⟩,te⟩:=Yk hf;rw[zFw]at hb ⊢;have hb0:=hb;simp only[laQ]at hb0
 obtain⟨p1,g1⟩:=Hd (x:=.inr jN) (l:=[.inr r.aL]) hs (λy hy=>by
  rcases bq.1 hy with rfl|hy
  ·exact xM (AL ae)
  ·rw[J1 hy];exact xM (AK hn)) af (by simp only[laQ];omega)
 generalize hs1:s++(QQ (.inr jN)++spT [.inr r.aL])=s1 at p1 g1;have l1:=aQ bf hs1;simp only[laQ]at l1;obtain⟨p2,g2⟩:=zTy (c1:=r.aL) (c2:=r.aB) (c3:=r.Except) (c4:=r.From) (c5:=r.Until) (c6:=r.Grace) (c7:=r.Vary) (c8:=r.aM) (c9:=r.Test.Op) (c10:=r.Test.N) (c11:=r.Test.S) (c12:=r.Test.Key) (c13:=r.Test.Args) (c14:=r.zy.Side) (c15:=r.zy.Base) (c16:=r.zy.Num) (c17:=r.zy.Den) (c18:=r.Uses) (c19:=r.Other) (c20:=r.N) g1 (bj.1 z0) z1 z2 (bj.1 x0) x1 x2 (by simp only[laQ];omega);generalize hs2:s1++(spT (wc zft r.aB)++spT (wc xe r.Except))=s2 at p2 g2;have l2:=aQ bf hs2;simp only[laQ]at l2;obtain⟨p3,g3⟩:=zTz (c1:=r.aL) (c2:=r.aB) (c3:=r.Except) (c4:=r.From) (c5:=r.Until) (c6:=r.Grace) (c7:=r.Vary) (c8:=r.aM) (c9:=r.Test.Op) (c10:=r.Test.N) (c11:=r.Test.S) (c12:=r.Test.Key) (c13:=r.Test.Args) (c14:=r.zy.Side) (c15:=r.zy.Base) (c16:=r.zy.Num) (c17:=r.zy.Den) (c18:=r.Uses) (c19:=r.Other) (c20:=r.N) g2 (we d1 ab ab) (we d3 ab ab) (we d2 ab ab) (by simp only[laQ];omega);generalize hs3:s2++(spT (vk vE r.From)++(spT (vk xK r.Until)++spT (vk xW r.Grace)))=s3 at p3 g3;have l3:=aQ bf hs3;simp only[laQ]at l3
 have hv:(bif r.Vary then(yB s3 ([(br wB)]:List (Int⊕ak))).bind λx5=>bc x5 else bc s3)=bc (s3++spT (zlx r.Vary))/\Good (s3++spT (zlx r.Vary)):=by
  cases hv:r.Vary with
  |false =>
   simp only[zlx,cf,spT,dx,bE,true_and];exact g3
  |true =>
   rw[hv]at hb0;obtain⟨a1,a2⟩:=vj (l:=zlx bg) g3 (λy hy=>by rw[J1 hy];exact xM (AL ae)) ae (by simp only[laQ];omega);rw[ctQ,show([(br wB)]:List (Int⊕ak))=zlx bg from rfl,a1];exact⟨rfl,a2⟩
 obtain⟨p4,g4⟩:=hv;generalize hs4:s3++spT (zlx r.Vary)=s4 at p4 g4;have l4:=aQ bf hs4;simp only[laQ]at l4;obtain⟨p5,g5⟩:=vj (l:=[.inr xQ]) g4 (λy hy=>by rw[J1 hy];exact xM (AL ae)) af (by simp only[laQ];omega);generalize hs5:s4++spT [.inr xQ]=s5 at p5 g5;have l5:=aQ bf hs5;simp only[laQ]at l5;have h6:=zT2 (c1:=r.aL) (c2:=r.aB) (c3:=r.Except) (c4:=r.From) (c5:=r.Until) (c6:=r.Grace) (c7:=r.Vary) g5 hbody te (by simp only[laQ];omega)
 have e:s++(QQ (.inr jN)++(spT [.inr r.aL]++((spT (wc zft r.aB)++spT (wc xe r.Except))++((spT (vk vE r.From)++(spT (vk xK r.Until)++spT (vk xW r.Grace)))++(spT (zlx r.Vary)++(spT [.inr xQ]++(spT (Qa r)++[32,59,10])))))))=s5++(spT (Qa r)++[32,59,10]):=by
  rw[<- hs5,<- hs4,<- hs3,<- hs2,<- hs1];simp only[asc]
 rw[e];refine⟨?_,h6.2⟩;unfold zbl;rw[p1,bsQ,p2,bsQ,p3,bsQ,p4,bsQ,p5,bsQ,zto,bsQ];exact h6.1
def zFy(x:Tok):Prop:=zVo x/\(QQ x).length<=400000
def YL(l:List Tok):Prop:=∀x∈l,zFy x
def YL.g{l:List Tok}(h:YL l):∀x∈l,zVo x:=λx hx=>(h x hx).1
def yD:YL []:=λx hx=>by cases hx
def zl{x:Tok}{l:List Tok}(h:zFy x)(hl:YL l):YL (x::l):=λy hy=>by
 rcases bq.1 hy with rfl|hy
 ·exact h
 ·exact hl y hy
def jD{a b:List Tok}(ha:YL a)(hb:YL b):YL (a++b):=λy hy=>by
 rcases bA.1 hy with h|h
 ·exact ha y h
 ·exact hb y h
def Qb{α:Type}{l:List α}{f:α->List Tok}(h:∀x∈l,YL (f x)):YL (l.flatMap f):=λy hy=>by
 obtain⟨x,hx,hy⟩:=List.mem_flatMap.1 hy;exact h x hx y hy
def xm{c:UInt8}{r:ak}(h:(∀x∈c::r,x≠10)/\(c::r).length<=400000):zFy (.inr (c::r)):=⟨xM (AL h.1),h.2⟩
def vu{s:ak}(h:zN s=bg):zFy (.inr s):=⟨xM (AK h),by have:=(Hb h).1;show s.length<=_;omega⟩
def yK{n:Int}(h:AG n):zFy (.inl n):=⟨oy h,by have:=zTt h;omega⟩
def nod1{a:Expr}{o n:Int}{s k:ak}:jF ⟨o,n,s,k,[a]⟩=jF a+1:=by rw[jF,H9,H9]
def zLo{d:Nat}{e:Expr}(h:OX d e):(zQ d e).length<=60*jF e:=by
 induction h with
 |@num d n h1 h2 =>
  have:=ze4 (n:=n.toNat) ab;have:=JX ⟨0,n,[],[],[]⟩
  show(Lib.decDigits n.toNat).length<=_;omega
 |@name d s h =>
  have:=(Hb h).1;have:=JX ⟨1,0,s,[],[]⟩
  show s.length<=_;omega
 |@table d s k h1 h2 =>
  have:=(Hb h1).1;have:=(Hb h2).1;have:=JX ⟨2,0,s,k,[]⟩
  show(wk++(s++(t__++k))).length<=_
  simp only[laQ,ltb,lsp];omega
 |@zone d s h =>
  have:=(Hb h).1;have:=JX ⟨3,0,s,[],[]⟩
  show(qv++s).length<=_
  simp only[laQ,lzn];omega
 |@neg d a _ ih =>
  have:=Ha (zQ d a) (lvO a.Op) 7;rw[nod1]
  show(Kc++atS (zQ d a) (lvO a.Op) 7).length<=_
  simp only[laQ,lmi];omega
 |@not d a _ ih =>
  have:=Ha (zQ d a) (lvO a.Op) 3;rw[nod1]
  show(WM++atS (zQ d a) (lvO a.Op) 3).length<=_
  simp only[laQ,lnt];omega
 |@cond d a b c _ _ _ ia ib ic =>
  have:=Ha (zQ d a) (lvO a.Op) 0;have:=Ha (zQ d b) (lvO b.Op) 0;have:=Ha (zQ d c) (lvO c.Op) 0
  have e:jF ⟨16,0,[],[],[a,b,c]⟩=jF a+jF b+jF c+1:=by rw[jF,H9,H9,H9,H9];omega
  rw[e]
  show(Ae++(atS (zQ d a) (lvO a.Op) 0++(yQ++(atS (zQ d b) (lvO b.Op) 0++(yP++atS (zQ d c) (lvO c.Op) 0))))).length<=_
  simp only[laQ,lif,lth,lel];omega
 |@bin d op a b hb _ _ ia ib =>
  have:=Ha (zQ d a) (lvO a.Op) (zls op);have:=Ha (zQ d b) (lvO b.Op) (lvO op+1);have:=zFd op
  have e:jF (Zu op a b)=jF a+jF b+1:=by unfold Zu;rw[jF,H9,H9,H9];omega
  rw[zqd hb,e];simp only[laQ,lsp];omega
def zqj{e:Expr}(h:okE 12 e=bg)(hq:jF e<=5000):zFy (.inr (zQ 12 e)):=⟨xM (ze6 12 e h),by
 have:=zLo (zFf 12 e h)
 show(zQ 12 e).length<=_;omega⟩
def zly{i:Nat}(h:i<6):zFy (.inr (ow.getD i [])):=by
 obtain rfl|rfl|rfl|rfl|rfl|rfl:i=0∨i=1∨i=2∨i=3∨i=4∨i=5:=ab
 all_goals exact xm ae
def zqk{i:Nat}(h:i<3):zFy (.inr (J0.getD i [])):=by
 obtain rfl|rfl|rfl:i=0∨i=1∨i=2:=ab
 all_goals exact xm ae
def zb5{l:List zV}(h:Hs l):∀p∈l,AG p.X/\AG p.Y:=λp hp=>by
 obtain⟨i,hi⟩:=gS.1 hp;have hlt:=qN hi;have hc:=h.2.1 i (cj _) hlt
 have e:ptA l i=p:=by
  unfold ptA;rw[eN hlt,cg,hi];rfl
 simp only[bn,zzh,zzg,aW,e]at hc;exact⟨⟨ab,ab⟩,⟨ab,ab⟩⟩
def zZz{l:List zV}(h:Hs l):YL (l.flatMap ptT):=Qb λp hp=>zl (yK (zb5 h p hp).1) (zl (yK (zb5 h p hp).2) yD)
def Yt{p:zg}(h:Yl p):AG p.X/\AG p.Y/\AG p.Z_:=⟨we h.1 ab ab,we h.2.1 ab ab,we h.2.2 ab ab⟩
def zlz{p:zg}(h:zz7 p):AG p.X/\AG p.Y/\AG p.Z_:=⟨we h.1 ab ab,we h.2.1 ab ab,we h.2.2 ab ab⟩
def zzr{p:zg}(h:AG p.X/\AG p.Y/\AG p.Z_):YL (YK p):=zl (yK h.1) (zl (yK h.2.1) (zl (yK h.2.2) yD))
def zZ0{d:Def}(hn:zN d.aL=bg)(hk:okE 12 d.Body=bg)(hq:jF d.Body<=5000):YL (zz8 d):=zl (xm ae) (zl (vu hn) (zl (xm ae) (zl (zqj hk hq) yD)))
def zZ1{x:aw}(hn:zN x.aL=bg)(h:-1099511627776<=x.N/\x.N<=1099511627776):YL (ztp x):=zl (vu hn) (zl (yK (we h ab ab)) yD)
def Yu{t:au}(h:A9 t):∀x∈t.Rows,zN x.aL=bg:=λx hx=>bj.1 (Zx _ _ h.1.2) _ (cF hx)
def zT3{t:au}(hn:zN t.aL=bg)(h:A9 t):YL (Kj t):=jD (zl (xm ae) (zl (vu hn) yD)) (jD (Qb λx hx=>zZ1 (Yu h x hx) (h.2.2 x hx)) (zl (xm ae) (zl (yK (we h.2.1 ab ab)) yD)))
def zql(b:Bool):zFy (.inr (bif b then yr else yR)):=by
 cases b
 ·exact xm ae
 ·exact xm ae
def zZ2{z:yt}(hn:zN z.aL=bg)(h:Hs z.aA):YL (ze7 z):=jD (zl (zql _) (zl (vu hn) yD)) (zZz h)
def cap_A{c:Cap}(hn:zN c.aL=bg)(h:zLb c):YL (zFr c):=jD (zl (xm ae) (zl (vu hn) (zl (zqk (by have:=h.1;omega)) (zl (yK (we h.2.1 ab ab)) yD)))) (zZz h.2.2)
def zZ3{v:av}(hn:zN v.aL=bg)(h:Zz v):YL (ze8 v):=by
 obtain⟨l1,l2,l3,l4⟩:=h;obtain⟨e1,e2,e3⟩:=Yt l3;exact jD (zl (xm ae) (zl (vu hn) (zl (yK e1) (zl (yK e2) (zl (yK e3) (zl (xm ae) (zl (yK (we l1 ab ab)) (zl (xm ae) yD)))))))) (Qb λx hx=>zzr (Yt (l4 x hx)))
def zFz{w:ak}{l:List ak}(hw:zFy (.inr w))(h:l.all zN=bg):YL (wc w l):=by
 unfold wc;cases l.isEmpty
 ·exact zl hw λy hy=>by
   obtain⟨s,hs,rfl⟩:=bu.1 hy;exact vu (bj.1 h s hs)
 ·exact yD
def zF0{w:ak}{n:Int}(hw:zFy (.inr w))(h:AG n):YL (vk w n):=by
 unfold vk;split
 ·exact yD
 ·exact zl hw (zl (yK h) yD)
def zZ4{r:zO}(h:VE r)(hq:jF r.Test<=5000):YL (Qa r):=by
 obtain⟨⟨k0,k3⟩,b1,b2,b3,b4,b5,b6,b7,b8⟩:=h;unfold Qa;by_cases h0:r.aM=0
 ·rw[aP h0];exact zl (zqj (b1 h0) hq) yD
 rw[aO h0];by_cases h1:r.aM=1
 ·obtain⟨n1,n2,n3,n4⟩:=b3 h1
  rw[aP h1];exact zl (xm ae) (zl (yK (we n1 ab ab)) (zl (xm ae) (zl (yK (we n2 ab ab)) (zl (xm ae) (zl (yK (we n3 ab ab)) (zl (yK (we n4 ab ab)) yD))))))
 rw[aO h1];by_cases h3:r.aM=3
 ·obtain⟨n1,n2,n3⟩:=b6 h3
  rw[aP h3];exact zl (xm ae) (zl (zly ab) (zl (zly ab) (zl (yK (we n3 ab ab)) yD)))
 rw[aO h3];refine zl (xm ae) (Qb λi hi=>?_);unfold ztq;cases dH r.Uses.toNat i
 ·exact yD
 ·exact zl (zly (by simpa using hi)) yD
def zZ5{r:zO}(hn:zN r.aL=bg)(h:Yj r)(hq:jF r.Test<=5000):YL (VK r):=by
 obtain⟨⟨⟨z0,x0⟩,d1,d2,d3,_⟩,hb⟩:=h;refine jD (zl (xm ae) (zl (vu hn) yD)) (jD (zFz (xm ae) z0) (jD (zFz (xm ae) x0) (jD (zF0 (xm ae) (we d1 ab ab)) (jD (zF0 (xm ae) (we d3 ab ab)) (jD (zF0 (xm ae) (we d2 ab ab)) (jD ?_ (zl (xm ae) (zZ4 hb hq))))))));cases r.Vary
 ·exact yD
 ·exact zl (xm ae) yD
def sun_A{l:List zg}(h:∀p∈l,zz7 p):YL (zFs l):=by
 cases l with
 |nil=>exact yD
 |cons p r=>exact jD (zl (xm ae) (zzr (zlz (h p al)))) (Qb λq hq=>zl (xm ae) (zzr (zlz (h q (mcQ _ hq)))))
def zF1{n:Int}(h:0<=n/\n<=24):YL (Q9 n):=zl (xm ae) (zl (yK (we h ab ab)) yD)
-- lengths
def zPd:∀{l:List Tok},YL l->(spT l).length<=l.length*400001
 |[],_=>by simp[spT]
 |x::l,h=>by
  have h1:=(h x al).2;have h2:=zPd (l:=l) (λy hy=>h y (mcQ _ hy));rw[zb4];simp only[lc,laQ];omega
def He{l:List Tok}(h:YL l)(hl:l.length<=7000):(yi l).length<=2900000000:=by
 cases l with
 |nil=>decide
 |cons x r =>
  have h1:=(h x al).2;have h2:=zPd (l:=r) (λy hy=>h y (mcQ _ hy));rw[jT];simp only[laQ,lc,bI]at hl ⊢;omega
def uM{α β:Type}{f:α->List β}{n:Nat}:∀{l:List α},(∀x∈l,(f x).length<=n)->(l.flatMap f).length<=l.length*n
 |[],_=>af
 |x::l,h=>by
  have h1:=h x al;have h2:=uM (l:=l) (λy hy=>h y (mcQ _ hy));rw[bO,laQ,lc,Nat.add_mul];omega
structure zT4(p:yZ):Prop where
 d:∀x∈p.aF,zN x.aL=bg
 t:∀x∈p.Tables,zN x.aL=bg
 z:∀x∈p.aB,zN x.aL=bg
 r:∀x∈p.aE,zN x.aL=bg
 c:∀x∈p.aJ,zN x.aL=bg
 v:∀x∈p.aG,zN x.aL=bg
def Ja{α:Type}{l:List α}{g:α->ak}{m:Nat}(h:kg l g m):∀x∈l,zN (g x)=bg:=λx hx=>bj.1 (Zx _ _ h.2) _ (cF hx)
def zl0{p:yZ}(h:Q8 p):zT4 p:=by
 obtain⟨⟨h1,h2,h3,h4,h5,h6⟩,_⟩:=h;exact⟨Ja h1,Ja h2,Ja h3,Ja h4,Ja h5,Ja h6⟩
def zLp{t:au}(h:t.Rows.length<=64):(Kj t).length<=300:=by
 have:=uM (f:=ztp) (n:=2) (l:=t.Rows) (λx _=>by simp[ztp]);simp only[Kj,laQ,lc,bI];omega
def zF2{l:List zV}(h:l.length<=64):(l.flatMap ptT).length<=128:=by
 have:=uM (f:=ptT) (n:=2) (l:=l) (λx _=>by simp[ptT]);omega
def zLq{r:zO}(h:zHo r=bg):(VK r).length<=7000:=by
 obtain⟨_,⟨z1,_⟩,⟨x1,_⟩,_⟩:=Yk h
 have nl:∀(w:ak)(l:List ak),(wc w l).length<=l.length+1:=λw l=>by
  unfold wc;cases l.isEmpty<;>simp
 have sl:∀(w:ak)(n:Int),(vk w n).length<=2:=λw n=>by
  unfold vk;split<;>simp
 have ul:((cL 6).flatMap (ztq r.Uses)).length<=6:=by
  have:=uM (f:=ztq r.Uses) (n:=1) (l:=cL 6) (λi _=>by unfold ztq;cases dH r.Uses.toNat i<;>simp);simpa using this
 have bl:(Qa r).length<=7:=by
  unfold Qa;split
  ·simp
  split
  ·simp
  split
  ·simp
  simp only[lc];omega
 have vl:((bif r.Vary then[br wB]else[]):List Tok).length<=1:=by cases r.Vary<;>simp
 have a1:=nl zft r.aB;have a2:=nl xe r.Except;have a3:=sl vE r.From;have a4:=sl xK r.Until;have a5:=sl xW r.Grace;simp only[VK,laQ,lc,bI];omega
def zzs{p:yZ}(hf:zZm p)(h:Q8 p):(Kk p).length<=40000000000000:=by
 have nm:=zl0 h;obtain⟨_,⟨b1,b2,b3,b4,b5,b6,b7⟩,hh,hs⟩:=h
 have d1:=uM (l:=p.aF) (f:=λx=>yi (zz8 x)) (n:=2900000000) λx hx=>He (zZ0 (nm.d x hx) (b1 x hx) (Yi (hf.ds x hx).2).1) (by simp[zz8])
 have d2:=uM (l:=p.Tables) (f:=λx=>yi (Kj x)) (n:=2900000000) λx hx=>He (zT3 (nm.t x hx) (b2 x hx)) (cU (zLp (hf.ts x hx).2.1) ab)
 have d3:=uM (l:=p.aB) (f:=λx=>yi (ze7 x)) (n:=2900000000) λx hx=>He (zZ2 (nm.z x hx) (b3 x hx)) (by have:=zF2 (hf.zs x hx).2;simp only[ze7,laQ,lc,bI];omega)
 have d4:=uM (l:=p.aE) (f:=λx=>yi (VK x)) (n:=2900000000) λx hx=>He (zZ5 (nm.r x hx) (b4 x hx) (Yi (Yk (hf.rs x hx)).2.2.2).1) (zLq (hf.rs x hx))
 have d5:=uM (l:=p.aJ) (f:=λx=>yi (zFr x)) (n:=2900000000) λx hx=>He (cap_A (nm.c x hx) (b5 x hx)) (by have:=zF2 (hf.cs x hx).2;simp only[zFr,laQ,lc,bI];omega)
 have d6:=uM (l:=p.aG) (f:=λx=>yi (ze8 x)) (n:=2900000000) λx hx=>He (zZ3 (nm.v x hx) (b6 x hx)) (by
  have:=uM (f:=YK) (n:=3) (l:=x.Targets) (λy _=>by simp[YK]);have:=(hf.vs x hx).2
  simp only[ze8,laQ,lc,bI];omega)
 have d7:((bif p.aK.isEmpty then[]else yi (zFs p.aK)):ak).length<=2900000000:=by
  cases hsn:p.aK with
  |nil=>simp
  |cons q r =>
   simp only[List.isEmpty_cons,cf];rw[hsn]at b7 hs;refine He (sun_A b7) ?_;have:=uM (f:=λp=>br kP::YK p) (n:=4) (l:=r) (λy _=>by simp[YK]);simp only[lc]at hs;simp only[zFs,laQ,lc,YK,bI]at this ⊢;omega
 have d8:((if p.aI=0 then[]else yi (Q9 p.aI)):ak).length<=2900000000:=by
  split
  ·simp
  ·exact He (zF1 hh) (by simp[Q9])
 have:=hf.d;have:=hf.t;have:=hf.z;have:=hf.r;have:=hf.c;have:=hf.v;simp only[Kk,laQ];omega
def zF3{p:yZ}(hf:zZm p)(h:Q8 p):(Kk p).length<=140737488355328:=cU (zzs hf h) ab
inductive Decl
 |d (x:Def)
 |t (x:au)
 |z (x:yt)
 |r (x:zO)
 |c (x:Cap)
 |v (x:av)
 |s (x:List zg)
 |h (x:Int)
def zF4:Decl->List Tok
 |.d x=>zz8 x
 |.t x=>Kj x
 |.z x=>ze7 x
 |.r x=>VK x
 |.c x=>zFr x
 |.v x=>ze8 x
 |.s x=>zFs x
 |.h x=>Q9 x
def zzt(n:Int):List T3:=if n<0 then[sgQ xa,wa (0-n)]else[wa n]
def zZ6(x:aw):List T3:=kwQ x.aL::zzt x.N
def ptQ(p:zV):List T3:=[wa p.X,wa p.Y]
def zT5(p:zg):List T3:=[wa p.X,wa p.Y,wa p.Z_]
def zHp(p:zg):List T3:=zzt p.X++(zzt p.Y++[wa p.Z_])
def zao(w:ak)(l:List ak):List T3:=bif l.isEmpty then[]else kwQ w::l.map kwQ
def zl1(w:ak)(n:Int):List T3:=if n=0 then[]else[kwQ w,wa n]
def zLr(b:Bool):List T3:=bif b then[kwQ wB]else[]
def z1t(u:Int):List T3:=((cL 6).filter (dH u.toNat)).map λi=>kwQ (ow.getD i [])
def zF5(r:zO):List T3 :=
 if r.aM=0 then xH 12 r.Test
 else if r.aM=1 then[kwQ qt,wa r.zy.Side,kwQ AX,wa r.zy.Base,kwQ jH,wa r.zy.Num,wa r.zy.Den]
 else if r.aM=3 then[kwQ qs,kwQ (ow.getD r.Uses.toNat []),kwQ (ow.getD r.Other.toNat []),wa r.N]
 else kwQ Ag::z1t r.Uses
def zT6(r:zO):List T3:=zao zft r.aB++(zao xe r.Except++(zl1 vE r.From++(zl1 xK r.Until++(zl1 xW r.Grace++(zLr r.Vary++(sgQ xQ::zF5 r))))))
def sunQ:List zg->List T3
 |[]=>[]
 |p::r=>zHp p++r.flatMap λp=>sgQ kP::zHp p
def jJ:Decl->ak
 |.d _=>xJ
 |.t _=>ym
 |.z x=>bif x.Overlay then yr else yR
 |.r _=>jN
 |.c _=>Ko
 |.v _=>ql
 |.s _=>Af
 |.h _=>vA
def QR:Decl->List T3
 |.d x=>kwQ x.aL::sgQ AQ::xH 12 x.Body
 |.t x=>kwQ x.aL::(x.Rows.flatMap zZ6++(kwQ xh::zzt x.Else))
 |.z x=>kwQ x.aL::x.aA.flatMap ptQ
 |.r x=>kwQ x.aL::zT6 x
 |.c x=>kwQ x.aL::kwQ (J0.getD x.Load.toNat [])::wa x.Limit::x.aA.flatMap ptQ
 |.v x=>kwQ x.aL::wa x.Eye.X::wa x.Eye.Y::wa x.Eye.Z_::kwQ vO::wa x.Least::sgQ xQ::x.Targets.flatMap zT5
 |.s x=>sunQ x
 |.h x=>[wa x]
def AR:Decl->Prop
 |.d x=>zN x.aL=bg/\OX 12 x.Body
 |.t x=>zN x.aL=bg/\A9 x
 |.z x=>zN x.aL=bg/\Hs x.aA
 |.r x=>zN x.aL=bg/\Yj x
 |.c x=>zN x.aL=bg/\zLb x
 |.v x=>zN x.aL=bg/\Zz x
 |.s x=>x≠[]/\(∀p∈x,zz7 p)/\x.length<=24
 |.h x=>0<=x/\x<=24/\x≠0
def TQ(l:List Tok)(ts:List T3):Prop:=spT l=sq ts/\OKs ts
def ziu:TQ [] []:=⟨rfl,AI⟩
def Kl{a b:List Tok}{ts us:List T3}(ha:TQ a ts)(hb:TQ b us):TQ (a++b) (ts++us):=⟨by rw[JZ,zO7,ha.1,hb.1],VJ ha.2 hb.2⟩
def zl2{α:Type}{l:List α}{f:α->List Tok}{g:α->List T3}(h:∀x∈l,TQ (f x) (g x)):TQ (l.flatMap f) (l.flatMap g):=by
 induction l with
 |nil=>exact ziu
 |cons x l ih=>rw[bO,bO];exact Kl (h x al) (ih λy hy=>h y (mcQ _ hy))
def ziv{s:ak}{t:T3}(h:okT t)(e:t.2.1=s):TQ [.inr s] [t]:=⟨by subst e;rfl,xq h AI⟩
def zgj{w:ak}(h:Kp w=bg):TQ [.inr w] [kwQ w]:=ziv (zFg h) rfl
def zay{w:ak}(h:zN w=bg):TQ [.inr w] [kwQ w]:=ziv (Yo h) rfl
def zF6{e:Expr}(h:OX 12 e):TQ [.inr (zQ 12 e)] (xH 12 e):=by
 obtain⟨h1,h2,h3⟩:=uL h;refine⟨?_,h2⟩;rw[zLe h1,<- h3]
 show 32::zQ 12 e++[]=_
 rw[bE]
def yu{x:Tok}{l:List Tok}{t:T3}{ts:List T3}(ha:TQ [x] [t])(hb:TQ l ts):TQ (x::l) (t::ts):=Kl ha hb
def qh{n:Int}(h0:0<=n)(h1:n<=1099511627776):TQ [.inl n] [wa n]:=by
 refine⟨?_,xq (zb3 h0 h1) AI⟩
 show 32::QQ (.inl n)++[]=32::Lib.decDigits n.toNat++[]
 rw[VH,aO ab]
def zwy{n:Int}(h0:-1099511627776<=n)(h1:n<=1099511627776):TQ [.inl n] (zzt n):=by
 unfold zzt;split
 ·rename_i h
  refine⟨?_,xq rfl (xq (zb3 ab ab) AI)⟩
  show 32::QQ (.inl n)++[]=32::xa++(32::Lib.decDigits (0-n).toNat++[])
  rw[VH,aP h,bE,bE,show(0-n).toNat=n.natAbs by omega];rfl
 ·exact qh ab h1
def ZD{l:List zV}(h:Hs l):∀p∈l,(0<=p.X/\p.X<=1048576)/\(0<=p.Y/\p.Y<=1048576):=λp hp=>by
 obtain⟨i,hi⟩:=gS.1 hp;have hlt:=qN hi;have hc:=h.2.1 i (cj _) hlt
 have e:ptA l i=p:=by
  unfold ptA;rw[eN hlt,cg,hi];rfl
 simp only[bn,zzh,zzg,aW,e]at hc;exact⟨⟨ab,ab⟩,⟨ab,ab⟩⟩
def zPe{l:List zV}(h:Hs l):TQ (l.flatMap ptT) (l.flatMap ptQ):=zl2 λp hp=>by
 obtain⟨⟨a,b⟩,c,d⟩:=ZD h p hp;exact yu (qh a ab) (qh c ab)
def zZ7{p:zg}(h:Yl p):TQ (YK p) (zT5 p):=by
 obtain⟨⟨a,b⟩,⟨c,d⟩,e,f⟩:=h;exact yu (qh a ab) (yu (qh c ab) (qh e ab))
def zPf{p:zg}(h:zz7 p):TQ (YK p) (zHp p):=by
 obtain⟨⟨a,b⟩,⟨c,d⟩,e,f⟩:=h;exact Kl (a:=[.inl p.X]) (zwy ab ab) (Kl (a:=[.inl p.Y]) (zwy ab ab) (qh ab ab))
def zwz{w:ak}{l:List ak}(hw:Kp w=bg)(h:l.all zN=bg):TQ (wc w l) (zao w l):=by
 unfold wc zao;cases l.isEmpty
 ·refine yu (zgj hw) ?_
  have:∀l:List ak,l.all zN=bg->TQ (l.map .inr) (l.map kwQ):=λl=>by
   induction l with
   |nil=>exact λ_=>ziu
   |cons x l ih =>
    intro h;rw[cO,bn]at h;exact yu (zay h.1) (ih h.2)
  exact this l h
 ·exact ziu
def ztt{w:ak}{n:Int}(hw:Kp w=bg)(h0:0<=n)(h1:n<=1099511627776):TQ (vk w n) (zl1 w n):=by
 unfold vk zl1;split
 ·exact ziu
 ·exact yu (zgj hw) (qh h0 h1)
def zT7(b:Bool):TQ (bif b then[.inr wB]else[]) (zLr b):=by
 cases b
 ·exact ziu
 ·exact zgj rfl
def zl3:∀i<6,zN (ow.getD i [])=bg:=ah
def zF7:∀i<3,zN (J0.getD i [])=bg:=ah
def zZ8(u:Int):TQ ((cL 6).flatMap (ztq u)) (z1t u):=by
 unfold z1t
 have:∀l:List Nat,(∀i∈l,i<6)->TQ (l.flatMap (ztq u)) ((l.filter (dH u.toNat)).map λi=>kwQ (ow.getD i [])):=λl=>by
  induction l with
  |nil=>exact λ_=>ziu
  |cons i l ih =>
   intro h
   have ih:=ih λj hj=>h j (mcQ _ hj)
   rw[bO,List.filter_cons];unfold ztq;cases dH u.toNat i
   ·exact ih
   ·exact yu (zay (zl3 i (h i al))) ih
 exact this _ λi hi=>by simpa using hi
def zT8{r:zO}(h:VE r):TQ (Qa r) (zF5 r):=by
 obtain⟨⟨k0,k3⟩,b1,b2,b3,b4,b5,b6,b7,b8⟩:=h;unfold Qa zF5;by_cases h0:r.aM=0
 ·rw[aP h0,aP h0];exact zF6 (zFf 12 _ (b1 h0))
 rw[aO h0,aO h0];by_cases h1:r.aM=1
 ·obtain⟨n1,n2,n3,n4⟩:=b3 h1
  rw[aP h1,aP h1];exact yu (zgj rfl) (yu (qh ab ab) (yu (zgj rfl) (yu (qh ab ab) (yu (zgj rfl) (yu (qh ab ab) (qh ab ab))))))
 rw[aO h1,aO h1];by_cases h3:r.aM=3
 ·obtain⟨n1,n2,n3⟩:=b6 h3
  rw[aP h3,aP h3];exact yu (zgj rfl) (yu (zay (zl3 _ ab)) (yu (zay (zl3 _ ab)) (qh ab ab)))
 rw[aO h3,aO h3];exact yu (zgj rfl) (zZ8 r.Uses)
def zT9{r:zO}(h:Yj r):TQ (wc zft r.aB++(wc xe r.Except++(vk vE r.From++(vk xK r.Until++(vk xW r.Grace++((bif r.Vary then[.inr wB]else[])++(.inr xQ::Qa r))))))) (zT6 r):=by
 obtain⟨⟨⟨z0,x0⟩,d1,d2,d3,_⟩,hb⟩:=h;exact Kl (zwz rfl z0) (Kl (zwz rfl x0) (Kl (ztt rfl ab ab) (Kl (ztt rfl ab ab) (Kl (ztt rfl ab ab) (Kl (zT7 _) (yu (ziv (t:=sgQ xQ) rfl rfl) (zT8 hb)))))))
def zF8:∀{d:Decl},AR d->∃l,zF4 d=.inr (jJ d)::l/\TQ l (QR d)
 |.d x,⟨hn,h⟩=>⟨_,rfl,yu (zay hn) (yu (ziv (t:=sgQ AQ) rfl rfl) (zF6 h))⟩
 |.t x,⟨hn,h⟩=>⟨.inr x.aL::(x.Rows.flatMap ztp++[.inr xh,.inl x.Else]),rfl,yu (zay hn) (Kl (zl2 λy hy=>yu (zay (Yu h y hy)) (zwy (h.2.2 y hy).1 (h.2.2 y hy).2)) (yu (zgj (w:=xh) rfl) (zwy h.2.1.1 h.2.1.2)))⟩
 |.z x,⟨hn,h⟩=>⟨_,rfl,yu (zay hn) (zPe h)⟩
 |.r x,⟨hn,h⟩=>⟨_,rfl,yu (zay hn) (zT9 h)⟩
 |.c x,⟨hn,h⟩=>⟨_,rfl,yu (zay hn) (yu (zay (zF7 _ (by have:=h.1;omega))) (yu (qh h.2.1.1 (by have:=h.2.1.2;omega)) (zPe h.2.2)))⟩
 |.v x,⟨hn,l1,l2,⟨e1,e2,e3⟩,l4⟩=>⟨_,rfl,yu (zay hn) (yu (qh e1.1 ab) (yu (qh e2.1 ab) (yu (qh e3.1 ab) (yu (zgj rfl) (yu (qh l1.1 ab) (yu (ziv (t:=sgQ xQ) rfl rfl) (zl2 λy hy=>zZ7 (l4 y hy))))))))⟩
 |.s [],⟨hn,_,_⟩=>aU rfl hn
 |.s (p::r),⟨_,h,_⟩=>⟨_,rfl,Kl (zPf (h p al)) (zl2 λq hq=>yu (ziv (t:=sgQ kP) rfl rfl) (zPf (h q (mcQ _ hq))))⟩
 |.h x,⟨h0,h1,_⟩=>⟨_,rfl,qh h0 ab⟩
def zzu(d:Decl):Kp (jJ d)=bg:=by
 cases d with
 |z x=>cases h:x.Overlay<;>simp only[jJ,h]<;>rfl
 |_=>rfl
def AS(d:Decl):List T3:=kwQ (jJ d)::QR d
def Yv{d:Decl}(h:AR d):OKs (AS d):=by
 obtain⟨l,_,h2⟩:=zF8 h;exact xq (zFg (zzu d)) h2.2
def zfb{d:Decl}(h:AR d):yi (zF4 d)=jq (AS d)++[32,59,10]:=by
 obtain⟨l,h1,h2⟩:=zF8 h;rw[h1,jT,h2.1,<- asc];rfl
end Go.Proofs.YtffencjoddkghaaGreatDoor
