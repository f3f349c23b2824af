/- texts that the proof reaches, part 12 -/
import Derived.Test.YtmjfiffpolkdeaaGreatDoorKk
set_option linter.all false
open Bool renaming false->bd,true->bg,not_true->bJ,true_and->cb,false_eq_true->cr,not_false->cu,false_and->dA,and_false->eH,and_true->eO,and_eq_false_iff->fG
open Int renaming toNat->bQ,toNat_natCast->dD,toNat_of_nonneg->eE,one_mul->ig,tdiv->abS
open List renaming length->bf,all_eq_true->bj,mem_cons->bq,mem_append->bw,mem_map->bz,getElem?_eq_getElem->bF,mem_of_getElem?->bG,length_map->bL,append_nil->bM,length_nil->bN,cons_append->bO,length_drop->bU,length_take->bX,getD_eq_getElem?_getD->bY,nil_append->cl,mem_map_of_mem->cm,all_cons->cv,getElem?_map->cC,map_append->cG,flatMap_cons->cN,map->cP,range->cQ,not_mem_nil->cU,length_pos_iff->db,drop_drop->dz,foldl_cons->dB,take_succ_cons->dR,append_inj'->dY,drop_take->eg,flatMap_nil->eo,flatten_nil->eY,takeWhile_cons->fb,all_append->fm,dropLast_concat_getLast->aa1,flatMap_append->abd,all_nil->gh,drop->gN,mem_iff_getElem?->abb,eq_nil_or_concat->aba,mem_of_getLast?->abF,take->iz,isEmpty_cons->abw,all_map->iY,isEmpty_nil->abU
open Nat renaming zero_le->bP,zero_add->cA,le_trans->cR,lt_succ_self->cT,le_refl->du,add_mul->dC,testBit->dK,add_zero->dM,not_lt_zero->eA,add_assoc->eD,add_comm->eW,mod_eq_of_lt->eX,pow_succ->fC
open Option renaming bind->aN,some->bc,none->bh,map_eq_some_iff->cx
open Sum renaming inl->bp,inr->br
set_option maxRecDepth 100000
namespace Go.Proofs.YtmjfiffpolkdeaaGreatDoor
open Go Go.RowKit Go.iE Go.EV Go.EQ
variable[Fuel]
def Yr:Int⊕ak->Prop
 |.inl n=>jI n
 |.inr _=>True
def zK1{s:ak}(h:s.length<=140737488355328):(aN ((bif (!(decide (s=([]:ak))))then(idx s (aS (((bf s:Nat):Int)-1))).bind λx6=>bc (!(decide (((x6.toNat:Nat):Int)=10)))else bc bd)) λx5=>(bif x5 then(HK s 32).bind λx7=>bc x7 else bc s))=(ea ((sg s).length<=140737488355328)).bind λ_=>bc (sg s):=by
 cases s with
 |nil=>rfl
 |cons c r =>
  have hn:¬(c::r)=[]:=af;rw[df hn,cu,aH,yv (by simp only[lc];omega) ab,show((((c::r).length:Nat):Int)-1)=(((c::r).length-1:Nat):Int) by simp only[lc];omega];have hg:(c::r)[(c::r).length-1]?=(c::r).getLast?:=(List.getLast?_eq_getElem? ..).symm
  obtain⟨a,ha⟩:∃a,(c::r).getLast?=bc a:=by
   cases h:(c::r).getLast? with
   |none=>exact aU (List.getLast?_eq_none_iff.1 h) hn
   |some a=>exact⟨a,rfl⟩
  rw[zW (hg.trans ha),aC,aC];unfold sg;rw[show(c::r).isEmpty=bd from rfl,Bool.false_or,ha]
  have e:decide (((a.toNat:Nat):Int)=10)=decide (bc a=bc (10:UInt8)):=yI (by
   constructor
   .intro h;rw[UInt8.toNat_inj.1 (show a.toNat=(10:UInt8).toNat by show a.toNat=10;omega)]
   .intro h;cases h;rfl)
  rw[e]
  cases hd:decide (bc a=bc (10:UInt8))with
  |true =>
   simp only[bJ,cf,aH];rw[zt h];rfl
  |false =>
   simp only[cu,cf,aH];unfold HK Px
   have:((0:Int)<=32/\(32:Int)<256/\(c::r).length+1<=140737488355328)↔((c::r)++[32]).length<=140737488355328:=by simp only[la,List.length_singleton];omega
   by_cases hl:((c::r)++[32]).length<=140737488355328
   .rw[zt (this.2 hl),zt hl];rfl
   .unfold ea;rw[aO hl,aO (λh=>hl (this.1 h))];rfl
def zSd(s:ak):s.length<=(sg s).length:=by
 unfold sg
 cases s.isEmpty||decide (s.getLast?=bc 10)
 .simp only[cf,la];omega
 .exact du _
def zFm(s:ak)(x:Int⊕ak):s.length<=(pF s x).length:=by unfold pF;have:=zSd s;rw[la];omega
def zv2:∀(l:List (Int⊕ak))(s:ak),s.length<=(l.foldl pF s).length
 |[],s=>du _
 |x::l,s=>by rw[dB];have:=zFm s x;have:=zv2 l (pF s x);omega
def zY2(l:List (Int⊕ak))(hs:l.length<4611686018427387904)(hN:∀x∈l,Yr x):∀(r:List (Int⊕ak))(i K:Nat)(s:ak),l.drop i=r->i<=l.length->r.length<K->(r.foldl pF s).length<=140737488355328 ->
  u6 l (bf l:Nat) K (s,(i:Int))=bc (r.foldl pF s)
 |[],i,K,s,hr,hi,hK,hb=>by
  obtain⟨K,rfl⟩:∃k,K=k+1:=⟨K-1,by simp at hK;omega⟩
  have:=drop_nil hr hi;subst this;rw[u6];simp only[xQ,cf,List.foldl_nil]
 |x::r,i,K,s,hr,hi,hK,hb=>by
  obtain⟨K,rfl⟩:∃k,K=k+1:=⟨K-1,by simp at hK;omega⟩
  obtain⟨h1,h2,h3⟩:=yZ hr;simp only[lc]at hK;rw[dB]at hb ⊢;have l1:=zv2 r (pF s x);have l2:=zFm s x
  have l3:(sg s).length+(Hj x).length<=140737488355328:=by
   have:(pF s x).length=(sg s).length+(Hj x).length:=by unfold pF;rw[la]
   omega
  have hx:=hN x (bG h1)
  have key:((aN ((bif (!(decide (s=([]:ak))))then(idx s (aS (((bf s:Nat):Int)-1))).bind λx6=>bc (!(decide (((x6.toNat:Nat):Int)=10)))else bc bd)) λx5=>(bif x5 then(HK s 32).bind λx7=>bc x7 else bc s))).bind (λx3=>(bif (Eu x)then(oK x3 (anyS x)).bind λx8=>bc x8.2 else(bif (!(Eu x))then((bif (decide ((anyI x)<0))then(oK x3 ud).bind λgw=>bc (gw.2,(aS (0-(anyI x))))else bc (x3,(anyI x)))).bind λx9=>aN (Jk x9.2) λgK=>aN (oK x9.1 gK) λiZ=>bc iZ.2 else bc x3)))=bc (pF s x):=by
   rw[zK1 ab,zt ab,aC,aC]
   cases x with
   |inr t =>
    simp only[Eu,anyS,aH];rw[ON (show(sg s).length+t.length<=_ from l3)];rfl
   |inl n =>
    obtain⟨g0,g1⟩:-9223372036854775807<=n/\n<=9223372036854775807:=hx
    show(aN (bif (decide (n<0))then(oK (sg s) ud).bind λgw=>bc (gw.2,(aS (0-n)))else bc ((sg s),n)) λx9=>aN (Jk x9.2) λgK=>aN (oK x9.1 gK) λiZ=>bc iZ.2)=_
    rw[Km]at l3;by_cases hn:n<0
    .rw[aP hn]at l3;simp only[lc]at l3;rw[dt hn,aH,ON (by rw[SH];omega),aC,aC,yv ab ab];simp only[];rw[Pj ab ab,aC,show(0-n).toNat=n.natAbs by omega,ON (by rw[la,SH];omega),aC];unfold pF;rw[Km,aP hn,gO];rfl
    .rw[aO hn]at l3;rw[df hn,cf,aC];simp only[];rw[Pj ab ab,aC,ON ab,aC];unfold pF;rw[Km,aO hn]
  rw[u6];simp only[kG h1,aH,zW h1,A6,aC];rw[key,aC,yw ab];exact zY2 l hs hN r (i+1) K _ h2 ab ab hb
def put_eq{l:List (Int⊕ak)}{s:ak}(hs:l.length<4611686018427387904)(hN:∀x∈l,Yr x)(hb:(l.foldl pF s).length<=140737488355328):yc s l=bc (l.foldl pF s):=by unfold yc;rw[show(0:Int)=((0:Nat):Int) from rfl,zY2 l hs hN l 0 KK s rfl (bP _) (vZ ab) hb];rfl
def Vm(s:ak):Prop:=s=[]∨s.getLast?=bc 10
def zFn{s:ak}(h:Vm s):sg s=s:=by
 unfold sg
 rcases h with rfl|h
 .rfl
 .rw[dt h,Bool.or_true];rfl
def zK2{s:ak}:Vm (s++[10]):=.inr (by rw[List.getLast?_append];rfl)
def Gg(x:Int⊕ak):Prop:=Yr x/\Good (Hj x)
def Jd(a b:List (Int⊕ak)):e_ (a++b)=e_ a++e_ b:=abd
def Og(x:Int⊕ak)(b:List (Int⊕ak)):e_ (x::b)=32::Hj x++e_ b:=rfl
def wM{l:List (Int⊕ak)}{s:ak}(hg:Good s)(hl:∀x∈l,Gg x)(hs:l.length<4611686018427387904)(hb:(s++e_ l).length<=140737488355328):yc s l=bc (s++e_ l)/\Good (s++e_ l):=by obtain⟨h1,h2⟩:=U_ hg (λx hx=>(hl x hx).2);rw[<- h1]at hb ⊢;exact⟨put_eq hs (λx hx=>(hl x hx).1) hb,h1▸h2⟩
def Au{x:Int⊕ak}{l:List (Int⊕ak)}{s:ak}(hg:Vm s)(hl:∀y∈x::l,Gg y)(hs:l.length<1000)(hb:(s++(Hj x++e_ l)).length<=140737488355328):yc s (x::l)=bc (s++(Hj x++e_ l))/\Good (s++(Hj x++e_ l)):=by
 have e:pF s x=s++Hj x:=by unfold pF;rw[zFn hg]
 have RV:Good (s++Hj x):=y9 (hl x al).2;obtain⟨h1,h2⟩:=U_ RV (λy hy=>(hl y (gq _ hy)).2);rw[gO]at h1 h2;refine⟨?_,h2⟩;have:=put_eq (l:=x::l) (s:=s) (by simp only[lc];omega) (λy hy=>(hl y hy).1) (by rw[dB,e,h1];exact hb);rw[this,dB,e,h1]
def zFo:Good z8:=⟨ae,ae⟩
def Wo{s:ak}(hg:Good s)(hb:(s++[32,59,10]).length<=140737488355328):qc s=bc (s++[32,59,10])/\Vm (s++[32,59,10]):=by
 simp only[la,lc,bN]at hb;unfold qc;rw[(wM (l:=[br z8]) hg (λx hx=>by rw[bS.1 hx];exact⟨trivial,zFo⟩) ae (by simp only[la,show(e_ [br z8]).length=2 from rfl];omega)).1,aC];unfold HK Px;rw[zt ⟨ae,ae,by simp only[la,show(e_ [br z8]).length=2 from rfl];omega⟩,aC,aC]
 have e:s++e_ [br z8]++[UInt8.ofNat (bQ 10)]=s++[32,59,10]:=by rw[gO];rfl
 rw[e];refine⟨rfl,?_⟩;have:=zK2 (s:=s++[32,59]);simpa using this
def zpj{α:Type}(l:List α)(g:α->ak)(L:Nat->Int->ak->Option ak)(M:Nat)(Inv:ak->Prop)
  (hL:∀K (i:Nat) x s,l[i]?=bc x->Inv s->(s++g x).length<=M->L (K+1) (i:Int) s=L K ((i+1:Nat):Int) (s++g x)/\Inv (s++g x)) (hE:∀K s,L (K+1) (l.length:Int) s=bc s):
  ∀(r:List α)(i K:Nat)(s:ak),l.drop i=r->i<=l.length->r.length<K->Inv s->(s++r.flatMap g).length<=M->L K (i:Int) s=bc (s++r.flatMap g)/\Inv (s++r.flatMap g)
 |[],i,K,s,hr,hi,hK,hI,hM=>by
  obtain⟨K,rfl⟩:∃k,K=k+1:=⟨K-1,by simp at hK;omega⟩
  have:=drop_nil hr hi;subst this;rw[hE];simp only[eo,bM,true_and];exact hI
 |x::r,i,K,s,hr,hi,hK,hI,hM=>by
  obtain⟨K,rfl⟩:∃k,K=k+1:=⟨K-1,by simp at hK;omega⟩
  obtain⟨h1,h2,h3⟩:=yZ hr;simp only[lc]at hK;rw[cN,<- gO]at hM ⊢;obtain⟨e1,e2⟩:=hL K i x s h1 hI (by rw[la]at hM;omega);rw[e1];exact zpj l g L M Inv hL hE r (i+1) K _ h2 ab ab e2 hM
def vE{α:Type}(l:List α)(g:α->ak)(L:Nat->Int->ak->Option ak)(M:Nat)(Inv:ak->Prop){s:ak}(hs:l.length<4611686018427387904)(h0:Inv s)(hM:(s++l.flatMap g).length<=M)
  (hL:∀K (i:Nat) x s,l[i]?=bc x->Inv s->(s++g x).length<=M->L (K+1) (i:Int) s=L K ((i+1:Nat):Int) (s++g x)/\Inv (s++g x)) (hE:∀K s,L (K+1) (l.length:Int) s=bc s):
  L KK 0 s=bc (s++l.flatMap g)/\Inv (s++l.flatMap g):=zpj l g L M Inv hL hE l 0 KK s rfl (bP _) (vZ ab) h0 hM
def Wq{α:Type}(l:List α)(f:α->List (Int⊕ak)):e_ (l.flatMap f)=l.flatMap λx=>e_ (f x):=by unfold e_;rw[List.flatMap_assoc]
-- what tokens look like
def Xq:∀n:Nat,Good (Lib.decDigits n)
 |n=>by
  have hb:∀m<10,UInt8.ofNat (48+m)≠10:=ae;rw[Lib.decDigits];by_cases h:n<10
  .rw[dif_pos h];exact⟨af,by simpa using hb n h⟩
  .rw[dif_neg h];exact y9 ⟨af,by simpa using hb (n % 10) ab⟩
def zK3(n:Int):Good (Hj (.inl n)):=by
 rw[Km];split
 .exact y9 (s:=[45,32]) (Xq _)
 .exact Xq _
def oT{s:ak}(h:zw s=bg):Good s:=by have hn:=vj h;unfold zw at h;simp only[bn]at h;have ha:=bj.1 (Yx h.1);refine⟨hn.2,λhl=>?_⟩;have:=ha 10 (abF hl);revert this;decide
def Pk{t:ak}{a b:Int}(h:Good t):Good (iM t a b):=by
 unfold iM;split
 .rw[<- gO];exact y9 ⟨ae,ae⟩
 .exact h
def U2:∀(d:Nat)(e:Expr),lU d e=bg->Good (zF d e)
 |0,e,h=>by cases h
 |d+1,e,h=>by
  rw[lU,bn]at h;obtain⟨hh,ha⟩:=h;obtain⟨⟨h0,h1,hl⟩,_,_,_,hs,hk⟩:=YF hh
  have arg:∀i,i<e.aZ.length->Good (zF d (xn e i)):=λi hi=>U2 d _ (bj.1 ha _ (zFl hi))
  rw[zF];by_cases o0:e.Op=0
  .rw[aP o0];exact Xq _
  rw[aO o0];by_cases o1:e.Op=1
  .rw[aP o1];exact oT (hs (.inl o1))
  rw[aO o1];by_cases o2:e.Op=2
  .rw[aP o2];exact y9 (y9 (y9 (oT (hk o2))))
  rw[aO o2];by_cases o3:e.Op=3
  .rw[aP o3];exact y9 (oT (hs (.inr (.inr o3))))
  rw[aO o3];by_cases nj:e.Op=16
  .rw[aP nj]
   have:e.aZ.length=3:=by rw[nj]at hl;have:jb 16=3:=rfl;omega
   exact y9 (y9 (y9 (y9 (y9 (Pk (arg 2 ab))))))
  rw[aO nj];by_cases pw:e.Op=15
  .rw[aP pw]
   have:e.aZ.length=1:=by rw[pw]at hl;have:jb 15=1:=rfl;omega
   exact y9 (Pk (arg 0 ab))
  rw[aO pw];by_cases o9:e.Op=9
  .rw[aP o9]
   have:e.aZ.length=1:=by rw[o9]at hl;have:jb 9=1:=rfl;omega
   exact y9 (Pk (arg 0 ab))
  rw[aO o9]
  have:e.aZ.length=2:=by
   have:jb e.Op=2:=by unfold jb;rw[aO ab,aO ab,aO nj]
   omega
  exact y9 (y9 (y9 (y9 (Pk (arg 1 ab)))))
def zY3:ak:=[104,97,108,108]
def zSe:ak:=[104,111,109,101,115]
def zY4:ak:=[112,97,114,107]
def zSf:ak:=[112,108,97,110,116]
def zK4:ak:=[114,117,110,111,102,102]
def zY5:ak:=[115,104,111,112]
def zY6:ak:=[119,111,114,107]
abbrev Tok:=Int⊕ak
def qM:List ak:=[zMp,zY5,zY6,zY4,zSf,zY3]
def u_:List ak:=[zSe,zm9,zK4]
def zsy:jx zi=bc qM:=by unfold jx KN;rw[zt ah,aC];exact aQ bc ah
def zpk:jx zQ=bc u_:=by unfold jx KN;rw[zt ah,aC];exact aQ bc ah
def tK(d:Def):List Tok:=[.inr zO,.inr d.aL,.inr uy,.inr (zF 12 d.Body)]
def sP(x:aw):List Tok:=[.inr x.aL,.inl x.N]
def Kp(t:au):List Tok:=[.inr yG,.inr t.aL]++(t.Rows.flatMap sP++[.inr je,.inl t.nn])
def pA(p:zx):List Tok:=[.inl p.X,.inl p.Y]
def vl(z:zM):List Tok:=[.inr (bif z.mN then zu else zR),.inr z.aL]++z.aA.flatMap pA
def Zj(p:zl):List Tok:=[.inl p.X,.inl p.Y,.inl p.Z_]
def Bn(c:bD):List Tok:=[.inr Br,.inr c.aL,.inr (u_.getD c.np.toNat []),.inl c.pH]++c.aA.flatMap pA
def BF(v:av):List Tok:=[.inr Qt,.inr v.aL,.inl v.iW.X,.inl v.iW.Y,.inl v.iW.Z_,.inr Yc,.inl v.nB,.inr wQ]++v.lB.flatMap Zj
def xE(w:ak)(l:List ak):List Tok:=bif l.isEmpty then[]else .inr w::l.map .inr
def wN(w:ak)(n:Int):List Tok:=if n=0 then[]else[.inr w,.inl n]
def sn(u:Int)(i:Nat):List Tok:=bif dK u.toNat i then[.inr (qM.getD i [])]else[]
def Kq(r:zd):List Tok:=
 if r.aM=0 then[.inr (zF 12 r.Test)]
 else if r.aM=1 then[.inr jh,.inl r.zj.lz,.inr qD,.inl r.zj.ly,.inr wB,.inl r.zj.ln,.inl r.zj.Den]
 else if r.aM=3 then[.inr jg,.inr (qM.getD r.Uses.toNat []),.inr (qM.getD r.gS.toNat []),.inl r.N]
 else .inr kH::(cQ 6).flatMap (sn r.Uses)
def Vh(r:zd):List Tok:=[.inr yn,.inr r.aL]++(xE Z9 r.aB++(xE yx r.Except++(wN wP r.gY++(wN xi r.gW++(wN xp r.hU++((bif r.gZ then[.inr yB]else[])++(.inr wQ::Kq r)))))))
def Cl:List zl->List Tok
 |[]=>[]
 |p::r=>(.inr QR::Zj p)++r.flatMap λp=>.inr QT::Zj p
def Zk(n:Int):List Tok:=[.inr AG,.inl n]
def Av(p:xP):ak:=
 p.aF.flatMap (λx=>zK (tK x))++(p.Tables.flatMap (λx=>zK (Kp x))++(p.aB.flatMap (λx=>zK (vl x))++(p.aE.flatMap (λx=>zK (Vh x))++(p.aJ.flatMap (λx=>zK (Bn x))++(p.aG.flatMap (λx=>zK (BF x)) ++
 ((bif p.aK.isEmpty then[]else zK (Cl p.aK))++(if p.aI=0 then[]else zK (Zk p.aI))))))))
def jv(x:Tok)(l:List Tok):zK (x::l)=Hj x++(e_ l++[32,59,10]):=by rw[zK,gO]
-- names joined
def EX:List ak->ak
 |[]=>[]
 |n::r=>n++r.flatMap λx=>32::x
def zSg:∀{l:List ak},l≠[]->32::EX l=e_ (l.map br)
 |n::r,_=>by
  rw[EX,gf,Og]
  have:∀r:List ak,r.flatMap (λx=>32::x)=e_ (r.map br):=λr=>by unfold e_;rw[List.flatMap_map];rfl
  rw[this];rfl
def zK6{m:Nat}(h1:2<=m)(h2:m<=10000):(aN (ea ((aS (((m:Nat):Int)-1))≠0)) λ_=>(bif (decide (((1:Nat):Int)>=(aS (abS 9223372036854775807 (aS (((m:Nat):Int)-1))))))then bh else bc (aS (0+(aS (((1:Nat):Int)*(aS (((m:Nat):Int)-1))))))))=bc ((m:Int)-1):=by
 have e:aS (((m:Nat):Int)-1)=((m-1:Nat):Int):=by rw[yv ab ab];omega
 have hq:2<=9223372036854775807 / (m-1):=(Nat.le_div_iff_mul_le ab).2 ab;have hq2:9223372036854775807 / (m-1)<=9223372036854775807:=Nat.div_le_self _ _;have et:abS 9223372036854775807 ((m-1:Nat):Int)=((9223372036854775807 / (m-1):Nat):Int):=rfl;rw[e,zt ab,aC,et,yv ab ab,df ab,cf,yv (n:=((1:Nat):Int)*((m-1:Nat):Int)) ab ab,yv ab ab];exact aQ bc ab
def join_eq{l:List ak}(h0:l≠[])(h1:l.length<=10000)(h2:∀s∈l,s.length<=8000):L8 l gU=bc (EX l):=by
 unfold L8 J.qo
 obtain⟨n,r,rfl⟩:∃n r,l=n::r:=by
  cases l with
  |nil=>exact aU rfl h0
  |cons n r=>exact⟨n,r,rfl⟩
 rw[df (show ¬(((n::r).length:Nat):Int)=0 by simp only[lc];omega),cf];by_cases hr:r=[]
 .subst hr;rw[dt (show((([n]:List ak).length:Nat):Int)=1 from rfl),aH,show idx [n] 0=bc n from rfl];simp[EX]
 .have M8:1<=r.length:=by
   cases r with
   |nil=>exact aU rfl hr
   |cons=>simp
  have hlen:(n::r).length=r.length+1:=rfl;rw[df (show ¬(((n::r).length:Nat):Int)=1 by omega),cf,dt (show((bf gU:Nat):Int)>0 by decide),aH];have:=zK6 (m:=(n::r).length) ab ab;rw[show(bf gU:Nat)=1 from rfl,this,aC]
  have PZ:=U9 (n::r) (λ(s:Int) x=>s+((x.length:Nat):Int)) (λs=>bc s) (λi s=>0<=s/\s<=10000+8000*(i:Int)) (λK q s=>J.yq (n::r) gU (bf (n::r):Nat) K (s,q)) ((((n::r).length:Nat):Int)-1) ab ⟨ab,ab⟩ (λK i x s hx hs=>by
   have hi:=qi hx;have alc:=h2 x (bG hx);refine⟨?_,ab,ab⟩
   show J.yq _ _ _ (K+1) (s,(i:Int))=_
   rw[J.yq];simp only[kG hx,aH,zW hx,aC]
   rw[yv (n:=9223372036854775807-s) ab ab,df ab,cf,yv ab ab,yw ab]) (λK s hs=>by
   show J.yq _ _ _ (K+1) (s,_)=_
   rw[J.yq]
   simp only[xQ,cf])
  obtain⟨e1,e2,e3⟩:=PZ;rw[e1,aC]
  have hg:J.Pw (List.foldl (λ(s:Int) x=>s+((x.length:Nat):Int)) ((((n::r).length:Nat):Int)-1) (n::r))=bc []:=by unfold J.Pw J.Tu;rw[zt ab];rfl
  have hn:=h2 n al
  have hb:J.yz [] n=bc (((n.length:Nat):Int),n):=by unfold J.yz;rw[zt (by simp only[bN];omega)];rfl
  have hc:cut (n::r) 1 (((n::r).length:Nat):Int)=bc r:=by have:=Xe (l:=n::r) (a:=1) ab;simpa using this
  have D9:idx (n::r) 0=bc n:=zW (i:=0) rfl;rw[hg,aC,D9,aC,hb,aC,hc,aC]
  have ht:=vE r (λx=>32::x) (λK q s=>J.yr gU r (bf r:Nat) K (q,s)) 1000000000 (λ_=>True) (s:=n) ab trivial (by
    have:∀r:List ak,(∀s∈r,s.length<=8000)->(r.flatMap λx=>32::x).length<=8001*r.length:=λr=>by
     induction r with
     |nil=>intro _;simp
     |cons a r ih=>intro h;have:=ih (λs hs=>h s (gq _ hs));have:=h a al;simp only[cN,la,lc];omega
    have:=this r (λs hs=>h2 s (gq _ hs))
    rw[la];refine cR (Nat.add_le_add_left this _) ?_;omega) (λK i x s hx _ hM=>by
   have hi:=qi hx;refine⟨?_,trivial⟩
   show J.yr _ _ _ (K+1) ((i:Int),s)=_
   simp only[la,lc]at hM;rw[J.yr];simp only[kG hx,aH,zW hx,aC,J.yz]
   rw[zt (by rw[Ng];omega),aC,aC,zt (by rw[la,Ng];omega),aC,aC,yw ab,gO];rfl) (λK s=>by
   show J.yr _ _ _ (K+1) (_,s)=_
   rw[J.yr]
   simp only[xQ,cf])
  rw[ht.1];rfl
def uN{n:Int}(h:jI n):Gg (.inl n):=⟨h,zK3 n⟩
def xr{s:ak}(h:Good s):Gg (.inr s):=⟨trivial,h⟩
def oU{c:UInt8}{r:ak}(h:∀x∈c::r,x≠10):Good (c::r):=⟨af,λhl=>h 10 (abF hl) rfl⟩
def Je{α:Type}{a x:α}(h:x∈[a]):x=a:=bS.1 h
def zpl{s:ak}{e:Expr}(hg:Good s)(hk:lU 12 e=bg)(hb:(s++(e_ [.inr (zF 12 e)]++[32,59,10])).length<=140737488355328):K5 s e=bc (s++(e_ [.inr (zF 12 e)]++[32,59,10]))/\Vm (s++(e_ [.inr (zF 12 e)]++[32,59,10])):=by
 have lj:(s++e_ [.inr (zF 12 e)]++[32,59,10]).length<=140737488355328:=by rw[gO];exact hb
 obtain⟨h1,h2⟩:=wM (l:=[.inr (zF 12 e)]) hg (λx hx=>by rw[Je hx];exact xr (U2 12 e hk)) af (by rw[la]at lj;omega);obtain⟨h3,h4⟩:=Wo h2 lj;rw[gO]at h3 h4;unfold K5;rw[zT,zy6 hk,aC];unfold kN;rw[aC,h1,aC,h3];exact⟨rfl,h4⟩
def zec{s:ak}{l:List zx}(hg:Good s)(hn:∀p∈l,jI p.X/\jI p.Y)(hl:l.length<=64)(hb:(s++(e_ (l.flatMap pA)++[32,59,10])).length<=140737488355328):A7 s l=bc (s++(e_ (l.flatMap pA)++[32,59,10]))/\Vm (s++(e_ (l.flatMap pA)++[32,59,10])):=by
 have lj:(s++e_ (l.flatMap pA)++[32,59,10]).length<=140737488355328:=by rw[gO];exact hb
 rw[Wq]at lj ⊢
 have ht:=vE l (λp=>e_ (pA p)) (λK q s=>xL l (bf l:Nat) K (s,q)) 140737488355328 Good (s:=s) ab hg (by rw[la]at lj;omega) (λK i x s hx hI hM=>by
  have hi:=qi hx;obtain⟨n1,n2⟩:=hn x (bG hx)
  obtain⟨p1,p2⟩:=wM (l:=pA x) hI (λy hy=>by
   rcases bq.1 hy with rfl|hy
   .exact uN n1
   .rw[Je hy];exact uN n2) (by simp[pA]) hM
  refine⟨?_,p2⟩
  show xL _ _ (K+1) (s,(i:Int))=_
  rw[xL];simp only[kG hx,aH,zW hx,aC]
  rw[show([(bp x.X),(bp x.Y)]:List (Int⊕ak))=pA x from rfl,p1,aC,yw ab]) (λK s=>by
  show xL _ _ (K+1) (s,_)=_
  rw[xL]
  simp only[xQ,cf])
 obtain⟨h3,h4⟩:=Wo ht.2 lj;rw[gO]at h3 h4;unfold A7;rw[ht.1,aC,h3];exact⟨rfl,h4⟩
def zFp{l:List ak}(h0:l≠[])(hn:∀s∈l,zw s=bg):Good (EX l):=by
 have key:∀(r:List ak)(n:ak),Good n->(∀s∈r,zw s=bg)->Good (n++r.flatMap λx=>32::x):=λr=>by
  induction r with
  |nil=>intro n hg _;simpa using hg
  |cons a r ih =>
   intro n hg h
   have:=ih (n++32::a) (by
    have:=y9 (s:=n++[32]) (oT (h a al))
    simpa using this) (λs hs=>h s (gq _ hs))
   simpa using this
 cases l with
 |nil=>exact aU rfl h0
 |cons n r=>exact key r n (oT (hn n al)) (λs hs=>hn s (gq _ hs))
def zpm{s w:ak}{l:List ak}(hg:Good s)(hw:Good w)(hn:∀s∈l,zw s=bg)(h1:l.length<=3000)(h2:∀s∈l,s.length<=30)(hb:(s++e_ (xE w l)).length<=140737488355328):
  (bif (decide (((bf l:Nat):Int)>0))then(L8 l gU).bind λx6=>aN (yc s ([(br w),(br x6)]:List (Int⊕ak))) λx7=>bc x7 else bc s)=bc (s++e_ (xE w l))/\Good (s++e_ (xE w l)):=by
 by_cases h0:l=[]
 .subst h0;simp only[xE,abU,aH,e_,eo,bM];exact⟨rfl,hg⟩
 .have hlen:0<l.length:=db.2 h0
  have he:l.isEmpty=bd:=by
   cases l with
   |nil=>exact aU rfl h0
   |cons=>rfl
  have e:e_ (xE w l)=e_ [.inr w,.inr (EX l)]:=by unfold xE;rw[he,cf,Og,Og,<- zSg h0];simp[Hj,e_]
  rw[e]at hb ⊢;rw[dt (show((bf l:Nat):Int)>0 by omega),aH,join_eq h0 ab (λs hs=>cR (h2 s hs) ab),aC]
  obtain⟨p1,p2⟩:=wM (l:=[.inr w,.inr (EX l)]) hg (λy hy=>by
   rcases bq.1 hy with rfl|hy
   .exact xr hw
   .rw[Je hy];exact xr (zFp h0 hn)) af hb
  rw[p1];exact⟨rfl,p2⟩
def Xr{s w:ak}{n:Int}(hg:Good s)(hw:Good w)(hn:jI n)(hb:(s++e_ (wN w n)).length<=140737488355328):
  (bif (!(decide (n=0)))then(yc s ([(br w),(bp n)]:List (Int⊕ak))).bind λx6=>bc x6 else bc s)=bc (s++e_ (wN w n))/\Good (s++e_ (wN w n)):=by
 unfold wN at hb ⊢;by_cases h0:n=0
 .rw[aP h0,dt h0];simp only[e_,eo,bM];exact⟨rfl,hg⟩
 .rw[aO h0]at hb ⊢;rw[df h0,cu,aH]
  obtain⟨p1,p2⟩:=wM (l:=[.inr w,.inl n]) hg (λy hy=>by
   rcases bq.1 hy with rfl|hy
   .exact xr hw
   .rw[Je hy];exact uN hn) af hb
  rw[p1];exact⟨rfl,p2⟩
def zSh:Good Z9:=oU ae
def zs1:Good yx:=oU ae
def zFq:Good wP:=oU ae
def zy7:Good xi:=oU ae
def zy8:Good xp:=oU ae
section mA
variable{c1:ak}{c2 c3:List ak}{c4 c5 c6:Int}{c7:Bool}{c8 c9 c10:Int}{c11 c12:ak}{c13:List Expr}{c14 c15 c16 c17 c18 c19 c20:Int}{s:ak}
def zSi{zs ex:List ak}(hg:Good s)(hn:∀s∈zs,zw s=bg)(h1:zs.length<=3000)(h2:∀s∈zs,s.length<=30)(tz:∀s∈ex,zw s=bg)(rq:ex.length<=3000)(sA:∀s∈ex,s.length<=30)(hb:(s++(e_ (xE Z9 zs)++e_ (xE yx ex))).length<=140737488355328):
  jH ((2:Nat):Int) c1 c2 c3 c4 c5 c6 c7 c8 c9 c10 c11 c12 c13 c14 c15 c16 c17 c18 c19 c20 [zs,ex] KK (s,0)=bc (s++(e_ (xE Z9 zs)++e_ (xE yx ex)))/\Good (s++(e_ (xE Z9 zs)++e_ (xE yx ex))):=by
 obtain⟨k,hk⟩:∃k,KK=k+3:=⟨KK-3,by have:=vZ (n:=100) ab;omega⟩
 rw[<- gO]at hb ⊢;obtain⟨a1,a2⟩:=zpm hg zSh hn h1 h2 (by rw[la]at hb;omega);obtain⟨b1,b2⟩:=zpm a2 zs1 tz rq sA hb;refine⟨?_,b2⟩;rw[hk,jH];simp only[show decide ((0:Int)<((2:Nat):Int))=bg from rfl,aH];rw[zt (show(0:Int)<=0/\(0:Int)<((bf [zs,ex]:Nat):Int) from by simp),aC,show([zs,ex])[(bQ 0)]?=bc zs from rfl,aC,zt (show(0:Int)<=0/\(0:Int)<((2:Nat):Int) by decide),aC,show(([Z9,yx]:List ak))[(bQ 0)]?=bc Z9 from rfl,aC,a1,aC,show aS (0+1)=1 from rfl,jH];simp only[show decide ((1:Int)<((2:Nat):Int))=bg from rfl,aH];rw[zt (show(0:Int)<=1/\(1:Int)<((bf [zs,ex]:Nat):Int) from by simp),aC,show([zs,ex])[(bQ 1)]?=bc ex from rfl,aC,zt (show(0:Int)<=1/\(1:Int)<((2:Nat):Int) by decide),aC,show(([Z9,yx]:List ak))[(bQ 1)]?=bc yx from rfl,aC,b1,aC,show aS (1+1)=2 from rfl,jH];rfl
def zSj{fr un gr:Int}(hg:Good s)(n1:jI fr)(n2:jI un)(n3:jI gr)(hb:(s++(e_ (wN wP fr)++(e_ (wN xi un)++e_ (wN xp gr)))).length<=140737488355328):
  vz ((3:Nat):Int) c1 c2 c3 c4 c5 c6 c7 c8 c9 c10 c11 c12 c13 c14 c15 c16 c17 c18 c19 c20 [fr,un,gr] KK (s,0)=bc (s++(e_ (wN wP fr)++(e_ (wN xi un)++e_ (wN xp gr))))/\Good (s++(e_ (wN wP fr)++(e_ (wN xi un)++e_ (wN xp gr)))):=by
 obtain⟨k,hk⟩:∃k,KK=k+4:=⟨KK-4,by have:=vZ (n:=100) ab;omega⟩
 rw[<- gO,<- gO]at hb ⊢;have mD:=hb;rw[la]at mD;have lj:(s++e_ (wN wP fr)++e_ (wN xi un)).length<=140737488355328:=ab;rw[la]at lj;obtain⟨a1,a2⟩:=Xr hg zFq n1 ab;obtain⟨b1,b2⟩:=Xr a2 zy7 n2 ab;obtain⟨d1,d2⟩:=Xr b2 zy8 n3 hb;refine⟨?_,d2⟩;rw[hk,vz];simp only[show decide ((0:Int)<((3:Nat):Int))=bg from rfl,aH];rw[zt (show(0:Int)<=0/\(0:Int)<((bf [fr,un,gr]:Nat):Int) from by simp),aC,show([fr,un,gr])[(bQ 0)]?=bc fr from rfl,aC,zt (show(0:Int)<=0/\(0:Int)<((3:Nat):Int) by decide),aC,show(([wP,xi,xp]:List ak))[(bQ 0)]?=bc wP from rfl,aC,a1,aC,show aS (0+1)=1 from rfl,vz];simp only[show decide ((1:Int)<((3:Nat):Int))=bg from rfl,aH];rw[zt (show(0:Int)<=1/\(1:Int)<((bf [fr,un,gr]:Nat):Int) from by simp),aC,show([fr,un,gr])[(bQ 1)]?=bc un from rfl,aC,zt (show(0:Int)<=1/\(1:Int)<((3:Nat):Int) by decide),aC,show(([wP,xi,xp]:List ak))[(bQ 1)]?=bc xi from rfl,aC,b1,aC,show aS (1+1)=2 from rfl,vz];simp only[show decide ((2:Int)<((3:Nat):Int))=bg from rfl,aH];rw[zt (show(0:Int)<=2/\(2:Int)<((bf [fr,un,gr]:Nat):Int) from by simp),aC,show([fr,un,gr])[(bQ 2)]?=bc gr from rfl,aC,zt (show(0:Int)<=2/\(2:Int)<((3:Nat):Int) by decide),aC,show(([wP,xi,xp]:List ak))[(bQ 2)]?=bc xp from rfl,aC,d1,aC,show aS (2+1)=3 from rfl,vz];rfl
def zSk:∀s<64,∀k<6,decide ((IntKind.i64.wrap ((BitVec.ofInt IntKind.i64.bits (Int.fdiv (s:Nat) (2 ^ (min (bQ (k:Nat)) IntKind.i64.bits))) &&& BitVec.ofInt IntKind.i64.bits 1).toNat:Int))=1)=dK s k:=ah
def U':∀i<6,Good (qM.getD i []):=by
 intro i hi
 obtain rfl|rfl|rfl|rfl|rfl|rfl:i=0∨i=1∨i=2∨i=3∨i=4∨i=5:=ab
 all_goals exact oU ae
def Xs{i:Nat}(h:i<6):qM[i]?=bc (qM.getD i []):=by rw[bY,bF (show i<qM.length from h)];rfl
def zSl(hg:Good s)(hu:0<=c18/\c18<64)(hb:(s++e_ ((cQ 6).flatMap (sn c18))).length<=140737488355328):
  xO (((bf qM):Nat):Int) c1 c2 c3 c4 c5 c6 c7 c8 c9 c10 c11 c12 c13 c14 c15 c16 c17 c18 c19 c20 qM KK (s,0)=bc (s++e_ ((cQ 6).flatMap (sn c18)))/\Good (s++e_ ((cQ 6).flatMap (sn c18))):=by
 rw[Wq]at hb ⊢;refine vE (cQ 6) (λi=>e_ (sn c18 i)) (λK q s=>xO (((bf qM):Nat):Int) c1 c2 c3 c4 c5 c6 c7 c8 c9 c10 c11 c12 c13 c14 c15 c16 c17 c18 c19 c20 qM K (s,q)) 140737488355328 Good ae hg hb (λK i x s hx hI hM=>?_) (λK s=>?_)
 .have hi:=qi hx;rw[List.length_range]at hi
  have Sn:x=i:=by simpa[List.getElem?_range,hi]using hx.symm
  subst Sn;obtain⟨u,rfl⟩:=Int.eq_ofNat_of_zero_le hu.1;have adl:=zSk u ab x hi
  show xO _ _ _ _ _ _ _ _ _ _ _ _ _ _ _ _ _ _ _ _ _ _ (K+1) (s,(x:Int))=_/\_
  rw[xO];simp only[dt (show(x:Int)<((bf qM:Nat):Int) by rw[show qM.length=6 from rfl];omega),aH];rw[zt (show(0:Int)<=(x:Int)/\(x:Int)<((bf qM:Nat):Int) by rw[show qM.length=6 from rfl];omega),aC,dD,Xs hi,aC,zt (show(0:Int)<=(x:Int) by omega),aC];rw[dD]at adl;rw[adl,yw ab];unfold sn at hM ⊢;rw[show(((u:Nat):Int)).toNat=u from rfl]at *
  cases RH:dK u x with
  |false =>
   simp only[cf,e_,eo,bM,aC,true_and];exact hI
  |true =>rw[RH]at hM;simp only[aH]at hM ⊢;obtain⟨p1,p2⟩:=wM (l:=[.inr (qM.getD x [])]) hI (λy hy=>by rw[Je hy];exact xr (U' x hi)) af hM;rw[p1];exact⟨rfl,p2⟩
 .show xO _ _ _ _ _ _ _ _ _ _ _ _ _ _ _ _ _ _ _ _ _ _ (K+1) (s,_)=_
  rw[xO];rfl
end mA
def Cu(b:Bool):List Tok:=bif b then[.inr yB]else[]
def zFr(r:zd):zK (Vh r)=Hj (.inr yn)++(e_ [.inr r.aL]++((e_ (xE Z9 r.aB)++e_ (xE yx r.Except))++((e_ (wN wP r.gY)++(e_ (wN xi r.gW)++e_ (wN xp r.hU)))++(e_ (Cu r.gZ)++(e_ [.inr wQ]++(e_ (Kq r)++[32,59,10])))))):=by
 show zK (.inr yn::([.inr r.aL]++(xE Z9 r.aB++(xE yx r.Except++(wN wP r.gY++(wN xi r.gW++(wN xp r.hU++(Cu r.gZ++([.inr wQ]++Kq r)))))))))=_
 rw[jv];simp only[Jd,gO]
def xF{n a b:Int}(h:a<=n/\n<=b)(ha:-9223372036854775807<=a)(hb:b<=9223372036854775807):jI n:=⟨ab,ab⟩
def zSm{s:ak}{r:zd}(hg:Good s)(hb:Qk r)(hf:rL r.Test=bg)(hl:(s++(e_ (Kq r)++[32,59,10])).length<=140737488355328){c1:ak}{c2 c3:List ak}{c4 c5 c6:Int}{c7:Bool}:
  (((bif (decide (r.aM=0))then(K5 s (Expr.mk r.Test.Op r.Test.N r.Test.S r.Test.Key r.Test.aZ)).bind λx9=>bc (bp x9)else(bif (decide (r.aM=1))then(yc s ([(br jh),(bp r.zj.lz),(br qD),(bp r.zj.ly),(br wB),(bp r.zj.ln),(bp r.zj.Den)]:List (Int⊕ak))).bind λgw=>bc (br gw)else(bif (decide (r.aM=3))then(ea (0<=r.Uses/\r.Uses<(((bf qM):Nat):Int))).bind λ_=>aN ((qM)[(bQ r.Uses)]?) λiZ=>aN (ea (0<=r.gS/\r.gS<(((bf qM):Nat):Int))) λ_=>aN ((qM)[(bQ r.gS)]?) λlP=>aN (yc s ([(br jg),(br iZ),(br lP),(bp r.N)]:List (Int⊕ak))) λlx=>bc (br lx)else(bif (decide (r.aM=2))then(yc s ([(br kH)]:List (Int⊕ak))).bind λlY=>aN (xO (((bf qM):Nat):Int) c1 c2 c3 c4 c5 c6 c7 r.aM r.Test.Op r.Test.N r.Test.S r.Test.Key r.Test.aZ r.zj.lz r.zj.ly r.zj.ln r.zj.Den r.Uses r.gS r.N qM KK (lY,0)) λl9=>bc (br l9)else bc (br s)))))).bind (xo bc λx8=>aN (qc x8) λmK=>bc mK))=bc (s++(e_ (Kq r)++[32,59,10]))/\Vm (s++(e_ (Kq r)++[32,59,10])):=by
 obtain⟨⟨k0,k3⟩,b1,b2,b3,b4,b5,b6,b7,b8⟩:=hb
 have n9:(s++e_ (Kq r)++[32,59,10]).length<=140737488355328:=by rw[gO];exact hl
 have sG:=n9;rw[la]at sG;unfold Kq at hl n9 sG ⊢;by_cases h0:r.aM=0
 .rw[aP h0]at hl n9 sG ⊢;obtain⟨p1,p2⟩:=zpl hg (b1 h0) hl;rw[dt h0,aH,zT,p1];exact⟨rfl,p2⟩
 rw[aO h0]at hl n9 sG ⊢;rw[df h0,cf];by_cases h1:r.aM=1
 .rw[aP h1]at hl n9 sG ⊢;obtain⟨n1,n2,n3,n4⟩:=b3 h1;rw[dt h1,aH]
  obtain⟨p1,p2⟩:=wM hg (λy hy=>by
   simp only[bq,cU,or_false]at hy
   rcases hy with rfl|rfl|rfl|rfl|rfl|rfl|rfl
   .exact xr (oU ae)
   .exact uN (xF n1 ab ab)
   .exact xr (oU ae)
   .exact uN (xF n2 ab ab)
   .exact xr (oU ae)
   .exact uN (xF n3 ab ab)
   .exact uN (xF n4 ab ab)) af (show(s++e_ [.inr jh,.inl r.zj.lz,.inr qD,.inl r.zj.ly,.inr wB,.inl r.zj.ln,.inl r.zj.Den]).length<=_ by omega)
  obtain⟨q1,q2⟩:=Wo p2 n9;rw[p1,aC,aC,xo,q1,<- gO];exact⟨rfl,q2⟩
 rw[aO h1]at hl n9 sG ⊢;rw[df h1,cf];by_cases h3:r.aM=3
 .rw[aP h3]at hl n9 sG ⊢;obtain⟨n1,n2,n3⟩:=b6 h3;rw[dt h3,aH,zt (show 0<=r.Uses/\r.Uses<((bf qM:Nat):Int) by rw[show qM.length=6 from rfl];omega),aC,Xs (show r.Uses.toNat<6 by omega),aC,zt (show 0<=r.gS/\r.gS<((bf qM:Nat):Int) by rw[show qM.length=6 from rfl];omega),aC,Xs (show r.gS.toNat<6 by omega),aC]
  obtain⟨p1,p2⟩:=wM hg (λy hy=>by
   simp only[bq,cU,or_false]at hy
   rcases hy with rfl|rfl|rfl|rfl
   .exact xr (oU ae)
   .exact xr (U' _ ab)
   .exact xr (U' _ ab)
   .exact uN (xF n3 ab ab)) af (show(s++e_ [.inr jg,.inr (qM.getD r.Uses.toNat []),.inr (qM.getD r.gS.toNat []),.inl r.N]).length<=_ by omega)
  obtain⟨q1,q2⟩:=Wo p2 n9;rw[p1,aC,aC,xo,q1,<- gO];exact⟨rfl,q2⟩
 have h2:r.aM=2:=ab;rw[aO h3]at hl n9 sG ⊢;obtain⟨n1,n2⟩:=b5 h2;rw[df h3,cf,dt h2,aH]
 have es:e_ (.inr kH::(cQ 6).flatMap (sn r.Uses))=e_ [.inr kH]++e_ ((cQ 6).flatMap (sn r.Uses)):=by rw[<- Jd];rfl
 rw[es,<- gO]at n9 sG;rw[es];obtain⟨p1,p2⟩:=wM (l:=[.inr kH]) hg (λy hy=>by rw[Je hy];exact xr (oU ae)) af (by rw[la]at sG;omega);obtain⟨ab4,u2⟩:=zSl (c1:=c1) (c2:=c2) (c3:=c3) (c4:=c4) (c5:=c5) (c6:=c6) (c7:=c7) (c8:=r.aM) (c9:=r.Test.Op) (c10:=r.Test.N) (c11:=r.Test.S) (c12:=r.Test.Key) (c13:=r.Test.aZ) (c14:=r.zj.lz) (c15:=r.zj.ly) (c16:=r.zj.ln) (c17:=r.zj.Den) (c18:=r.Uses) (c19:=r.gS) (c20:=r.N) p2 ab ab;obtain⟨q1,q2⟩:=Wo u2 n9;rw[p1,aC,ab4,aC,aC,xo,q1];simp only[gO]at q2 ⊢;exact⟨rfl,q2⟩
def zFs{s:ak}{r:zd}(hs:Vm s)(hr:Wi r)(hn:zw r.aL=bg)(hf:si r=bg)(hb:(s++zK (Vh r)).length<=140737488355328):Oy s r=bc (s++zK (Vh r))/\Vm (s++zK (Vh r)):=by
 obtain⟨⟨⟨z0,x0⟩,d1,d2,d3,_⟩,ai3⟩:=hr;obtain⟨_,⟨z1,z2⟩,⟨x1,x2⟩,te⟩:=Jb hf;rw[zFr]at hb ⊢;have mV:=hb;simp only[la]at mV
 obtain⟨p1,g1⟩:=Au (x:=.inr yn) (l:=[.inr r.aL]) hs (λy hy=>by
  rcases bq.1 hy with rfl|hy
  .exact xr (oU ae)
  .rw[Je hy];exact xr (oT hn)) af (by simp only[la];omega)
 generalize iQ:s++(Hj (.inr yn)++e_ [.inr r.aL])=s1 at p1 g1;have l1:=aQ bf iQ;simp only[la]at l1;obtain⟨p2,g2⟩:=zSi (c1:=r.aL) (c2:=r.aB) (c3:=r.Except) (c4:=r.gY) (c5:=r.gW) (c6:=r.hU) (c7:=r.gZ) (c8:=r.aM) (c9:=r.Test.Op) (c10:=r.Test.N) (c11:=r.Test.S) (c12:=r.Test.Key) (c13:=r.Test.aZ) (c14:=r.zj.lz) (c15:=r.zj.ly) (c16:=r.zj.ln) (c17:=r.zj.Den) (c18:=r.Uses) (c19:=r.gS) (c20:=r.N) g1 (bj.1 z0) z1 (λs hs=>by have:=(vj (bj.1 z0 s hs)).1;omega) (bj.1 x0) x1 (λs hs=>by have:=(vj (bj.1 x0 s hs)).1;omega) (by simp only[la];omega);generalize lu:s1++(e_ (xE Z9 r.aB)++e_ (xE yx r.Except))=s2 at p2 g2;have l2:=aQ bf lu;simp only[la]at l2;obtain⟨p3,g3⟩:=zSj (c1:=r.aL) (c2:=r.aB) (c3:=r.Except) (c4:=r.gY) (c5:=r.gW) (c6:=r.hU) (c7:=r.gZ) (c8:=r.aM) (c9:=r.Test.Op) (c10:=r.Test.N) (c11:=r.Test.S) (c12:=r.Test.Key) (c13:=r.Test.aZ) (c14:=r.zj.lz) (c15:=r.zj.ly) (c16:=r.zj.ln) (c17:=r.zj.Den) (c18:=r.Uses) (c19:=r.gS) (c20:=r.N) g2 (xF d1 ab ab) (xF d3 ab ab) (xF d2 ab ab) (by simp only[la];omega);generalize rA:s2++(e_ (wN wP r.gY)++(e_ (wN xi r.gW)++e_ (wN xp r.hU)))=s3 at p3 g3;have l3:=aQ bf rA;simp only[la]at l3
 have hv:(bif r.gZ then(yc s3 ([(br yB)]:List (Int⊕ak))).bind λx5=>bc x5 else bc s3)=bc (s3++e_ (Cu r.gZ))/\Good (s3++e_ (Cu r.gZ)):=by
  cases hv:r.gZ with
  |false =>
   simp only[Cu,cf,e_,eo,bM,true_and];exact g3
  |true =>
   rw[hv]at mV;obtain⟨a1,a2⟩:=wM (l:=Cu bg) g3 (λy hy=>by rw[Je hy];exact xr (oU ae)) ae (by simp only[la];omega);rw[aH,show([(br yB)]:List (Int⊕ak))=Cu bg from rfl,a1];exact⟨rfl,a2⟩
 obtain⟨p4,g4⟩:=hv;generalize rB:s3++e_ (Cu r.gZ)=s4 at p4 g4;have l4:=aQ bf rB;simp only[la]at l4;obtain⟨p5,g5⟩:=wM (l:=[.inr wQ]) g4 (λy hy=>by rw[Je hy];exact xr (oU ae)) af (by simp only[la];omega);generalize B4:s4++e_ [.inr wQ]=s5 at p5 g5;have l5:=aQ bf B4;simp only[la]at l5;have h6:=zSm (c1:=r.aL) (c2:=r.aB) (c3:=r.Except) (c4:=r.gY) (c5:=r.gW) (c6:=r.hU) (c7:=r.gZ) g5 ai3 te (by simp only[la];omega)
 have e:s++(Hj (.inr yn)++(e_ [.inr r.aL]++((e_ (xE Z9 r.aB)++e_ (xE yx r.Except))++((e_ (wN wP r.gY)++(e_ (wN xi r.gW)++e_ (wN xp r.hU)))++(e_ (Cu r.gZ)++(e_ [.inr wQ]++(e_ (Kq r)++[32,59,10])))))))=s5++(e_ (Kq r)++[32,59,10]):=by rw[<- B4,<- rB,<- rA,<- lu,<- iQ];simp only[gO]
 rw[e];refine⟨?_,h6.2⟩;unfold Oy;rw[p1,aC,p2,aC,p3,aC,p4,aC,p5,aC,zsy,aC];exact h6.1
def uo(x:Tok):Prop:=Gg x/\(Hj x).length<=400000
def Wu(l:List Tok):Prop:=∀x∈l,uo x
def Wu.g{l:List Tok}(h:Wu l):∀x∈l,Gg x:=λx hx=>(h x hx).1
def yd:Wu []:=λx hx=>by cases hx
def zk{x:Tok}{l:List Tok}(h:uo x)(hl:Wu l):Wu (x::l):=λy hy=>by
 rcases bq.1 hy with rfl|hy
 .exact h
 .exact hl y hy
def jd{a b:List Tok}(ha:Wu a)(hb:Wu b):Wu (a++b):=λy hy=>by
 rcases bw.1 hy with h|h
 .exact ha y h
 .exact hb y h
def Kr{α:Type}{l:List α}{f:α->List Tok}(h:∀x∈l,Wu (f x)):Wu (l.flatMap f):=λy hy=>by obtain⟨x,hx,hy⟩:=List.mem_flatMap.1 hy;exact h x hx y hy
def yW{c:UInt8}{r:ak}(h:(∀x∈c::r,x≠10)/\(c::r).length<=400000):uo (.inr (c::r)):=⟨xr (oU h.1),h.2⟩
def wW{s:ak}(h:zw s=bg):uo (.inr s):=⟨xr (oT h),by have:=(vj h).1;show s.length<=_;omega⟩
def ym{n:Int}(h:jI n):uo (.inl n):=⟨uN h,by have:=LL h;omega⟩
def adA{a:Expr}{o n:Int}{s k:ak}:wV ⟨o,n,s,k,[a]⟩=wV a+1:=by rw[wV,An,An]
def zK7{d:Nat}{e:Expr}(h:OX d e):(zF d e).length<=60*wV e:=by
 induction h with
 |@num d n h1 h2 =>
  have:=LK (n:=n.toNat) ab;have:=Kh ⟨0,n,[],[],[]⟩
  show(Lib.decDigits n.toNat).length<=_;omega
 |@name d s h =>
  have:=(vj h).1;have:=Kh ⟨1,0,s,[],[]⟩
  show s.length<=_;omega
 |@table d s k h1 h2 =>
  have:=(vj h1).1;have:=(vj h2).1;have:=Kh ⟨2,0,s,k,[]⟩
  show(wC++(s++(gU++k))).length<=_
  simp only[la,ltb,Ng];omega
 |@lA d s h =>
  have:=(vj h).1;have:=Kh ⟨3,0,s,[],[]⟩
  show(oC++s).length<=_
  simp only[la,lzn];omega
 |@neg d a _ ih =>
  have:=Aq (zF d a) (bR a.Op) 7;rw[adA]
  show(ud++iM (zF d a) (bR a.Op) 7).length<=_
  simp only[la,SH];omega
 |@not d a _ ih =>
  have:=Aq (zF d a) (bR a.Op) 3;rw[adA]
  show(VS++iM (zF d a) (bR a.Op) 3).length<=_
  simp only[la,lnt];omega
 |@cond d a b c _ _ _ ia ib ic =>
  have:=Aq (zF d a) (bR a.Op) 0;have:=Aq (zF d b) (bR b.Op) 0;have:=Aq (zF d c) (bR c.Op) 0
  have e:wV ⟨16,0,[],[],[a,b,c]⟩=wV a+wV b+wV c+1:=by rw[wV,An,An,An,An];omega
  rw[e]
  show(oA++(iM (zF d a) (bR a.Op) 0++(yF++(iM (zF d b) (bR b.Op) 0++(yE++iM (zF d c) (bR c.Op) 0))))).length<=_
  simp only[la,rU,tY,Eg];omega
 |@bin d op a b hb _ _ ia ib =>
  have:=Aq (zF d a) (bR a.Op) (ZF op);have:=Aq (zF d b) (bR b.Op) (bR op+1);have:=TR op
  have e:wV (QG op a b)=wV a+wV b+1:=by unfold QG;rw[wV,An,An,An];omega
  rw[zph hb,e];simp only[la,Ng];omega
def zpn{e:Expr}(h:lU 12 e=bg)(hq:wV e<=5000):uo (.inr (zF 12 e)):=⟨xr (U2 12 e h),by
 have:=zK7 (GN 12 e h)
 show(zF 12 e).length<=_;omega⟩
def Xt{i:Nat}(h:i<6):uo (.inr (qM.getD i [])):=by
 obtain rfl|rfl|rfl|rfl|rfl|rfl:i=0∨i=1∨i=2∨i=3∨i=4∨i=5:=ab
 all_goals exact yW ae
def zpo{i:Nat}(h:i<3):uo (.inr (u_.getD i [])):=by
 obtain rfl|rfl|rfl:i=0∨i=1∨i=2:=ab
 all_goals exact yW ae
def Oh{l:List zx}(h:AO l):∀p∈l,jI p.X/\jI p.Y:=λp hp=>by
 obtain⟨i,hi⟩:=abb.1 hp;have fZ:=qi hi;have hc:=h.2.1 i (bP _) fZ
 have e:im l i=p:=by unfold im;rw[eX fZ,bY,hi];rfl
 simp only[bn,GQ,GP,aW,e]at hc;exact⟨⟨ab,ab⟩,⟨ab,ab⟩⟩
def zY7{l:List zx}(h:AO l):Wu (l.flatMap pA):=Kr λp hp=>zk (ym (Oh h p hp).1) (zk (ym (Oh h p hp).2) yd)
def Wr{p:zl}(h:Gr p):jI p.X/\jI p.Y/\jI p.Z_:=⟨xF h.1 ab ab,xF h.2.1 ab ab,xF h.2.2 ab ab⟩
def Pl{p:zl}(h:Dk p):jI p.X/\jI p.Y/\jI p.Z_:=⟨xF h.1 ab ab,xF h.2.1 ab ab,xF h.2.2 ab ab⟩
def GO{p:zl}(h:jI p.X/\jI p.Y/\jI p.Z_):Wu (Zj p):=zk (ym h.1) (zk (ym h.2.1) (zk (ym h.2.2) yd))
def zY8{d:Def}(hn:zw d.aL=bg)(hk:lU 12 d.Body=bg)(hq:wV d.Body<=5000):Wu (tK d):=zk (yW ae) (zk (wW hn) (zk (yW ae) (zk (zpn hk hq) yd)))
def zY9{x:aw}(hn:zw x.aL=bg)(h:-1099511627776<=x.N/\x.N<=1099511627776):Wu (sP x):=zk (wW hn) (zk (ym (xF h ab ab)) yd)
def zpp{t:au}(h:Kk t):∀x∈t.Rows,zw x.aL=bg:=λx hx=>bj.1 (YD _ _ h.1.2) _ (cm hx)
def zSn{t:au}(hn:zw t.aL=bg)(h:Kk t):Wu (Kp t):=jd (zk (yW ae) (zk (wW hn) yd)) (jd (Kr λx hx=>zY9 (zpp h x hx) (h.2.2 x hx)) (zk (yW ae) (zk (ym (xF h.2.1 ab ab)) yd)))
def zpq(b:Bool):uo (.inr (bif b then zu else zR)):=by
 cases b
 .exact yW ae
 .exact yW ae
def zZa{z:zM}(hn:zw z.aL=bg)(h:AO z.aA):Wu (vl z):=jd (zk (zpq _) (zk (wW hn) yd)) (zY7 h)
def aiY{c:bD}(hn:zw c.aL=bg)(h:Gf c):Wu (Bn c):=jd (zk (yW ae) (zk (wW hn) (zk (zpo (by have:=h.1;omega)) (zk (ym (xF h.2.1 ab ab)) yd)))) (zY7 h.2.2)
def zZb{v:av}(hn:zw v.aL=bg)(h:BE v):Wu (BF v):=by obtain⟨l1,l2,l3,l4⟩:=h;obtain⟨e1,e2,e3⟩:=Wr l3;exact jd (zk (yW ae) (zk (wW hn) (zk (ym e1) (zk (ym e2) (zk (ym e3) (zk (yW ae) (zk (ym (xF l1 ab ab)) (zk (yW ae) yd)))))))) (Kr λx hx=>GO (Wr (l4 x hx)))
def zFu{w:ak}{l:List ak}(hw:uo (.inr w))(h:l.all zw=bg):Wu (xE w l):=by
 unfold xE;cases l.isEmpty
 .exact zk hw λy hy=>by obtain⟨s,hs,rfl⟩:=bz.1 hy;exact wW (bj.1 h s hs)
 .exact yd
def TW{w:ak}{n:Int}(hw:uo (.inr w))(h:jI n):Wu (wN w n):=by
 unfold wN;split
 .exact yd
 .exact zk hw (zk (ym h) yd)
def zZc{r:zd}(h:Qk r)(hq:wV r.Test<=5000):Wu (Kq r):=by
 obtain⟨⟨k0,k3⟩,b1,b2,b3,b4,b5,b6,b7,b8⟩:=h;unfold Kq;by_cases h0:r.aM=0
 .rw[aP h0];exact zk (zpn (b1 h0) hq) yd
 rw[aO h0];by_cases h1:r.aM=1
 .obtain⟨n1,n2,n3,n4⟩:=b3 h1;rw[aP h1];exact zk (yW ae) (zk (ym (xF n1 ab ab)) (zk (yW ae) (zk (ym (xF n2 ab ab)) (zk (yW ae) (zk (ym (xF n3 ab ab)) (zk (ym (xF n4 ab ab)) yd))))))
 rw[aO h1];by_cases h3:r.aM=3
 .obtain⟨n1,n2,n3⟩:=b6 h3;rw[aP h3];exact zk (yW ae) (zk (Xt ab) (zk (Xt ab) (zk (ym (xF n3 ab ab)) yd)))
 rw[aO h3];refine zk (yW ae) (Kr λi hi=>?_);unfold sn;cases dK r.Uses.toNat i
 .exact yd
 .exact zk (Xt (by simpa using hi)) yd
def zZd{r:zd}(hn:zw r.aL=bg)(h:Wi r)(hq:wV r.Test<=5000):Wu (Vh r):=by
 obtain⟨⟨⟨z0,x0⟩,d1,d2,d3,_⟩,hb⟩:=h;refine jd (zk (yW ae) (zk (wW hn) yd)) (jd (zFu (yW ae) z0) (jd (zFu (yW ae) x0) (jd (TW (yW ae) (xF d1 ab ab)) (jd (TW (yW ae) (xF d3 ab ab)) (jd (TW (yW ae) (xF d2 ab ab)) (jd ?_ (zk (yW ae) (zZc hb hq))))))));cases r.gZ
 .exact yd
 .exact zk (yW ae) yd
def akr{l:List zl}(h:∀p∈l,Dk p):Wu (Cl l):=by
 cases l with
 |nil=>exact yd
 |cons p r=>exact jd (zk (yW ae) (GO (Pl (h p al)))) (Kr λq hq=>zk (yW ae) (GO (Pl (h q (gq _ hq)))))
def zFw{n:Int}(h:0<=n/\n<=24):Wu (Zk n):=zk (yW ae) (zk (ym (xF h ab ab)) yd)
-- lengths
def zN1:∀{l:List Tok},Wu l->(e_ l).length<=l.length*400001
 |[],_=>by simp[e_]
 |x::l,h=>by have h1:=(h x al).2;have h2:=zN1 (l:=l) (λy hy=>h y (gq _ hy));rw[Og];simp only[lc,la];omega
def Aw{l:List Tok}(h:Wu l)(hl:l.length<=7000):(zK l).length<=2900000000:=by
 cases l with
 |nil=>decide
 |cons x r =>
  have h1:=(h x al).2;have h2:=zN1 (l:=r) (λy hy=>h y (gq _ hy));rw[jv];simp only[la,lc,bN]at hl ⊢;omega
def qY{α β:Type}{f:α->List β}{n:Nat}:∀{l:List α},(∀x∈l,(f x).length<=n)->(l.flatMap f).length<=l.length*n
 |[],_=>af
 |x::l,h=>by have h1:=h x al;have h2:=qY (l:=l) (λy hy=>h y (gq _ hy));rw[cN,la,lc,dC];omega
structure zSo(p:xP):Prop where
 d:∀x∈p.aF,zw x.aL=bg
 t:∀x∈p.Tables,zw x.aL=bg
 z:∀x∈p.aB,zw x.aL=bg
 r:∀x∈p.aE,zw x.aL=bg
 c:∀x∈p.aJ,zw x.aL=bg
 v:∀x∈p.aG,zw x.aL=bg
def Hh{α:Type}{l:List α}{g:α->ak}{m:Nat}(h:jj l g m):∀x∈l,zw (g x)=bg:=λx hx=>bj.1 (YD _ _ h.2) _ (cm hx)
def zv4{p:xP}(h:Ap p):zSo p:=by obtain⟨⟨h1,h2,h3,h4,h5,h6⟩,_⟩:=h;exact⟨Hh h1,Hh h2,Hh h3,Hh h4,Hh h5,Hh h6⟩
def zK8{t:au}(h:t.Rows.length<=64):(Kp t).length<=300:=by have:=qY (f:=sP) (n:=2) (l:=t.Rows) (λx _=>by simp[sP]);simp only[Kp,la,lc,bN];omega
def zFx{l:List zx}(h:l.length<=64):(l.flatMap pA).length<=128:=by have:=qY (f:=pA) (n:=2) (l:=l) (λx _=>by simp[pA]);omega
def zK9{r:zd}(h:si r=bg):(Vh r).length<=7000:=by
 obtain⟨_,⟨z1,_⟩,⟨x1,_⟩,_⟩:=Jb h
 have nl:∀(w:ak)(l:List ak),(xE w l).length<=l.length+1:=λw l=>by unfold xE;cases l.isEmpty<;>simp
 have sl:∀(w:ak)(n:Int),(wN w n).length<=2:=λw n=>by unfold wN;split<;>simp
 have ul:((cQ 6).flatMap (sn r.Uses)).length<=6:=by have:=qY (f:=sn r.Uses) (n:=1) (l:=cQ 6) (λi _=>by unfold sn;cases dK r.Uses.toNat i<;>simp);simpa using this
 have bl:(Kq r).length<=7:=by
  unfold Kq;split
  .simp
  split
  .simp
  split
  .simp
  simp only[lc];omega
 have ak5:((bif r.gZ then[br yB]else[]):List Tok).length<=1:=by cases r.gZ<;>simp
 have a1:=nl Z9 r.aB;have a2:=nl yx r.Except;have a3:=sl wP r.gY;have a4:=sl xi r.gW;have a5:=sl xp r.hU;simp only[Vh,la,lc,bN];omega
def zza{p:xP}(hf:Cm p)(h:Ap p):(Av p).length<=40000000000000:=by
 have nm:=zv4 h;obtain⟨_,⟨b1,b2,b3,b4,b5,b6,b7⟩,hh,hs⟩:=h
 have d1:=qY (l:=p.aF) (f:=λx=>zK (tK x)) (n:=2900000000) λx hx=>Aw (zY8 (nm.d x hx) (b1 x hx) (Qi (hf.ds x hx).2).1) (by simp[tK])
 have d2:=qY (l:=p.Tables) (f:=λx=>zK (Kp x)) (n:=2900000000) λx hx=>Aw (zSn (nm.t x hx) (b2 x hx)) (cR (zK8 (hf.ts x hx).2.1) ab)
 have d3:=qY (l:=p.aB) (f:=λx=>zK (vl x)) (n:=2900000000) λx hx=>Aw (zZa (nm.z x hx) (b3 x hx)) (by have:=zFx (hf.zs x hx).2;simp only[vl,la,lc,bN];omega)
 have d4:=qY (l:=p.aE) (f:=λx=>zK (Vh x)) (n:=2900000000) λx hx=>Aw (zZd (nm.r x hx) (b4 x hx) (Qi (Jb (hf.rs x hx)).2.2.2).1) (zK9 (hf.rs x hx))
 have d5:=qY (l:=p.aJ) (f:=λx=>zK (Bn x)) (n:=2900000000) λx hx=>Aw (aiY (nm.c x hx) (b5 x hx)) (by have:=zFx (hf.cs x hx).2;simp only[Bn,la,lc,bN];omega)
 have d6:=qY (l:=p.aG) (f:=λx=>zK (BF x)) (n:=2900000000) λx hx=>Aw (zZb (nm.v x hx) (b6 x hx)) (by
  have:=qY (f:=Zj) (n:=3) (l:=x.lB) (λy _=>by simp[Zj]);have:=(hf.vs x hx).2
  simp only[BF,la,lc,bN];omega)
 have d7:((bif p.aK.isEmpty then[]else zK (Cl p.aK)):ak).length<=2900000000:=by
  cases hsn:p.aK with
  |nil=>simp
  |cons q r =>
   simp only[abw,cf];rw[hsn]at b7 hs;refine Aw (akr b7) ?_;have:=qY (f:=λp=>br QT::Zj p) (n:=4) (l:=r) (λy _=>by simp[Zj]);simp only[lc]at hs;simp only[Cl,la,lc,Zj,bN]at this ⊢;omega
 have d8:((if p.aI=0 then[]else zK (Zk p.aI)):ak).length<=2900000000:=by
  split
  .simp
  .exact Aw (zFw hh) (by simp[Zk])
 have:=hf.d;have:=hf.t;have:=hf.z;have:=hf.r;have:=hf.c;have:=hf.v;simp only[Av,la];omega
def zFy{p:xP}(hf:Cm p)(h:Ap p):(Av p).length<=140737488355328:=cR (zza hf h) ab
def tj(n:Int):List T3:=if n<0 then[iw yX,vm (0-n)]else[vm n]
def sZ(p:zx):List T3:=[vm p.X,vm p.Y]
def uw(w:ak)(l:List ak):List T3:=bif l.isEmpty then[]else aT w::l.map aT
def Ql(w:ak)(n:Int):List T3:=if n=0 then[]else[aT w,vm n]
def BG(b:Bool):List T3:=bif b then[aT yB]else[]
def tl(u:Int):List T3:=((cQ 6).filter (dK u.toNat)).map λi=>aT (qM.getD i [])
def BH(r:zd):List T3:=
 if r.aM=0 then yi 12 r.Test
 else if r.aM=1 then[aT jh,vm r.zj.lz,aT qD,vm r.zj.ly,aT wB,vm r.zj.ln,vm r.zj.Den]
 else if r.aM=3 then[aT jg,aT (qM.getD r.Uses.toNat []),aT (qM.getD r.gS.toNat []),vm r.N]
 else aT kH::tl r.Uses
def Ob(r:zd):List T3:=uw Z9 r.aB++(uw yx r.Except++(Ql wP r.gY++(Ql xi r.gW++(Ql xp r.hU++(BG r.gZ++(iw wQ::BH r))))))
def TQ(l:List Tok)(ts:List T3):Prop:=e_ l=sq ts/\ph ts
def Gt:TQ [] []:=⟨rfl,AP⟩
def Zl{a b:List Tok}{ts us:List T3}(ha:TQ a ts)(hb:TQ b us):TQ (a++b) (ts++us):=⟨by rw[Jd,TT,ha.1,hb.1],LM ha.2 hb.2⟩
def zSp{α:Type}{l:List α}{f:α->List Tok}{g:α->List T3}(h:∀x∈l,TQ (f x) (g x)):TQ (l.flatMap f) (l.flatMap g):=by
 induction l with
 |nil=>exact Gt
 |cons x l ih=>rw[cN,cN];exact Zl (h x al) (ih λy hy=>h y (gq _ hy))
def Py{s:ak}{t:T3}(h:mh t)(e:t.2.1=s):TQ [.inr s] [t]:=⟨by subst e;rfl,xa h AP⟩
def DB{w:ak}(h:H8 w=bg):TQ [.inr w] [aT w]:=Py (zNq h) rfl
def v_{w:ak}(h:zw w=bg):TQ [.inr w] [aT w]:=Py (Wj h) rfl
def zFz{e:Expr}(h:OX 12 e):TQ [.inr (zF 12 e)] (yi 12 e):=by
 obtain⟨h1,h2,h3⟩:=qW h;refine⟨?_,h2⟩;rw[N' h1,<- h3]
 show 32::zF 12 e++[]=_
 rw[bM]
def xu{x:Tok}{l:List Tok}{t:T3}{ts:List T3}(ha:TQ [x] [t])(hb:TQ l ts):TQ (x::l) (t::ts):=Zl ha hb
def Ks{n:Int}(h0:0<=n)(h1:n<=1099511627776):TQ [.inl n] [vm n]:=by
 refine⟨?_,xa (OO h0 h1) AP⟩
 show 32::Hj (.inl n)++[]=32::Lib.decDigits n.toNat++[]
 rw[Km,aO ab]
def zZe{n:Int}(h0:-1099511627776<=n)(h1:n<=1099511627776):TQ [.inl n] (tj n):=by
 unfold tj;split
 .rename_i h;refine⟨?_,xa rfl (xa (OO ab ab) AP)⟩
  show 32::Hj (.inl n)++[]=32::yX++(32::Lib.decDigits (0-n).toNat++[])
  rw[Km,aP h,bM,bM,show(0-n).toNat=n.natAbs by omega];rfl
 .exact Ks ab h1
def zhu{l:List zx}(h:AO l):∀p∈l,(0<=p.X/\p.X<=1048576)/\(0<=p.Y/\p.Y<=1048576):=λp hp=>by
 obtain⟨i,hi⟩:=abb.1 hp;have fZ:=qi hi;have hc:=h.2.1 i (bP _) fZ
 have e:im l i=p:=by unfold im;rw[eX fZ,bY,hi];rfl
 simp only[bn,GQ,GP,aW,e]at hc;exact⟨⟨ab,ab⟩,⟨ab,ab⟩⟩
def zZf{l:List zx}(h:AO l):TQ (l.flatMap pA) (l.flatMap sZ):=zSp λp hp=>by obtain⟨⟨a,b⟩,c,d⟩:=zhu h p hp;exact xu (Ks a ab) (Ks c ab)
def zv6{w:ak}{l:List ak}(hw:H8 w=bg)(h:l.all zw=bg):TQ (xE w l) (uw w l):=by
 unfold xE uw;cases l.isEmpty
 .refine xu (DB hw) ?_
  have:∀l:List ak,l.all zw=bg->TQ (l.map .inr) (l.map aT):=λl=>by
   induction l with
   |nil=>exact λ_=>Gt
   |cons x l ih =>intro h;rw[cv,bn]at h;exact xu (v_ h.1) (ih h.2)
  exact this l h
 .exact Gt
def XS{w:ak}{n:Int}(hw:H8 w=bg)(h0:0<=n)(h1:n<=1099511627776):TQ (wN w n) (Ql w n):=by
 unfold wN Ql;split
 .exact Gt
 .exact xu (DB hw) (Ks h0 h1)
def zSq(b:Bool):TQ (bif b then[.inr yB]else[]) (BG b):=by
 cases b
 .exact Gt
 .exact DB rfl
def W9:∀i<6,zw (qM.getD i [])=bg:=ah
def zZg(u:Int):TQ ((cQ 6).flatMap (sn u)) (tl u):=by
 unfold tl
 have:∀l:List Nat,(∀i∈l,i<6)->TQ (l.flatMap (sn u)) ((l.filter (dK u.toNat)).map λi=>aT (qM.getD i [])):=λl=>by
  induction l with
  |nil=>exact λ_=>Gt
  |cons i l ih =>
   intro h
   have ih:=ih λj hj=>h j (gq _ hj)
   rw[cN,List.filter_cons];unfold sn;cases dK u.toNat i
   .exact ih
   .exact xu (v_ (W9 i (h i al))) ih
 exact this _ λi hi=>by simpa using hi
def zSr{r:zd}(h:Qk r):TQ (Kq r) (BH r):=by
 obtain⟨⟨k0,k3⟩,b1,b2,b3,b4,b5,b6,b7,b8⟩:=h;unfold Kq BH;by_cases h0:r.aM=0
 .rw[aP h0,aP h0];exact zFz (GN 12 _ (b1 h0))
 rw[aO h0,aO h0];by_cases h1:r.aM=1
 .obtain⟨n1,n2,n3,n4⟩:=b3 h1;rw[aP h1,aP h1];exact xu (DB rfl) (xu (Ks ab ab) (xu (DB rfl) (xu (Ks ab ab) (xu (DB rfl) (xu (Ks ab ab) (Ks ab ab))))))
 rw[aO h1,aO h1];by_cases h3:r.aM=3
 .obtain⟨n1,n2,n3⟩:=b6 h3;rw[aP h3,aP h3];exact xu (DB rfl) (xu (v_ (W9 _ ab)) (xu (v_ (W9 _ ab)) (Ks ab ab)))
 rw[aO h3,aO h3];exact xu (DB rfl) (zZg r.Uses)
def zSs{r:zd}(h:Wi r):TQ (xE Z9 r.aB++(xE yx r.Except++(wN wP r.gY++(wN xi r.gW++(wN xp r.hU++((bif r.gZ then[.inr yB]else[])++(.inr wQ::Kq r))))))) (Ob r):=by obtain⟨⟨⟨z0,x0⟩,d1,d2,d3,_⟩,hb⟩:=h;exact Zl (zv6 rfl z0) (Zl (zv6 rfl x0) (Zl (XS rfl ab ab) (Zl (XS rfl ab ab) (Zl (XS rfl ab ab) (Zl (zSq _) (xu (Py (t:=iw wQ) rfl rfl) (zSr hb)))))))
inductive Ed where
 |mA (r:zd)
 |fin (n:ak) (d:Int)
 |mS (d:Def)
 |row (n:ak) (x:aw)
 |lA (z:zM)
 |q_ (n:ak) (v:Int)
def Ed.ok:Ed->Prop
 |.mA r=>zw r.aL=bg/\Wi r
 |.fin n d=>zw n=bg/\1<=d/\d<=1073741824
 |.mS d=>zw d.aL=bg/\lU 12 d.Body=bg
 |.row n x=>zw n=bg/\zw x.aL=bg/\-1099511627776<=x.N/\x.N<=1099511627776
 |.lA z=>zw z.aL=bg/\AO z.aA
 |.q_ n v=>zw n=bg/\0<=v/\v<=1099511627776
def kD:zd:=⟨[],[],[],0,0,0,bd,0,jc,⟨0,0,0,0⟩,0,0,0⟩
def enc:Ed->zN
 |.mA r=>⟨0,[],[],0,r,jc,[]⟩
 |.fin n d=>⟨1,n,[],d,kD,jc,[]⟩
 |.mS d=>⟨2,d.aL,[],0,kD,d.Body,[]⟩
 |.row n x=>⟨3,n,x.aL,x.N,kD,jc,[]⟩
 |.lA z=>⟨4,z.aL,[],bif z.mN then 1 else 0,kD,jc,z.aA⟩
 |.q_ n v=>⟨5,n,[],v,kD,jc,[]⟩
def mT:Ed->List Tok
 |.mA r=>Vh r
 |.fin n d=>[.inr jm,.inr n,.inl d]
 |.mS d=>tK d
 |.row n x=>[.inr vk,.inr n,.inr x.aL,.inl x.N]
 |.lA z=>vl z
 |.q_ n v=>[.inr yh,.inr n,.inl v]
def l6:Ed->ak
 |.mA _=>yn
 |.fin _ _=>jm
 |.mS _=>zO
 |.row _ _=>vk
 |.lA z=>bif z.mN then zu else zR
 |.q_ _ _=>yh
def BO:Ed->List T3
 |.mA r=>aT r.aL::Ob r
 |.fin n d=>[aT n,vm d]
 |.mS d=>aT d.aL::iw uy::yi 12 d.Body
 |.row n x=>aT n::aT x.aL::tj x.N
 |.lA z=>aT z.aL::z.aA.flatMap sZ
 |.q_ n v=>[aT n,vm v]
def zZh:∀{d:Ed},d.ok->∃l,mT d=.inr (l6 d)::l/\TQ l (BO d)
 |.mA x,⟨hn,h⟩=>⟨_,rfl,xu (v_ hn) (zSs h)⟩
 |.fin _ _,⟨hn,h⟩=>⟨_,rfl,xu (v_ hn) (Ks ab ab)⟩
 |.mS x,⟨hn,h⟩=>⟨_,rfl,xu (v_ hn) (xu (Py (t:=iw uy) rfl rfl) (zFz (GN _ _ h)))⟩
 |.row _ _,⟨hn,hk,h⟩=>⟨_,rfl,xu (v_ hn) (xu (v_ hk) (zZe h.1 h.2))⟩
 |.lA x,⟨hn,h⟩=>⟨_,rfl,xu (v_ hn) (zZf h)⟩
 |.q_ _ _,⟨hn,h⟩=>⟨_,rfl,xu (v_ hn) (Ks h.1 h.2)⟩
def zLb(d:Ed):H8 (l6 d)=bg:=by
 cases d with
 |lA x=>cases h:x.mN<;>simp only[l6,h]<;>rfl
 |_=>rfl
def Vi(d:Ed):List T3:=aT (l6 d)::BO d
def zZi{d:Ed}(h:d.ok):ph (Vi d):=by obtain⟨l,_,h2⟩:=zZh h;exact xa (zNq (zLb d)) h2.2
def zZj{d:Ed}(h:d.ok):zK (mT d)=jq (Vi d)++[32,59,10]:=by obtain⟨l,h1,h2⟩:=zZh h;rw[h1,jv,h2.1,<- gO];rfl
def zZk{d:Ed}(h:d.ok):(zK (mT d)).length=V (Vi d++[iw z8]):=by
 rw[zZj h,Vg,Dl,Wm,V]
 have:(sq (Vi d)).length=(jq (Vi d)).length+1:=by rw[N' (by simp[Vi]),lc]
 rw[this,la]
 show _+3=_+1+(1+1+0)
 omega
structure Stop(r:List ar):Prop where
 wf:gm r
 num:nT r=bd
 nam:pa r=bd
 op:ra r=bh
 comma:fK QT r=bd
 use:H9 (eP r).Text sy=bh
def zF0{p:Int}{r:List ar}(h:gm r):Stop (tk (iw z8) p::r):=⟨jS (a:=iw z8) rfl h,rfl,rfl,rfl,by rw[wh];decide,rfl⟩
def W_{e:Int}{r:List ar}:se bg e r=vd z8 r:=by unfold se vd;cases fK z8 r<;>rfl
def zv7:∀(ps:List zx)(n:Nat)(acc:List zx)(l r:List ar),ps≠[]->ps.length<=n->(∀p∈ps,(0<=p.X/\p.X<=1048576)/\(0<=p.Y/\p.Y<=1048576))->l.map t3=ps.flatMap sZ->nT r=bd->qV n acc (l++r)=.ok (acc++ps,r)
 |[],_,_,_,_,h,_,_,_,_=>aU rfl h
 |p::ps,0,_,_,_,_,h,_,_,_=>by simp at h
 |p::ps,n+1,acc,l,r,_,hn,hb,hl,hr=>by
  obtain⟨⟨x0,x1⟩,afO,y1⟩:=hb p al;rw[cN]at hl;obtain⟨a,l1,rfl,e1⟩:=map_cons (show l.map t3=vm p.X::(vm p.Y::ps.flatMap sZ) from hl);obtain⟨b,l2,rfl,e2⟩:=map_cons e1;rw[qV]
  show aD (Jz 0 1048576 (tk (vm p.X) a::(tk (vm p.Y) b::(l2++r)))) _=_
  rw[Wl x0 x1]
  show aD (Jz 0 1048576 (tk (vm p.Y) b::(l2++r))) _=_
  rw[Wl afO y1]
  show(if nT (l2++r)=bg then qV n (acc++[p]) (l2++r)else .ok (acc++[p],l2++r))=_
  cases ps with
  |nil =>
   obtain rfl:=map_nil e2;rw[cl,hr,aO af]
  |cons q ps =>
   have hk:nT (l2++r)=bg:=by rw[cN]at e2;obtain⟨c,l3,rfl,_⟩:=map_cons (show l2.map t3=vm q.X::(vm q.Y::ps.flatMap sZ) from e2);rfl
   rw[aP hk,zv7 (q::ps) n (acc++[p]) l2 r af (by simpa using hn) (λx hx=>hb x (gq _ hx)) e2 hr,gO];rfl
def zps:∀(zs:List ak)(n:Nat)(acc:List ak)(l r:List ar),zs.length<n->zs.all zw=bg->l.map t3=zs.map aT->pa r=bd->u4 n acc (l++r)=.ok (acc++zs,r)
 |_,0,_,_,_,h,_,_,_=>aU h (eA _)
 |[],n+1,acc,l,r,_,_,hl,hr=>by
  obtain rfl:=map_nil hl;rw[u4,cl,hr,aO af,bM]
 |z::zs,n+1,acc,l,r,hn,hb,hl,hr=>by
  obtain⟨a,l1,rfl,e1⟩:=map_cons (show l.map t3=aT z::zs.map aT from hl);rw[cv,bn]at hb;simp only[lc]at hn
  show u4 (n+1) acc (tk (aT z) a::(l1++r))=_
  rw[u4,aP (zNt hb.1),Jc hb.1]
  show u4 n (acc++[z]) (l1++r)=_
  rw[zps zs n (acc++[z]) l1 r ab hb.2 e1 hr,gO];rfl
def zF1{z:ak}{zs:List ak}{l r:List ar}(hb:(z::zs).all zw=bg)(hl:l.map t3=(z::zs).map aT)(hr:pa r=bd):YB (l++r)=.ok (z::zs,r):=by
 obtain⟨a,l1,rfl,e1⟩:=map_cons (show l.map t3=aT z::zs.map aT from hl);rw[cv,bn]at hb;unfold YB
 show aD (ja (tk (aT z) a::(l1++r))) _=_
 rw[Jc hb.1]
 show u4 ((l1++r).length+1) [z] (l1++r)=_
 have hlen:=aQ bf e1;rw[bL,bL]at hlen;exact zps zs _ [z] l1 r (by rw[la];omega) hb.2 e1 hr
def zZl:qM=sy:=rfl
def zef{w:List ak}{i:Nat}{p:Int}{r:List ar}(h:H9 (w.getD i []) w=bc i):oQ w (tk (aT (w.getD i [])) p::r)=.ok ((i:Int),r):=by unfold oQ;rw[aP (show(eP (tk (aT (w.getD i [])) p::r)).aM=0 from rfl),show(eP (tk (aT (w.getD i [])) p::r)).Text=w.getD i [] from rfl,h];rfl
def Xa:∀i<6,H9 (qM.getD i []) qM=bc i:=ah
def orB(s:Nat)(is:List Nat):Nat:=is.foldl (λs i=>s ||| 2 ^ i) s
def zv8:∀(is:List Nat)(n s:Nat)(l r:List ar),is.length<n->(∀i∈is,i<6/\dK s i=bd)->is.Nodup->(0<s∨is≠[])->l.map t3=is.map (λi=>aT (qM.getD i []))->H9 (eP r).Text sy=bh->th n s (l++r)=.ok (orB s is,r)
 |_,0,_,_,_,h,_,_,_,_,_=>aU h (eA _)
 |[],n+1,s,l,r,_,_,_,h0,hl,hr=>by
  obtain rfl:=map_nil hl
  have hs:0<s:=by
   rcases h0 with h|h
   .exact h
   .exact aU rfl h
  rw[th,cl,hr];dsimp only;rw[aP hs];rfl
 |i::is,n+1,s,l,r,hn,hb,hd,_,hl,hr=>by
  obtain⟨a,l1,rfl,e1⟩:=map_cons (show l.map t3=aT (qM.getD i [])::is.map (λi=>aT (qM.getD i [])) from hl);obtain⟨b1,b2⟩:=hb i al;obtain⟨d1,d2⟩:=List.nodup_cons.1 hd;simp only[lc]at hn
  show th (n+1) s (tk (aT (qM.getD i [])) a::(l1++r))=_
  rw[th,show H9 (eP (tk (aT (qM.getD i [])) a::(l1++r))).Text sy=bc i from Xa i b1];dsimp only;rw[aO (show ¬(0<s/\(eP (tk (aT (qM.getD i [])) a::(l1++r))).aM≠0) from λh=>h.2 rfl),b2,aO af,aP (show(eP (tk (aT (qM.getD i [])) a::(l1++r))).aM=0 from rfl)]
  show th n (s ||| 2 ^ i) (l1++r)=_
  refine(zv8 is n (s ||| 2 ^ i) l1 r ab (λj hj=>?_) d2 (.inl ?_) e1 hr).trans rfl
  .obtain⟨c1,c2⟩:=hb j (gq _ hj);refine⟨c1,?_⟩
   have g_:i≠j:=λe=>d1 (e▸hj)
   rw[Nat.testBit_or,c2,Nat.testBit_two_pow_of_ne g_];rfl
  .have:2 ^ i<=s ||| 2 ^ i:=Nat.right_le_or
   have:=Nat.two_pow_pos i;omega
def zLc:∀u<64,orB 0 ((cQ 6).filter (dK u))=u:=ah
def zLd:∀u<64,0<u->(cQ 6).filter (dK u)≠[]:=ah
def TM{α β:Type}{a:α}{r:List ar}{g:α->List ar->Except EE β}:aD (.ok (a,r)) g=g a r:=rfl
def HS(S:List ak)(x:List ar):Prop:=∃t p r,x=tk t p::r/\t.1≠1/\t.2.1∈S
def Gu{S:List ak}{x:List ar}{w:ak}(h:HS S x)(hw:w ∉ S):fK w x=bd:=by obtain⟨t,p,r,rfl,_,hm⟩:=h;rw[wh,fG];exact .inr (df λe=>hw (e▸hm))
def zN2{S:List ak}{x:List ar}(h:HS S x)(hS:S.all (λw=>!(zw w))=bg):pa x=bd:=by obtain⟨t,p,r,rfl,_,hm⟩:=h;have:=bj.1 hS _ hm;unfold pa;rw[fG];exact .inr (show zw t.2.1=bd by simpa using this)
def HS.mono{S S':List ak}{x:List ar}(h:HS S x)(hS:∀w∈S,w∈S'):HS S' x:=by obtain⟨t,p,r,e,h1,h2⟩:=h;exact⟨t,p,r,e,h1,hS _ h2⟩
def zLe{w:ak}{zs:List ak}{S:List ak}{l x:List ar}(hl:l.map t3=uw w zs)(hx:HS S x):HS (w::S) (l++x):=by
 unfold uw at hl
 cases he:zs.isEmpty with
 |true =>
  rw[he]at hl;obtain rfl:=map_nil hl
  exact hx.mono λv hv=>gq _ hv
 |false =>
  rw[he]at hl;obtain⟨p,l1,rfl,_⟩:=map_cons (show l.map t3=aT w::zs.map aT from hl);exact⟨aT w,p,_,rfl,(by decide:(0:Int)≠1),al⟩
def XT{w:ak}{n:Int}{S:List ak}{l x:List ar}(hl:l.map t3=Ql w n)(hx:HS S x):HS (w::S) (l++x):=by
 unfold Ql at hl;split at hl
 .obtain rfl:=map_nil hl
  exact hx.mono λv hv=>gq _ hv
 .obtain⟨p,l1,rfl,_⟩:=map_cons hl;exact⟨aT w,p,_,rfl,(by decide:(0:Int)≠1),al⟩
def zSt{b:Bool}{S:List ak}{l x:List ar}(hl:l.map t3=BG b)(hx:HS S x):HS (yB::S) (l++x):=by
 cases b with
 |false =>
  obtain rfl:=map_nil hl
  exact hx.mono λv hv=>gq _ hv
 |true =>
  obtain⟨p,l1,rfl,_⟩:=map_cons (show l.map t3=[aT yB] from hl);exact⟨aT yB,p,_,rfl,(by decide:(0:Int)≠1),al⟩
def zpt{w:ak}{zs:List ak}{l x:List ar}(hb:zs.all zw=bg)(hl:l.map t3=uw w zs)(h1:fK w x=bd)(h2:pa x=bd):nK w [] YB (l++x)=.ok (zs,x):=by
 unfold uw at hl
 cases zs with
 |nil =>
  obtain rfl:=map_nil hl;unfold nK;rw[cl,h1,aO af]
 |cons z zs =>
  obtain⟨p,l1,rfl,e1⟩:=map_cons (show l.map t3=aT w::(z::zs).map aT from hl);unfold nK;rw[aP (show fK w (tk (aT w) p::l1++x)=bg by rw[bO,wh];exact(cb _).trans (dt rfl))];exact zF1 hb e1 h2
def Xb{w:ak}{n lo hi:Int}{l x:List ar}(hn:n≠0->lo<=n/\n<=hi)(hl:l.map t3=Ql w n)(h1:fK w x=bd):nK w 0 (Jz lo hi) (l++x)=.ok (n,x):=by
 unfold Ql at hl;split at hl
 .rename_i h0;obtain rfl:=map_nil hl;unfold nK;rw[cl,h1,aO af,h0]
 .rename_i h0;obtain⟨p,l1,rfl,e1⟩:=map_cons hl;obtain⟨q,l2,rfl,e2⟩:=map_cons e1;obtain rfl:=map_nil e2;obtain⟨a,b⟩:=hn h0;unfold nK;rw[aP (show fK w (tk (aT w) p::[tk (vm n) q]++x)=bg by rw[bO,wh];exact(cb _).trans (dt rfl))];exact Wl a b
def zLf{b:Bool}{l x:List ar}(hl:l.map t3=BG b)(h1:fK yB x=bd):fK yB (l++x)=b/\rM yB (l++x)=x:=by
 cases b with
 |false =>
  obtain rfl:=map_nil hl;unfold rM;rw[cl,h1,aO af];exact⟨rfl,rfl⟩
 |true =>
  obtain⟨p,l1,rfl,e1⟩:=map_cons (show l.map t3=[aT yB] from hl);obtain rfl:=map_nil e1
  have hb:fK yB ([tk (aT yB) p]++x)=bg:=by rw[bO,wh];decide
  unfold rM;rw[hb,aP rfl];exact⟨rfl,rfl⟩
def zF3{d:Nat}{e:Expr}(h:OX d e):∀t ts,yi d e=t::ts->t.2.1≠jh/\t.2.1≠kH/\t.2.1≠jg:=by
 have nm:∀{s:ak},zw s=bg->s≠jh/\s≠kH/\s≠jg:=λh=>⟨E2 h ah,E2 h ah,E2 h ah⟩
 induction h with
 |@num d n h1 h2 =>
  intro t ts e;obtain⟨rfl,_⟩:=List.cons.inj (show[vm n]=t::ts from e);exact⟨oS rfl,oS rfl,oS rfl⟩
 |@name d s h =>
  intro t ts e;obtain⟨rfl,_⟩:=List.cons.inj (show[aT s]=t::ts from e);exact nm h
 |@table d s k h1 h2 =>
  intro t ts e;obtain⟨rfl,_⟩:=List.cons.inj (show[aT yG,aT s,aT k]=t::ts from e);exact⟨ae,ae,ae⟩
 |@lA d s h =>
  intro t ts e;obtain⟨rfl,_⟩:=List.cons.inj (show[aT zR,aT s]=t::ts from e);exact⟨ae,ae,ae⟩
 |@neg d a _ _ =>
  intro t ts e;obtain⟨rfl,_⟩:=List.cons.inj (show iw yX::_=t::ts from e);exact⟨ae,ae,ae⟩
 |@not d a _ _ =>
  intro t ts e;obtain⟨rfl,_⟩:=List.cons.inj (show aT qE::_=t::ts from e);exact⟨ae,ae,ae⟩
 |@cond d a b c _ _ _ _ _ _ =>
  intro t ts e;obtain⟨rfl,_⟩:=List.cons.inj (show aT Vk::_=t::ts from e);exact⟨ae,ae,ae⟩
 |@bin d op a b hb ha _ ia _ =>
  intro t ts e;rw[Hg hb]at e;unfold oW at e;by_cases hp:bR a.Op<ZF op
  .rw[aP hp]at e;obtain⟨rfl,_⟩:=List.cons.inj e;exact⟨ae,ae,ae⟩
  .rw[aO hp]at e
   cases hq:yi d a with
   |nil=>exact aU hq (qW ha).1
   |cons u us =>rw[hq]at e;obtain⟨rfl,_⟩:=List.cons.inj e;exact ia _ _ hq
def zZm(r:zd):BD:=(r.aM,r.Test,r.zj,r.Uses,r.gS,r.N)
def zF4{x:zd}(hb:Qk x){l r:List ar}(hl:l.map t3=BH x)(hr:Stop r):Wf (l++r)=aD (vd z8 r) λ_ r=>.ok (zZm x,r):=by
 obtain⟨nm,zs,ex,fr,un,gr,va,ki,te,pl,us,ot,n⟩:=x;obtain⟨⟨k0,k3⟩,b1,b2,b3,b4,b5,b6,b7,b8⟩:=hb;unfold BH at hl;unfold zZm;dsimp only at *;by_cases h0:ki=0
 .subst h0;rw[aP rfl]at hl;have ox:=GN 12 _ (b1 rfl);obtain rfl:=b4 ae;obtain rfl:=b7 ae ae;obtain⟨rfl,rfl⟩:=b8 ae
  have no:∀w,(∀t ts,yi 12 te=t::ts->t.2.1≠w)->fK w (l++r)=bd:=λw hw=>by
   cases hq:yi 12 te with
   |nil=>exact aU hq (qW ox).1
   |cons t ts =>rw[hq]at hl;obtain⟨p,l1,rfl,_⟩:=map_cons hl;rw[bO,wh,fG];exact .inr (df (hw t ts hq))
  have hw:=zF3 ox;unfold Wf;rw[no jh (λt ts e=>(hw t ts e).1),no kH (λt ts e=>(hw t ts e).2.1),no jg (λt ts e=>(hw t ts e).2.2),aO af,aO af,aO af];unfold Ux;rw[(zFi ox).1 0 l r ab (by rw[hl];exact ED.symm) hr.wf (J5 hr.op)]
  show aD (se (decide (Vb te<=12)) 6 r) _=_
  rw[dt (zNz ox),W_];rfl
 rw[aO h0]at hl;obtain rfl:=b2 h0;by_cases h1:ki=1
 .subst h1;rw[aP rfl]at hl;obtain⟨⟨n1,m1⟩,⟨n2,m2⟩,⟨n3,m3⟩,n4,m4⟩:=b3 rfl;obtain rfl:=b7 ae ae;obtain⟨rfl,rfl⟩:=b8 ae;obtain⟨afK,ba,nu,de⟩:=pl;dsimp only at *;obtain⟨p1,l1,rfl,e1⟩:=map_cons hl;obtain⟨p2,l2,rfl,e2⟩:=map_cons e1;obtain⟨p3,l3,rfl,e3⟩:=map_cons e2;obtain⟨p4,l4,rfl,e4⟩:=map_cons e3;obtain⟨p5,l5,rfl,e5⟩:=map_cons e4;obtain⟨p6,ak1,rfl,e6⟩:=map_cons e5;obtain⟨p7,ak2,rfl,e7⟩:=map_cons e6;obtain rfl:=map_nil e7;unfold Wf;rw[aP (by rw[bO,wh];decide)];unfold TD
  show aD (Jz 0 3 (tk (vm afK) p2::tk (aT qD) p3::tk (vm ba) p4::tk (aT wB) p5::tk (vm nu) p6::tk (vm de) p7::r)) _=_
  rw[Wl n1 m1,TM,LO (show fK qD (tk (aT qD) p3::tk (vm ba) p4::tk (aT wB) p5::tk (vm nu) p6::tk (vm de) p7::r)=bg by rw[wh];decide)]
  show aD (Jz 0 4096 (tk (vm ba) p4::tk (aT wB) p5::tk (vm nu) p6::tk (vm de) p7::r)) _=_
  rw[Wl n2 m2,TM,LO (show fK wB (tk (aT wB) p5::tk (vm nu) p6::tk (vm de) p7::r)=bg by rw[wh];decide)]
  show aD (Jz 0 4096 (tk (vm nu) p6::tk (vm de) p7::r)) _=_
  rw[Wl n3 m3]
  show aD (Jz 1 4096 (tk (vm de) p7::r)) _=_
  rw[Wl n4 m4];rfl
 rw[aO h1]at hl;obtain rfl:=b4 h1;by_cases h3:ki=3
 .subst h3;rw[aP rfl]at hl;obtain⟨⟨n1,m1⟩,⟨n2,m2⟩,n3,m3⟩:=b6 rfl;obtain⟨p1,l1,rfl,e1⟩:=map_cons hl;obtain⟨p2,l2,rfl,e2⟩:=map_cons e1;obtain⟨p3,l3,rfl,e3⟩:=map_cons e2;obtain⟨p4,l4,rfl,e4⟩:=map_cons e3;obtain rfl:=map_nil e4;unfold Wf;rw[aO (by rw[bO,wh];decide),aO (by rw[bO,wh];decide),aP (by rw[bO,wh];decide)];unfold TE
  show aD (oQ qM (tk (aT (qM.getD us.toNat [])) p2::tk (aT (qM.getD ot.toNat [])) p3::tk (vm n) p4::r)) _=_
  rw[zef (Xa _ ab)]
  show aD (oQ qM (tk (aT (qM.getD ot.toNat [])) p3::tk (vm n) p4::r)) _=_
  rw[zef (Xa _ ab)]
  show aD (Jz 0 1048576 (tk (vm n) p4::r)) _=_
  rw[Wl n3 m3]
  show aD (vd z8 r) (λ_ r=>.ok ((3,y_,C3,((us.toNat:Nat):Int),((ot.toNat:Nat):Int),n),r))=_
  rw[eE n1,eE n2];rfl
 rw[aO h3]at hl;obtain rfl:ki=2:=ab;obtain⟨n1,m1⟩:=b5 rfl;obtain⟨rfl,rfl⟩:=b8 ae;obtain⟨p1,l1,rfl,e1⟩:=map_cons hl;unfold Wf;rw[aO (by rw[bO,wh];decide),aP (by rw[bO,wh];decide)];unfold Uw
 show aD (th ((l1++r).length+1) 0 (l1++r)) _=_
 have hlen:=aQ bf e1;unfold tl at hlen;rw[bL,bL]at hlen;rw[zv8 _ _ 0 l1 r (by rw[la];omega) (λi hi=>⟨by simpa using(List.mem_filter.1 hi).1,Nat.zero_testBit i⟩) (List.nodup_range.filter _) (.inr (zLd _ ab ab)) e1 hr.use,zLc _ ab]
 show aD (vd z8 r) (λ_ r=>.ok ((2,y_,C3,((us.toNat:Nat):Int),0,0),r))=_
 rw[eE ab];rfl
def zF5{x:zd}(hn:zw x.aL=bg)(h:Wi x){l r:List ar}(hl:l.map t3=BO (.mA x))(hr:Stop r):DA (l++r)=aD (vd z8 r) λ_ r=>.ok (x,r):=by
 obtain⟨⟨⟨z0,x0⟩,d1,d2,d3,d4⟩,hb⟩:=h;obtain⟨p,l1,rfl,e1⟩:=map_cons (show l.map t3=aT x.aL::Ob x from hl);obtain⟨a1,m1,rfl,f1,g1⟩:=kB e1;obtain⟨a2,m2,rfl,f2,g2⟩:=kB g1;obtain⟨a3,m3,rfl,f3,g3⟩:=kB g2;obtain⟨a4,m4,rfl,f4,g4⟩:=kB g3;obtain⟨a5,m5,rfl,f5,g5⟩:=kB g4;obtain⟨a6,m6,rfl,f6,g6⟩:=kB g5;obtain⟨p7,a7,rfl,f7⟩:=map_cons g6;have afq:tk (aT x.aL) p::(a1++(a2++(a3++(a4++(a5++(a6++tk (iw wQ) p7::a7))))))++r=tk (aT x.aL) p::(a1++(a2++(a3++(a4++(a5++(a6++(tk (iw wQ) p7::(a7++r)))))))):=af;rw[afq]
 have s7:HS [wQ] (tk (iw wQ) p7::(a7++r)):=⟨iw wQ,p7,_,rfl,(by decide:(2:Int)≠1),al⟩
 have s6:=zSt f6 s7;have s5:=XT f5 s6;have s4:=XT f4 s5;have s3:=XT f3 s4;have s2:=zLe f2 s3;unfold DA;rw[Jc hn]
 show aD (nK Z9 [] YB (a1++_)) _=_
 rw[zpt z0 f1 (Gu s2 ah) (zN2 s2 ah)]
 show aD (nK yx [] YB (a2++_)) _=_
 rw[zpt x0 f2 (Gu s3 ah) (zN2 s3 ah)]
 show aD (nK wP 0 (Jz 0 1073741824) (a3++_)) _=_
 rw[Xb (λ_=>d1) f3 (Gu s4 ah)]
 show aD (nK xi 0 (Jz (x.gY+1) 1073741824) (a4++_)) _=_
 rw[Xb (λh=>⟨ab,d3.2⟩) f4 (Gu s5 ah)]
 show aD (nK xp 0 (Jz 0 1073741824) (a5++_)) _=_
 rw[Xb (λ_=>d2) f5 (Gu s6 ah)];obtain⟨v1,v2⟩:=zLf f6 (Gu s7 ah)
 show aD (vd wQ (rM yB (a6++(tk (iw wQ) p7::(a7++r))))) (λ_ r2=>aD (Wf r2) λb r3=>.ok (zd.mk x.aL x.aB x.Except x.gY x.gW x.hU (fK yB (a6++(tk (iw wQ) p7::(a7++r)))) b.1 b.2.1 b.2.2.1 b.2.2.2.1 b.2.2.2.2.1 b.2.2.2.2.2,r3))=_
 rw[v1,v2,LO (by rw[wh];decide)]
 show aD (Wf (a7++r)) _=_
 rw[zF4 hb f7 hr,yg];rfl
def Oi{α β:Type}{r:List ar}{w:ak}{a:α}{g:α->List ar->Except EE β}:aD (aD (vd w r) λ_ r=>.ok (a,r)) g=aD (vd w r) λ_ r=>g a r:=by rw[yg];rfl
def zLg{l:List zx}(h:AO l):l≠[]:=λe=>by have:=h.1.1;rw[e]at this;simp at this
def zv9{α β:Type}{f:α->List β}{k:Nat}(h:∀x,k<=(f x).length):∀l:List α,l.length*k<=(l.flatMap f).length
 |[]=>af
 |x::l=>by have:=h x;have:=zv9 h l;rw[cN,la,lc,dC];omega
def zLh{x:Def}(hn:zw x.aL=bg)(h:OX 12 x.Body){l r:List ar}(hl:l.map t3=BO (.mS x))(hr:Stop r):Di (l++r)=aD (vd z8 r) λ_ r=>.ok (x,r):=by
 obtain⟨p,l1,rfl,e1⟩:=map_cons (show l.map t3=aT x.aL::(iw uy::yi 12 x.Body) from hl);obtain⟨q,l2,rfl,e2⟩:=map_cons e1;unfold Di
 show aD (ja (tk (aT x.aL) p::tk (iw uy) q::(l2++r))) _=_
 rw[Jc hn,TM,LO (show fK uy (tk (iw uy) q::(l2++r))=bg by rw[wh];decide)]
 show aD (DE 0 (l2++r)) _=_
 rw[(zFi h).1 0 l2 r ab (by rw[e2];exact ED.symm) hr.wf (J5 hr.op)]
 show aD (se (decide (Vb x.Body<=12)) 6 r) _=_
 rw[dt (zNz h),W_]
def zF6{x:zM}(hn:zw x.aL=bg)(h:AO x.aA){l r:List ar}(hl:l.map t3=BO (.lA x))(hr:Stop r):Dz x.mN (l++r)=aD (vd z8 r) λ_ r=>.ok (x,r):=by
 obtain⟨p,l1,rfl,e1⟩:=map_cons (show l.map t3=aT x.aL::x.aA.flatMap sZ from hl);unfold Dz
 show aD (ja (tk (aT x.aL) p::(l1++r))) _=_
 rw[Jc hn]
 show aD (qV ((l1++r).length+1) [] (l1++r)) _=_
 have hlen:=aQ bf e1;have:=zv9 (f:=sZ) (k:=2) (λ_=>du 2) x.aA;rw[bL]at hlen;rw[zv7 x.aA _ [] l1 r (zLg h) (by rw[la];omega) (zhu h) e1 hr.num]
 show aD (se (pd (AO x.aA)) 10 r) _=_
 rw[zR4 h,W_];rfl
def zF7{d:Ed}{p:xP}(hd:d.ok)(hp:(∃x,d=.mA x/\p=⟨[],[],[],[x],[],[],[],0⟩)∨(∃x,d=.mS x/\p=⟨[x],[],[],[],[],[],[],0⟩)∨∃x,d=.lA x/\p=⟨[],[],[x],[],[],[],[],0⟩){l r:List ar}{q:Int}(hl:l.map t3=BO d)(hr:Stop r):ZE (tk (aT (l6 d)) q::(l++r))=aD (vd z8 r) λ_ r=>.ok (p,r):=by
 have e:∀(v w:ak)(s:List ar),fK w (tk (aT v) q::s)=decide (v=w):=λ_ _ _=>rfl
 unfold ZE;simp only[e]
 rcases hp with⟨x,rfl,rfl⟩|⟨x,rfl,rfl⟩|⟨x,rfl,rfl⟩
 .simp only[l6,show decide (yn=zO)=bd by decide,show decide (yn=zR)=bd by decide,show decide (yn=zu)=bd by decide,cr,if_false]
  show aD (DA (l++r)) _=_
  rw[zF5 hd.1 hd.2 hl hr,Oi]
 .simp only[l6,decide_true,if_true]
  show aD (Di (l++r)) _=_
  rw[zLh hd.1 (GN _ _ hd.2) hl hr,Oi]
 .have h:=zF6 hd.1 hd.2 hl hr
  cases ho:x.mN with
  |false =>
   rw[ho]at h;simp only[l6,ho,cf,show decide (zR=zO)=bd by decide,decide_true,cr,if_false,if_true]
   show aD (Dz bd (l++r)) _=_
   rw[h,Oi]
  |true =>
   rw[ho]at h;simp only[l6,ho,aH,show decide (zu=zO)=bd by decide,show decide (zu=zR)=bd by decide,decide_true,cr,if_false,if_true]
   show aD (Dz bg (l++r)) _=_
   rw[h,Oi]
section
variable{r:List ar}
def V1(w:ak):V [aT w]=w.length+1:=by rw[Wn,Wm]
def Ws:∀(n:Nat)(acc:List zx)(r:List ar),gm r->RQ r (qV n acc r) λv k=>V (v.flatMap sZ)<=V (acc.flatMap sZ)+k
 |0,_,_,_=>by show((-1:Int))≠0;decide
 |n+1,acc,r,h=>(Ar h).aD λx r1 k1 h1 p1 a1=>(Ar a1.wf).aD λy r2 k2 h2 p2 a2=>by
  have e:V ((acc++[zx.mk x y]).flatMap sZ)=V (acc.flatMap sZ)+(k1+k2):=by
   rw[p1.2,p2.2,abd,Vg]
   show _+V [vm x,vm y]=_
   simp only[QH,Wm]
  refine .ite (λ_=>(Ws n _ r2 a2.wf).mono λv k hk=>?_) λ_=>.ret a2.wf ?_
  .rw[e]at hk;omega
  .rw[e];omega
def aiR(a b:List ak):V ((a++b).map aT)=V (a.map aT)+V (b.map aT):=by rw[cG,Vg]
def zF8:∀(n:Nat)(acc:List ak)(r:List ar),gm r->RQ r (u4 n acc r) λv k=>(acc.all zw=bg->v.all zw=bg)/\V (v.map aT)<=V (acc.map aT)+k
 |0,_,_,_=>by show((-1:Int))≠0;decide
 |n+1,acc,r,h=>.ite (λ_=>(qk h).aD λs r1 k1 h1 p1 a1=>(zF8 n _ r1 a1.wf).mono λv k hk=>by
   rw[aiR]at hk;refine⟨λha=>hk.1 (by rw[fm,ha,cv,p1.1];rfl),?_⟩;have:=hk.2;have e:V (([s]:List ak).map aT)=k1:=(V1 s).trans p1.2.symm
   omega) λ_=>.ret h ⟨id,ab⟩
def zSu(h:gm r):RQ r (YB r) λv k=>v.all zw=bg/\V (v.map aT)<=k:=(qk h).aD λs r1 k1 h1 p1 a1=>(zF8 _ _ _ a1.wf).mono λv k hk=>by refine⟨hk.1 (by rw[cv,p1.1];rfl),?_⟩;have:=hk.2;have e:V (([s]:List ak).map aT)=k1:=(V1 s).trans p1.2.symm;omega
def Oj{w:ak}(h:gm r):RQ r (nK w [] YB r) λv k=>v.all zw=bg/\V (uw w v)<=k:=.ite (λhb=>RQ.bt h hb ((zSu (h.tail (zo hb))).mono λv k hk=>by
 refine⟨hk.1,?_⟩;unfold uw;cases v.isEmpty
 .rw[cf,Wn];have:=hk.2;omega
 .rw[aH,Wm];omega)) λ_=>.ret h ⟨rfl,aq⟩
def YH{w:ak}{lo hi:Int}(h:gm r):RQ r (nK w 0 (Jz lo hi) r) λn k=>(n=0∨lo<=n/\n<=hi)/\V (Ql w n)<=k:=.ite (λhb=>RQ.bt h hb ((Ar (h.tail (zo hb))).mono λv k hk=>by
 refine⟨.inr hk.1,?_⟩;unfold Ql;split
 .rw[Wm];omega
 .rw[Wn,hk.2];omega)) λ_=>.ret h ⟨.inl rfl,aq⟩
def TN(h:gm r):pe r (rM yB r)/\V (BG (fK yB r))+W (rM yB r)<=W r:=by
 unfold rM BG
 cases hb:fK yB r with
 |false=>exact⟨.refl h,by rw[cf,Wm];simp⟩
 |true =>
  have:=zNx hb;rw[TU h];exact⟨(zE h (zo hb)).e,by rw[aH,V1,aP rfl];omega⟩
def akt:∀s<64,∀i<6,V (tl ((s ||| 2 ^ i:Nat):Int))<=V (tl (s:Int))+((sy.getD i []).length+1):=ah
def zwa{w:List ak}{i:Nat}(h:H9 (eP r).Text w=bc i):(w.getD i []).length+1<=wq (eP r):=by rw[bY,V8 h];exact vD _
def TX:∀(n s:Nat)(r:List ar),gm r->s<64->RQ r (th n s r) λv k=>(0<v/\v<64)/\V (tl (v:Int))<=V (tl (s:Int))+k
 |0,_,_,_,_=>by show((-1:Int))≠0;decide
 |n+1,s,r,h,hs=>by
  rw[th];split
  .refine .ite (λh0=>.ret h ⟨⟨h0,hs⟩,ab⟩) λ_=>.err ae
  .rename_i i hf;have hi:=zNk hf
   refine .ite (λh0=>.ret h ⟨⟨h0.1,hs⟩,ab⟩) λ_=>.ite (λ_=>.err ae) λ_=>.ite (λhk=>?_) λ_=>.err ae
   have g:=zYg s hs i hi;refine RQ.tail h ab (zwa hf) ((TX n _ r.tail (h.tail ab) g.1).mono λv k hv=>⟨hv.1,?_⟩);have:=akt s hs i hi;have:=hv.2;omega
def Wt{w:List ak}(h:gm r):RQ r (oQ w r) λi k=>(0<=i/\i<w.length)/\k=(w.getD i.toNat []).length+1:=.ite (λhk=>by
 split
 .rename_i i hf;have:=(List.getElem?_eq_some_iff.1 (V8 hf)).1;exact RQ.tail h ab (zwa hf) (.ret (h.tail ab) ⟨⟨ab,ab⟩,rfl⟩)
 .exact .err ae) λ_=>.err ae
def PB(b:BD)(k:Nat):Prop:=wV b.2.1<=k+1/\∀nm zs ex f u g va,Qk ⟨nm,zs,ex,f,u,g,va,b.1,b.2.1,b.2.2.1,b.2.2.2.1,b.2.2.2.2.1,b.2.2.2.2.2⟩/\V (BH ⟨nm,zs,ex,f,u,g,va,b.1,b.2.1,b.2.2.1,b.2.2.2.1,b.2.2.2.2.1,b.2.2.2.2.2⟩)+2<=k
def Zh(k:Nat):wV y_<=k+1:=by rw[show wV y_=1 from rfl];omega
def aiT{a b c d:Int}(ha:0<=a/\a<=3)(hb:0<=b/\b<=4096)(hc:0<=c/\c<=4096)(hd:1<=d/\d<=4096){k:Nat}(hk:17+V [vm a]+V [vm b]+V [vm c]+V [vm d]+2<=k):PB (1,y_,zj.mk a b c d,0,0,0) k:=by
 refine⟨Zh k,λnm zs ex f u g va=>⟨⟨⟨by dsimp only;omega,by dsimp only;omega⟩,λh=>by dsimp only at h;omega,λ_=>rfl,λ_=>⟨ha,hb,hc,hd⟩,λh=>aU rfl h,λh=>by dsimp only at h;omega,λh=>by dsimp only at h;omega,λ_ _=>rfl,λ_=>⟨rfl,rfl⟩⟩,?_⟩⟩
 show V [aT jh,vm a,aT qD,vm b,aT wB,vm c,vm d]+2<=_
 simp only[QH,Wm]at hk ⊢;have e0:(aT jh).2.1.length=5:=rfl;have e1:(aT qD).2.1.length=4:=rfl;have e2:(aT wB).2.1.length=5:=rfl;omega
def aiU{s k:Nat}(h:0<s/\s<64)(hk:5+V (tl (s:Int))+2<=k):PB (2,y_,C3,((s:Nat):Int),0,0) k:=by
 refine⟨Zh k,λnm zs ex f u g va=>⟨⟨⟨by dsimp only;omega,by dsimp only;omega⟩,λh=>by dsimp only at h;omega,λ_=>rfl,λh=>by dsimp only at h;omega,λ_=>rfl,λ_=>⟨by show(1:Int)<=((s:Nat):Int);omega,by show((s:Nat):Int)<=63;omega⟩,λh=>by dsimp only at h;omega,λh=>aU rfl h,λ_=>⟨rfl,rfl⟩⟩,?_⟩⟩
 show V (aT kH::tl ((s:Nat):Int))+2<=_
 rw[Wn];have e0:kH.length=4:=rfl;omega
def aiV{a b n:Int}{k:Nat}(ha:0<=a/\a<6)(hb:0<=b/\b<6)(hn:0<=n/\n<=1048576)(hk:6+((sy.getD a.toNat []).length+1)+((sy.getD b.toNat []).length+1)+V [vm n]+2<=k):PB (3,y_,C3,a,b,n) k:=by
 refine⟨Zh k,λnm zs ex f u g va=>⟨⟨⟨by dsimp only;omega,by dsimp only;omega⟩,λh=>by dsimp only at h;omega,λ_=>rfl,λh=>by dsimp only at h;omega,λ_=>rfl,λh=>by dsimp only at h;omega,λ_=>⟨by show 0<=a/\a<=5;omega,by show 0<=b/\b<=5;omega,hn⟩,λ_ h=>aU rfl h,λh=>aU rfl h⟩,?_⟩⟩
 show V [aT jg,aT (qM.getD a.toNat []),aT (qM.getD b.toNat []),vm n]+2<=_
 rw[zZl,Wn,Wn,Wn];have e0:jg.length=5:=rfl;omega
def aiS{e:Expr}{k:Nat}(hx:OX 12 e)(hn:wV e<=k+1)(hk:V (yi 12 e)+2<=k):PB (0,e,C3,0,0,0) k:=
 ⟨hn,λnm zs ex f u g va=>⟨⟨⟨by dsimp only;omega,by dsimp only;omega⟩,λ_=>zYv hx,λh=>aU rfl h,λh=>by dsimp only at h;omega,λ_=>rfl,λh=>by dsimp only at h;omega,λh=>by dsimp only at h;omega,λ_ _=>rfl,λ_=>⟨rfl,rfl⟩⟩,by rw[show ∀r:zd,r.aM=0->BH r=yi 12 r.Test from λr h=>aP h]<;>first|exact hk|rfl⟩⟩
def zSv(h:gm r):RQ r (Wf r) PB:=by
 refine .ite (λhb=>?_) λ_=>.ite (λhb=>?_) λ_=>.ite (λhb=>?_) λ_=>?_
 .have ht:=h.tail (zo hb);refine RQ.bt h hb ((Ar ht).aD λa r1 k1 h1 p1 a1=>(kC a1.wf).aD λ_ r2 k2 h2 p2 a2=>(Ar a2.wf).aD λb r3 k3 h3 p3 a3=>(kC a3.wf).aD λ_ r4 k4 h4 p4 a4=>(Ar a4.wf).aD λc r5 k5 h5 p5 a5=>(Ar a5.wf).aD λd r6 k6 h6 p6 a6=>(kC a6.wf).aD λ_ ab2 k7 h7 p7 a7=>.ret a7.wf (aiT p1.1 p3.1 p5.1 p6.1 ?_));have q1:=p1.2;have q3:=p3.2;have q5:=p5.2;have q6:=p6.2;have e0:jh.length=5:=rfl;have e1:qD.length=4:=rfl;have e2:wB.length=5:=rfl;have e3:z8.length=1:=rfl;omega
 .have ht:=h.tail (zo hb);refine RQ.bt h hb ((TX _ _ _ ht ae).aD λs r1 k1 h1 p1 a1=>(kC a1.wf).aD λ_ r2 k2 h2 p2 a2=>.ret a2.wf (aiU p1.1 ?_));have q:=p1.2;rw[show V (tl (((0:Nat)):Int))=0 by decide +kernel]at q;have e0:kH.length=4:=rfl;have e3:z8.length=1:=rfl;omega
 .have ht:=h.tail (zo hb);refine RQ.bt h hb ((Wt ht).aD λa r1 k1 h1 p1 a1=>(Wt a1.wf).aD λb r2 k2 h2 p2 a2=>(Ar a2.wf).aD λn r3 k3 h3 p3 a3=>(kC a3.wf).aD λ_ r4 k4 h4 p4 a4=>.ret a4.wf (aiV p1.1 p2.1 p3.1 ?_));have q1:=p1.2;have q2:=p2.2;have q3:=p3.2;have e0:jg.length=5:=rfl;have e3:z8.length=1:=rfl;omega
 .refine(Oa ae h).aD λe r1 k1 h1 p1 a1=>(TV a1.wf ae).aD λ_ r2 k2 h2 p2 a2=>.ret a2.wf ?_
  have hx:=zY1 p1 12 (aY p2.1);have hc:=zv0 p1 12 hx;have hn:=zN0 p1;rw[show tQ bg 0=0 from rfl,ED]at hc;exact aiS hx ab (by have:=p2.2;omega)
def DJ(d:Ed)(p:xP):Prop:=(∃x,d=.mA x/\p=⟨[],[],[],[x],[],[],[],0⟩)∨(∃x,d=.mS x/\p=⟨[x],[],[],[],[],[],[],0⟩)∨∃x,d=.lA x/\p=⟨[],[],[x],[],[],[],[],0⟩
def EF:Ed->Nat
 |.mA r=>max (wV r.Test) (max r.aB.length r.Except.length)
 |.mS d=>wV d.Body
 |_=>0
def w6(d:Ed)(k:Nat):Prop:=d.ok/\EF d<=k/\V (Vi d++[iw z8])<=k
def EN(d:Ed):V (Vi d++[iw z8])=(l6 d).length+1+V (BO d)+2:=by rw[Vg,Vi,Wn,Dl,Wm];rfl
def zpu(w:ak)(l:List ak):l.length<=V (uw w l):=by
 unfold uw
 cases l with
 |nil=>exact bP _
 |cons x l =>
  rw[show(x::l).isEmpty=bd from rfl,cf,Wn]
  have:∀l:List ak,l.length<=V (l.map aT):=λl=>by
   induction l with
   |nil=>exact bP _
   |cons y l ih=>rw[gf,Wn,lc];omega
  have:=this (x::l);omega
def zSx(h:gm r):RQ r (DA r) λx k=>w6 (.mA x) (k+5):=(qk h).aD λs r1 k1 h1 p1 a1=>(Oj a1.wf).aD λz r2 k2 h2 p2 a2=>(Oj a2.wf).aD λx r3 k3 h3 p3 a3=>(YH a3.wf).aD λf r4 k4 h4 p4 a4=>(YH a4.wf).aD λu r5 k5 h5 p5 a5=>(YH a5.wf).aD λg r6 k6 h6 p6 a6=>by
 obtain⟨w1,w2⟩:=TN a6.wf
 have key:RQ (rM yB r6) (aD (vd wQ (rM yB r6)) λ_ r2=>aD (Wf r2) λb r3=>.ok (zd.mk s z x f u g (fK yB r6) b.1 b.2.1 b.2.2.1 b.2.2.2.1 b.2.2.2.2.1 b.2.2.2.2.2,r3)) λv j=>w6 (.mA v) (k1+(k2+(k3+(k4+(k5+(k6+(V (BG (fK yB r6))+j))))))+5):=(kC w1.wf).aD λ_ ab2 k7 h7 p7 a7=>(zSv a7.wf).aD λb r8 k8 h8 p8 a8=>.ret a8.wf (by
  obtain⟨b1,b2⟩:=p8;obtain⟨c1,c2⟩:=b2 s z x f u g (fK yB r6);have q4:=p4.1;have q5:=p5.1;have q6:=p6.1;refine⟨⟨p1.1,⟨⟨p2.1,p3.1⟩,⟨by show 0<=f;omega,by show f<=1073741824;omega⟩,⟨by show 0<=g;omega,by show g<=1073741824;omega⟩,⟨by show 0<=u;omega,by show u<=1073741824;omega⟩,by show u=0∨f<u;omega⟩,c1⟩,?_,?_⟩
  .have n1:=zpu Z9 z;have n2:=zpu yx x;have:=p2.2;have:=p3.2
   show max (wV b.2.1) (max z.length x.length)<=_
   omega
  .rw[EN]
   show 4+1+V (aT s::(uw Z9 z++(uw yx x++(Ql wP f++(Ql xi u++(Ql xp g++(BG (fK yB r6)++(iw wQ::BH _))))))))+2<=_
   rw[Wn,Vg,Vg,Vg,Vg,Vg,Vg,Dl];have e:wQ.length+1=k7:=p7.symm;have:=p1.2;have:=p2.2;have:=p3.2;have:=p4.2;have:=p5.2;have:=p6.2
   omega)
 generalize (aD (vd wQ (rM yB r6)) λ_ r2=>aD (Wf r2) λb r3=>.ok (zd.mk s z x f u g (fK yB r6) b.1 b.2.1 b.2.2.1 b.2.2.2.1 b.2.2.2.2.1 b.2.2.2.2.2,r3))=y at key ⊢
 match y,key with
 |.error e,key=>exact key
 |.ok (v,ab3),⟨g1,j,g2,g3⟩=>exact⟨w1.trans g1,_,g2,ab⟩
def zZn(h:gm r):RQ r (Di r) λx k=>w6 (.mS x) (k+7):=(qk h).aD λs r1 k1 h1 p1 a1=>(kC a1.wf).aD λ_ r2 k2 h2 p2 a2=>(Oa ae a2.wf).aD λe r3 k3 h3 p3 a3=>(TV a3.wf ae).aD λ_ r4 k4 h4 p4 a4=>.ret a4.wf (by
 have hx:=zY1 p3 12 (aY p4.1);have hc:=zv0 p3 12 hx;have hn:=zN0 p3;rw[show tQ bg 0=0 from rfl,ED]at hc;refine⟨⟨p1.1,zYv hx⟩,by show wV e<=_;omega,?_⟩;rw[EN]
 show 6+1+V (aT s::iw uy::yi 12 e)+2<=_
 rw[Wn,Dl];have e1:uy.length+1=k2:=p2.symm;have:=p1.2;have:=p4.2
 omega)
def zGb{o:Bool}(h:gm r):RQ r (Dz o r) λx k=>x.mN=o/\w6 (.lA x) (k+((bif o then zu else zR).length+1)):=(qk h).aD λs r1 k1 h1 p1 a1=>(Ws _ _ _ a1.wf).aD λc r2 k2 h2 p2 a2=>(TV a2.wf ae).aD λ_ r3 k3 h3 p3 a3=>.ret a3.wf (by
 refine⟨rfl,⟨p1.1,yV.1 p3.1⟩,bP _,?_⟩;rw[EN]
 show(bif o then zu else zR).length+1+V (aT s::c.flatMap sZ)+2<=_
 rw[Wn];rw[show(([]:List zx)).flatMap sZ=[] from rfl,Wm]at p2;have:=p1.2;have:=p3.2
 omega)
def zGc(h:gm r)(hk:(eP r).aM≠3)(hw:(eP r).Text=yn∨(eP r).Text=zO∨(eP r).Text=zR∨(eP r).Text=zu):RQ r (ZE r) λp k=>∃d,DJ d p/\w6 d k:=by
 have ht:=h.tail hk
 refine .ite (λhb=>?_) λn1=>.ite (λhb=>?_) λn2=>.ite (λhb=>?_) λn3=>?_
 .exact RQ.bt h hb ((zZn ht).aD λx r1 k1 h1 p1 a1=>.ret a1.wf ⟨_,.inr (.inl ⟨x,rfl,rfl⟩),by rw[show zO.length+1+(k1+0)=k1+7 by show 6+1+(k1+0)=_;omega];exact p1⟩)
 .exact RQ.bt h hb ((zGb ht).aD λx r1 k1 h1 p1 a1=>.ret a1.wf ⟨_,.inr (.inr ⟨x,rfl,rfl⟩),by rw[eW];exact p1.2⟩)
 .exact RQ.bt h hb ((zGb ht).aD λx r1 k1 h1 p1 a1=>.ret a1.wf ⟨_,.inr (.inr ⟨x,rfl,rfl⟩),by rw[eW];exact p1.2⟩)
 .simp only[X6 hk,aW]at n1 n2 n3
  have e:(eP r).Text=yn:=by
   rcases hw with hw|hw|hw|hw
   .exact hw
   .exact aU hw n1
   .exact aU hw n2
   .exact aU hw n3
  have hb:fK yn r=bg:=by rw[X6 hk];exact dt e
  exact RQ.bt h hb ((zSx ht).aD λx r1 k1 h1 p1 a1=>.ret a1.wf ⟨_,.inl ⟨x,rfl,rfl⟩,by rw[show yn.length+1+(k1+0)=k1+5 by show 4+1+(k1+0)=_;omega];exact p1⟩)
end
mutual
def zpv:∀e:Expr,JA e=bg
 |⟨_,_,s,k,az⟩=>by rw[JA,zei az];simp
def zei:∀l:List Expr,EM l=bg
 |[]=>rfl
 |e::r=>by rw[EM,zpv e,zei r];rfl
end
def Pb{e:Expr}(h:wV e<=5000):rL e=bg:=by unfold rL;rw[zpv,dt h];rfl
def XU{r:zd}(h1:r.aB.length<=3000)(h2:r.Except.length<=3000)(h3:wV r.Test<=5000):si r=bg:=by unfold si Lr;rw[Pb h3,dt h1,dt h2];simp
def nM(e:zN):Prop:=si e.zd=bg/\rL e.Body=bg/\e.aA.length<=64
def DC(D:List Def)(Z:List zM)(R:List zd)(hD:D.length<=300/\∀x∈D,rL x.Body=bg)(hZ:Z.length<=300/\∀x∈Z,x.aA.length<=64)(hR:R.length<=300/\∀x∈R,si x=bg):Cm ⟨D,[],Z,R,[],[],[],0⟩:=⟨hD.1,af,hZ.1,hR.1,af,af,af,λx hx=>⟨ab,hD.2 x hx⟩,λx hx=>(by cases hx),λx hx=>⟨ab,hZ.2 x hx⟩,hR.2,λx hx=>(by cases hx),λx hx=>(by cases hx)⟩
def Cm.fit{p:xP}(h:Cm p):ac_ p:=by refine⟨⟨by have:=h.d;omega,λx hx=>Hf (h.ds x hx).2⟩,⟨by have:=h.t;omega,λx hx=>by have:=(h.ts x hx).2.1;omega⟩,⟨by have:=h.z;omega,λx hx=>by have:=(h.zs x hx).2;omega⟩,⟨by have:=h.r;omega,λx hx=>?_⟩,⟨by have:=h.c;omega,λx hx=>by have:=(h.cs x hx).2;omega⟩,⟨by have:=h.v;omega,λx hx=>by have:=(h.vs x hx).2;omega⟩,by have:=h.s;omega⟩;obtain⟨_,h2,h3,h4⟩:=Jb (h.rs x hx);exact⟨by have:=h2.1;omega,by have:=h3.1;omega,Hf h4⟩
def Ax(r:zd):zd.mk r.aL r.aB r.Except r.gY r.gW r.hU r.gZ r.aM (Expr.mk r.Test.Op r.Test.N r.Test.S r.Test.Key r.Test.aZ) r.zj r.Uses r.gS r.N=r:=by rw[zT]
def zwb(e:zN):zN.mk e.aM e.aL e.Key e.N e.zd e.Body e.aA=e:=by cases e;rfl
def PE{a b:zN}(h:nM a):qt a b=bc (pd (a=b)):=by
 obtain⟨k,n,y,m,r,b1,c⟩:=a;obtain⟨k',n',y',m',r',Qy,c'⟩:=b;obtain⟨h1,h2,h3⟩:=h;dsimp only at h1 h2 h3;unfold qt;dsimp only;rw[Ax r,Ax r',zT b1,zT Qy,Vc ab,zEy (Cm.fit (DC _ _ _ ⟨af,λx hx=>by rw[bS]at hx;subst hx;exact h2⟩ ⟨af,λx hx=>by cases hx⟩ ⟨af,λx hx=>by rw[bS]at hx;subst hx;exact h1⟩))];simp only[aC,Ja]
 have e:pd ((⟨k,n,y,m,r,b1,c⟩:zN)=⟨k',n',y',m',r',Qy,c'⟩)=(pd (k=k')&&(pd (n=n')&&(pd (y=y')&&(pd (m=m')&&(pd (c=c')&&pd ((⟨[⟨[],b1⟩],[],[],[r],[],[],[],0⟩:xP)=⟨[⟨[],Qy⟩],[],[],[r'],[],[],[],0⟩)))))):=by
  simp only[<- vi];refine kz ?_;simp only[zN.mk.injEq,xP.mk.injEq,List.cons.injEq,Def.mk.injEq,true_and,and_true];constructor
  .rintro⟨rfl,rfl,rfl,rfl,rfl,rfl,rfl⟩;simp
  .rintro⟨rfl,rfl,rfl,rfl,rfl,rfl,rfl⟩;simp
 rw[e];cases pd (k=k')<;>cases pd (n=n')<;>cases pd (y=y')<;>cases pd (m=m')<;>cases pd (c=c')<;>rfl
def zhw{r:zd}:Ap ⟨[],[],[],[r],[],[],[],0⟩↔zw r.aL=bg/\Wi r:=by simp[Ap,jj,Ph,uv]
def zpx{d:Def}:Ap ⟨[d],[],[],[],[],[],[],0⟩↔zw d.aL=bg/\lU 12 d.Body=bg:=by simp[Ap,jj,Ph,uv]
def YI{z:zM}:Ap ⟨[],[],[z],[],[],[],[],0⟩↔zw z.aL=bg/\AO z.aA:=by simp[Ap,jj,Ph,uv]
def fe(e:zN):Int×ak×ak×Int×ak×(List ak)×(List ak)×Int×Int×Int×Bool×Int×Int×Int×ak×ak×(List Expr)×Int×Int×Int×Int×Int×Int×Int×Int×Int×ak×ak×(List Expr)×(List zx):=(e.aM,e.aL,e.Key,e.N,e.zd.aL,e.zd.aB,e.zd.Except,e.zd.gY,e.zd.gW,e.zd.hU,e.zd.gZ,e.zd.aM,e.zd.Test.Op,e.zd.Test.N,e.zd.Test.S,e.zd.Test.Key,e.zd.Test.aZ,e.zd.zj.lz,e.zd.zj.ly,e.zd.zj.ln,e.zd.zj.Den,e.zd.Uses,e.zd.gS,e.zd.N,e.Body.Op,e.Body.N,e.Body.S,e.Body.Key,e.Body.aZ,e.aA)
def zpy{r:zd}:Ag ⟨[],[],[],[r],[],[],[],0⟩=bc (fe (enc (.mA r))):=rfl
def zwd{d:Def}:Ag ⟨[d],[],[],[],[],[],[],0⟩=bc (fe (enc (.mS d))):=rfl
def zpz{z:zM}:Ag ⟨[],[],[z],[],[],[],[],0⟩=bc (fe (enc (.lA z))):=by obtain⟨n,o,c⟩:=z;cases o<;>rfl
def afY:Ed->Prop
 |.mA r=>si r=bg
 |.mS d=>rL d.Body=bg
 |.lA z=>z.aA.length<=64
 |_=>True
def TY:rL jc=bg:=Pb (by simp[jc,wV,An])
def TZ:si kD=bg:=XU (by simp[kD]) (by simp[kD]) (by simp[kD,jc,wV,An])
def Pc{d:Ed}(h:afY d):nM (enc d):=by
 cases d with
 |mA r=>exact⟨h,TY,by simp[enc]⟩
 |mS r=>exact⟨TZ,h,by simp[enc]⟩
 |lA z=>exact⟨TZ,TY,h⟩
 |_=>exact⟨TZ,TY,by simp[enc]⟩
def GS{P:Prop}{b:Bool}(h:b=bg↔P):bc b=bc (pd P):=aQ bc (kE h)
def zSy{e:zN}(h:nM e):vy e=bc (pd (∃d:Ed,d.ok/\enc d=e)):=by
 obtain⟨k,n,y,m,r,b1,c⟩:=e;have hz:nM ⟨k,n,y,m,r,b1,c⟩:=h;obtain⟨h1,h2,h3⟩:=h;dsimp only at h1 h2 h3;unfold vy;dsimp only;rw[Ax r,zT b1];unfold jo;dsimp only;rw[Ax r,zT b1];by_cases k0:k=0
 .subst k0;simp only[decide_true,aH,aC];rw[OM (DC [] [] [r] ⟨af,λx hx=>by cases hx⟩ ⟨af,λx hx=>by cases hx⟩ ⟨af,λx hx=>by rw[bS]at hx;subst hx;exact h1⟩),aC];rw[zpy,aC]
  show(bif _ then(qt (enc (.mA r)) ⟨0,n,y,m,r,b1,c⟩).bind λx4=>bc x4 else bc bd)=_
  rw[PE (b:=⟨0,n,y,m,r,b1,c⟩) (Pc (d:=.mA r) h1),aC,kr,<- vi];refine aQ bc (kz ?_);rw[zhw];constructor
  .rintro⟨g,e⟩;exact⟨.mA r,g,e⟩
  .rintro⟨d,g,e⟩
   cases d with
   |mA r' =>
    have:r'=r:=by injection e
    subst this;exact⟨g,e⟩
   |_=>simp[enc]at e
 by_cases k2:k=2
 .subst k2;simp only[Int.reduceEq,decide_false,cf,decide_true,aH,aC];rw[OM (DC [⟨n,b1⟩] [] [] ⟨af,λx hx=>by rw[bS]at hx;subst hx;exact h2⟩ ⟨af,λx hx=>by cases hx⟩ ⟨af,λx hx=>by cases hx⟩),aC];rw[zwd,aC]
  show(bif _ then(qt (enc (.mS ⟨n,b1⟩)) ⟨2,n,y,m,r,b1,c⟩).bind λx4=>bc x4 else bc bd)=_
  rw[PE (b:=⟨2,n,y,m,r,b1,c⟩) (Pc (d:=.mS ⟨n,b1⟩) h2),aC,kr,<- vi];refine aQ bc (kz ?_);rw[zpx];constructor
  .rintro⟨g,e⟩;exact⟨.mS ⟨n,b1⟩,g,e⟩
  .rintro⟨d,g,e⟩
   cases d with
   |mS d' =>
    obtain⟨n',b'⟩:=d';simp only[enc,zN.mk.injEq]at e;obtain⟨_,rfl,rfl,rfl,rfl,rfl,rfl⟩:=e;exact⟨g,rfl⟩
   |_=>simp[enc]at e
 by_cases k4:k=4
 .subst k4;simp only[Int.reduceEq,decide_false,cf,decide_true,aH,aC];rw[OM (DC [] [⟨n,decide (m=1),c⟩] [] ⟨af,λx hx=>by cases hx⟩ ⟨af,λx hx=>by rw[bS]at hx;subst hx;exact h3⟩ ⟨af,λx hx=>by cases hx⟩),aC];rw[zpz,aC]
  show(bif _ then(qt (enc (.lA ⟨n,decide (m=1),c⟩)) ⟨4,n,y,m,r,b1,c⟩).bind λx4=>bc x4 else bc bd)=_
  rw[PE (b:=⟨4,n,y,m,r,b1,c⟩) (Pc (d:=.lA ⟨n,decide (m=1),c⟩) h3),aC,kr,<- vi];refine aQ bc (kz ?_);rw[YI];constructor
  .rintro⟨g,e⟩;exact⟨.lA ⟨n,decide (m=1),c⟩,g,e⟩
  .rintro⟨d,g,e⟩
   cases d with
   |lA d' =>
    obtain⟨n',o',c'⟩:=d';simp only[enc,zN.mk.injEq]at e;obtain⟨_,rfl,rfl,rfl,rfl,rfl,rfl⟩:=e
    have:decide ((bif o' then(1:Int)else 0)=1)=o':=by cases o'<;>rfl
    rw[this];exact⟨g,rfl⟩
   |_=>simp[enc]at e
 rw[df k0,df k2,df k4];simp only[cf,aC];rw[PE hz];simp only[aC];rw[yl (bP _)]
 have Na:(⟨k,n,y,m,r,b1,c⟩:zN)=⟨k,n,y,m,kD,jc,[]⟩↔(r=kD/\b1=jc/\c=[]):=by simp only[zN.mk.injEq,true_and]
 show(aN (bif (!(pd ((⟨k,n,y,m,r,b1,c⟩:zN)=⟨k,n,y,m,kD,jc,[]⟩)))then bc bg else(bc (zw n)).bind λx7=>bc (!x7)) _)=_
 by_cases hq:r=kD/\b1=jc/\c=[]
 .rw[yV.2 (Na.2 hq)];obtain⟨rfl,rfl,rfl⟩:=hq;by_cases hn:zw n=bg
  .rw[hn];simp only[bJ,cf,aC];rw[yl (bP _)];simp only[aC];by_cases k1:k=1
   .subst k1;simp only[decide_true,aH];rw[kr,kr];refine GS ?_;simp only[bn,aW];constructor
    .rintro⟨rfl,g1,g2⟩;exact⟨.fin n m,⟨hn,g1,g2⟩,rfl⟩
    .rintro⟨d,g,e⟩
     cases d with
     |fin n' d' =>
      simp only[enc,zN.mk.injEq]at e;obtain⟨_,rfl,rfl,rfl,_⟩:=e;exact⟨rfl,g.2⟩
     |_=>simp[enc]at e
   by_cases k3:k=3
   .subst k3;simp only[Int.reduceEq,decide_false,cf,decide_true,aH];rw[kr,kr];refine GS ?_;simp only[bn,aW];constructor
    .rintro⟨g0,g1,g2⟩;exact⟨.row n ⟨y,m⟩,⟨hn,g0,g1,g2⟩,rfl⟩
    .rintro⟨d,g,e⟩
     cases d with
     |row n' d' =>
      simp only[enc,zN.mk.injEq]at e;obtain⟨_,rfl,rfl,rfl,_⟩:=e;exact g.2
     |_=>simp[enc]at e
   by_cases k5:k=5
   .subst k5;simp only[Int.reduceEq,decide_false,cf,decide_true,aH];rw[kr,kr];refine GS ?_;simp only[bn,aW];constructor
    .rintro⟨rfl,g1,g2⟩;exact⟨.q_ n m,⟨hn,g1,g2⟩,rfl⟩
    .rintro⟨d,g,e⟩
     cases d with
     |q_ n' d' =>
      simp only[enc,zN.mk.injEq]at e;obtain⟨_,rfl,rfl,rfl,_⟩:=e;exact⟨rfl,g.2⟩
     |_=>simp[enc]at e
   rw[df k1,df k3,df k5];simp only[cf];refine GS ⟨λh=>(by cases h),?_⟩;rintro⟨d,g,e⟩;cases d<;>simp only[enc,zN.mk.injEq]at e<;>omega
  .have tz:zw n=bd:=by simpa using hn
   rw[tz];simp only[bJ,cu,cf,aH,aC];refine GS ⟨λh=>(by cases h),?_⟩;rintro⟨d,g,e⟩
   cases d with
   |fin n' d' =>
    simp only[enc,zN.mk.injEq]at e;obtain⟨_,rfl,_⟩:=e;exact aU g.1 hn
   |row n' d' =>
    simp only[enc,zN.mk.injEq]at e;obtain⟨_,rfl,_⟩:=e;exact aU g.1 hn
   |q_ n' d' =>
    simp only[enc,zN.mk.injEq]at e;obtain⟨_,rfl,_⟩:=e;exact aU g.1 hn
   |_=>simp only[enc,zN.mk.injEq]at e;omega
 .rw[zvm (λe=>hq (Na.1 e))];simp only[cu,aH,aC];refine GS ⟨λh=>(by cases h),?_⟩;rintro⟨d,g,e⟩
  cases d with
  |fin n' d' =>
   simp only[enc,zN.mk.injEq]at e;exact aU ⟨e.2.2.2.2.1.symm,e.2.2.2.2.2.1.symm,e.2.2.2.2.2.2.symm⟩ hq
  |row n' d' =>
   simp only[enc,zN.mk.injEq]at e;exact aU ⟨e.2.2.2.2.1.symm,e.2.2.2.2.2.1.symm,e.2.2.2.2.2.2.symm⟩ hq
  |q_ n' d' =>
   simp only[enc,zN.mk.injEq]at e;exact aU ⟨e.2.2.2.2.1.symm,e.2.2.2.2.2.1.symm,e.2.2.2.2.2.2.symm⟩ hq
  |_=>simp only[enc,zN.mk.injEq]at e;omega
def zGf{R:Expr->Int->Int->Option Int}{m:Nat}{lv:Int}{c2 c3:Int}{c4 c5:ak}{l:List Expr}(rQ:1<=lv/\lv<=1000)(hm:m<=1000)
  (hR:∀x∈l,∀k:Nat,k<=1000->∃v:Nat,R x (k:Int) (lv-1)=bc (v:Int)/\1<=v/\v<=k+1/\(v<=k->wV x<=v)):
  ∀(r:List Expr)(i K n:Nat),l.drop i=r->i<=l.length->m+1-n<K->n<=m+1->i<=n->∃v:Nat,wY R (m:Int) lv c2 c3 c4 c5 l K ((n:Int),(i:Int))=bc (v:Int)/\n<=v/\v<=m+1/\(v<=m->n+An r<=v)
 |[],i,K,n,hr,hi,hK,hn,hin=>by
  obtain⟨K,rfl⟩:∃k,K=k+1:=⟨K-1,ab⟩
  have:=drop_nil hr hi;have e:i=l.length:=ab;refine⟨n,?_,ab,ab,λ_=>by simp[An]⟩;rw[wY,e];simp only[xQ,cf,aC]
 |x::r,i,K,n,hr,hi,hK,hn,hin=>by
  obtain⟨K,rfl⟩:∃k,K=k+1:=⟨K-1,ab⟩
  obtain⟨h1,h2,h3⟩:=yZ hr;rw[wY];simp only[kG h1,aH,aC];by_cases g:n<=m
  .rw[dt (by omega:(n:Int)<=(m:Int)),aH,zW h1,aC];obtain⟨v,e1,e2,e3,e4⟩:=hR x (bG h1) (m-n) ab;rw[yv (n:=(m:Int)-(n:Int)) ab ab,yv (n:=lv-1) ab ab,show(m:Int)-(n:Int)=((m-n:Nat):Int) by omega,e1,aC,yv (n:=(n:Int)+(v:Int)) ab ab,yw ab,show(n:Int)+(v:Int)=((n+v:Nat):Int) by omega];obtain⟨u,f1,f2,f3,f4⟩:=zGf rQ hm hR r (i+1) K (n+v) h2 ab ab ab ab;refine⟨u,f1,ab,f3,λhu=>?_⟩;have:=f4 hu;have:=e4 ab;rw[An];omega
  .rw[df (by omega:¬(n:Int)<=(m:Int)),cf];exact⟨n,rfl,ab,hn,λh=>aU h g⟩
def zLi:∀(lv K:Nat)(e:Expr)(m:Nat),lv<K->lv<=1000->m<=1000->∃v:Nat,yT K e (m:Int) (lv:Int)=bc (v:Int)/\1<=v/\v<=m+1/\(v<=m->wV e<=v):=by
 intro lv
 induction lv with
 |zero =>
  intro K e m hK _ hm
  obtain⟨K,rfl⟩:∃k,K=k+1:=⟨K-1,ab⟩
  refine⟨m+1,?_,ab,ab,ab⟩;rw[yT]
  show(bif bg then bc (aS ((m:Int)+1))else _)=_
  rw[aH,yw ab]
 |succ lv ih =>
  intro K e m hK rQ hm
  obtain⟨K,rfl⟩:∃k,K=k+1:=⟨K-1,ab⟩
  rw[yT,df (by omega:¬((lv+1:Nat):Int)<1),cf]
  obtain⟨v,h1,h2,h3,h4⟩:=zGf (R:=yT K) (m:=m) (lv:=((lv+1:Nat):Int)) (c2:=e.Op) (c3:=e.N) (c4:=e.S) (c5:=e.Key) (l:=e.aZ) ⟨ab,ab⟩ hm (λx _ k hk=>by
   rw[show((lv+1:Nat):Int)-1=(lv:Int) by omega]
   exact ih K x k ab ab hk) e.aZ 0 KK 1 rfl (bP _) (vZ ab) ab ab
  refine⟨v,?_,h2,h3,λhv=>?_⟩
  .rw[show(1:Int)=((1:Nat):Int) from rfl,show(0:Int)=((0:Nat):Int) from rfl,h1];rfl
  .have:=h4 hv;obtain⟨_,_,_,_,az⟩:=e;rw[wV];dsimp only at this;omega
def CC(e:Expr):Prop:=∃v:Nat,yT KK e 20 14=bc (v:Int)/\v<=20
def YJ(e:Expr):∃v:Nat,yT KK e 20 14=bc (v:Int)/\(v<=20->wV e<=20):=by obtain⟨v,h1,_,_,h4⟩:=zLi 14 KK e 20 (vZ ab) ab ab;exact⟨v,h1,λh=>by have:=h4 h;omega⟩
def zZo{e:Expr}{v:Nat}(h:yT KK e 20 14=bc (v:Int)):decide ((v:Int)<=20)=pd (CC e):=by
 refine kE ?_;rw[aW];constructor
 .intro g;exact⟨v,h,ab⟩
 .rintro⟨u,hu,hu2⟩;rw[h]at hu;have:(v:Int)=u:=Option.some.inj hu;omega
def akp{e:Expr}{v:Nat}(h:yT KK e 20 14=bc (v:Int)):decide ((v:Int)>20)=!(pd (CC e)):=by rw[<- zZo h,<- decide_not];exact yI ab
def CC.DN{e:Expr}(h:CC e):rL e=bg:=by obtain⟨v,h1,h2⟩:=YJ e;obtain⟨u,h3,h4⟩:=h;rw[h1]at h3;have:(v:Int)=u:=Option.some.inj h3;have:=h2 ab;exact Pb ab
def DL(r:zd):Prop:=CC r.Test/\r.aB.length<=6/\r.Except.length<=6
def DL.DN{r:zd}(h:DL r):si r=bg:=by have:=Qi h.1.DN;exact XU (by have:=h.2.1;omega) (by have:=h.2.2;omega) this.1
def zLj{r:zd}:K6 r=bc (pd (DL r)):=by unfold K6;rw[zT];obtain⟨v,h1,_⟩:=YJ r.Test;rw[h1,aC,zZo h1,kr,kr];refine aQ bc ?_;unfold DL;rw[vi,vi,Md r.aB.length 6 (a:=6) rfl,Md r.Except.length 6 (a:=6) rfl,Ja,Ja]
def CB(e:zN):Prop:=DL e.zd/\CC e.Body/\e.aA.length<=12
def CB.sz{e:zN}(h:CB e):nM e:=⟨h.1.DN,h.2.1.DN,by have:=h.2.2;omega⟩
def zSz{l:List zN}:∃b,VY l=bc b/\(b=bg->l.length<=6/\∀e∈l,CB e):=by
 unfold VY;have key:=Xl (l.take 7) (λx=>pd (CB x)) (bc (br ())) (bc (bp bd)) (jR l) (λK i x hx=>?_) (λK=>?_) (l.take 7) 0 KK rfl (bP _) (vZ (by rw[bX];omega))
 .rw[show((0:Nat):Int)=0 from rfl]at key;rw[key]
  cases hA:(l.take 7).all (λx=>pd (CB x))with
  |false=>exact⟨bd,rfl,λh=>by cases h⟩
  |true =>
   refine⟨decide (((bf l:Nat):Int)<=6),rfl,λh=>?_⟩;rw[aW]at h;refine⟨ab,?_⟩;rw[List.take_of_length_le ab,bj]at hA
   exact λe he=>yV.1 (hA e he)
 .have hi:=qi hx;rw[bX]at hi
  have CU:l[i]?=bc x:=by rwa [List.getElem?_take,aP ab]at hx
  have hi7:i<7:=ab;have h7:decide ((i:Int)<7)=bg:=dt ab;rw[jR];simp only[kG CU,aH,aC,h7,zW CU,zLj];obtain⟨v,h1,_⟩:=YJ x.Body;rw[h1];simp only[aC,akp h1]
  have hb:((bif (!(pd (DL x.zd)))then bc bg else(bif (!(pd (CC x.Body)))then bc bg else bc (decide (((bf x.aA:Nat):Int)>12)))):Option Bool)=bc (!(pd (CB x))):=by rw[zRn (m:=12) 12 rfl];unfold CB;rw[vi,vi,<- Ja (p:=x.aA.length<=12)];cases pd (DL x.zd)<;>cases pd (CC x.Body)<;>rfl
  rw[hb,aC,yw ab];cases pd (CB x)<;>rfl
 .rw[jR,bX];by_cases g:7<=l.length
  .rw[Nat.min_eq_left g]
   show aN (bif decide (((7:Nat):Int)<((bf l:Nat):Int))then bc bd else bc bd) _=_
   cases decide (((7:Nat):Int)<((bf l:Nat):Int))<;>rfl
  .rw[Nat.min_eq_right ab,xQ];rfl
def zGg{a b:List ak}(hs:a.length<4611686018427387904):kl a b=bc (pd (a=b)):=by
 unfold kl
 refine wg a b (λx y=>bc (decide (x=y))) _ (λK q=>rfl) hs λx _ y _=>?_
 rw[Ja]
def zZp:∀(n:Nat)(a b:Expr)(K:Nat),wV a<=n->n<=K->n<=1000000000->xb K a b=bc (pd (a=b)):=by
 intro n
 induction n with
 |zero=>intro a b K h;have:=Kh a;omega
 |succ n ih =>
  intro a b K h hK hn
  obtain⟨K,rfl⟩:∃k,K=k+1:=⟨K-1,ab⟩
  obtain⟨o1,n1,s1,k1,z1⟩:=a;obtain⟨o2,n2,s2,k2,z2⟩:=b;rw[wV]at h;have hz:=Qg z1
  have hl:=wg z1 z2 (xb K) (kh (xb K) o1 n1 s1 k1 z1 o2 n2 s2 k2 z2) (λK q=>rfl) ab λx hx y hy=>ih x y K (by have:=OL hx;omega) ab ab
  rw[xb]
  have e:pd ((⟨o1,n1,s1,k1,z1⟩:Expr)=⟨o2,n2,s2,k2,z2⟩)=(pd (o1=o2)&&(pd (n1=n2)&&(pd (s1=s2)&&(pd (k1=k2)&&pd (z1=z2))))):=by refine(kE ?_).symm;simp only[bn,yV,Expr.mk.injEq]
  rw[e];simp only[Ja]at hl ⊢;cases pd (o1=o2)<;>simp only[bJ,cu,aH,cf,aC,dA,cb];cases pd (n1=n2)<;>simp only[bJ,cu,aH,cf,aC,dA,cb];cases pd (s1=s2)<;>simp only[bJ,cu,aH,cf,aC,dA,cb];cases pd (k1=k2)<;>simp only[bJ,cu,aH,cf,aC,dA,cb];exact hl
def zGh{a b:Expr}(h:Ki a):xb KK a b=bc (pd (a=b)):=zZp 1000000000 a b KK h (Nat.le_of_lt (vZ ab)) ab
def zZq{a b:zd}(h1:a.aB.length<4611686018427387904)(h2:a.Except.length<4611686018427387904)(h3:Ki a.Test):Ah a b=bc (pd (a=b)):=by
 obtain⟨a1,a2,a3,a4,a5,a6,a7,a8,a9,⟨p1,p2,p3,p4⟩,Qn,Qr,a12⟩:=a;obtain⟨b1,b2,b3,b4,b5,b6,b7,b8,b9,⟨q1,q2,q3,q4⟩,Qz,QQ,af0⟩:=b;unfold Ah;simp only[zGg h1,zGg h2,zT,zGh h3,aC,Ja,TL,zd.mk.injEq,zj.mk.injEq,vi]
 cases pd (a2=b2)<;>cases pd (a3=b3)<;>cases pd (a9=b9)<;>simp only[bJ,cu,aH,cf,aC,dA,eH,cb] <;>
 cases pd (a1=b1)<;>cases pd (a4=b4)<;>cases pd (a5=b5)<;>cases pd (a6=b6)<;>simp only[aC,aH,cf,dA,eH,cb] <;>
 cases pd (a7=b7)<;>cases pd (a8=b8)<;>simp only[aC,aH,cf,dA,eH,cb] <;>
 cases (pd (p1=q1)&&(pd (p2=q2)&&(pd (p3=q3)&&pd (p4=q4))))<;>cases pd (Qn=Qz)<;>cases pd (Qr=QQ)<;>rfl
def aiI{r:zd}(h1:r.aB.length<4611686018427387904)(h2:r.Except.length<4611686018427387904)(h3:Ki r.Test):VX ⟨[],[],[],[r],[],[],[],0⟩ ⟨[],[],[],[r],[],[],[],0⟩=bc bg:=by
 obtain⟨K,hK⟩:∃k,KK=k+2:=⟨KK-2,by have:=Zf;omega⟩
 unfold VX qu;simp only[hK,HO,HP,HQ,HR,HU,HV,vU,bN,lc,decide_true,bJ,cf,aC,xo,show decide (((0:Nat):Int)<((0:Nat):Int))=bd from rfl,show decide ((0:Int)<((0:Nat):Int))=bd from rfl,show decide ((0:Int)<((0+1:Nat):Int))=bg from rfl,show(idx [r] 0)=bc r from rfl,aH];rw[zZq h1 h2 h3,show pd (r=r)=bg from yV.2 rfl,aC,bJ,cf,show decide (aS (0+1)<((0+1:Nat):Int))=bd by decide +kernel];rfl
def zp0(c:List zx)(hs:c.length<=9223372036854775807)(L:Nat->Int->Option (Bool⊕Unit))(hL:∀K q,L (K+1) q=(bif (decide (q<((bf c:Nat):Int)))then(idx c q).bind λx1=>aN (idx c q) λx2=>(bif (!(decide (x1.X=x2.X)&&(decide (x1.Y=x2.Y))))then bc (bp bd)else L K (aS (q+1)))else bc (br ()))):L KK 0=bc (br ()):=by
 have:=Qh c (λ_=>bg) (bc (br ())) (bc (bp bd)) L hs (λK i x hx=>by
  rw[hL,kG hx,aH,zW hx,aC,aC,dt rfl,dt rfl,yw (by have:=qi hx;omega)]
  rfl) (λK=>by rw[hL,xQ];rfl)
 rw[this,show c.all (λ_=>bg)=bg from bj.2 λ_ _=>rfl];rfl
def T0{α β:Type}{o:Option α}{a:α}{f:α->Option β}(h:o=bc a):o.bind f=f a:=by rw[h];rfl
def zZr{e:zN}(h:nM e):HW e e=bc bg:=by
 obtain⟨k,n,y,m,r,b,c⟩:=e;obtain⟨h1,h2,h3⟩:=h;dsimp only at h1 h2 h3;unfold HW;dsimp only;rw[Ax r,zT b];simp only[decide_true,bJ,cf,aC];refine(T0 (zp0 c ab _ (λK q=>rfl))).trans ?_;obtain⟨_,⟨z1,_⟩,⟨x1,_⟩,t1⟩:=Jb h1
 show(VX _ _).bind _=_
 rw[aiI ab ab (Hf t1),aC,aH,zGh (Hf h2),aC,show pd (b=b)=bg from yV.2 rfl]
def zp1{l:List zN}(hs:l.length<=1000000)(h:∀e∈l,nM e):u7 l l=bc bg:=by
 unfold u7;rw[dt rfl,bJ,cf]
 have:=Qh l (λ_=>bg) (bc (br ())) (bc (bp bd)) (vV l l) ab (λK i x hx=>by
  rw[vV,kG hx,aH,zW hx,aC,aC,zZr (h x (bG hx)),aC,yw (by have:=qi hx;omega)]
  rfl) (λK=>by rw[vV,xQ];rfl)
 rw[this,show l.all (λ_=>bg)=bg from bj.2 λ_ _=>rfl];rfl
def Cr:zN:=⟨0,[],[],0,kD,jc,[]⟩
def fz(x:Int×zN):=(x.1,fe x.2)
def t_(k:Int)(n:Nat)(sign:Int)(l:List ar):Int×zN:=
 if l.length=n+3/\(l.getD (n+1) default).aM=1 then
  if((l.take (n+1)).drop 1).all (λt=>decide (t.aM=0)&&zw t.Text)then
   if k=1/\(aS (sign*(l.getD (n+1) default).N)<1∨aS (sign*(l.getD (n+1) default).N)>1073741824)then(3,Cr)
   else(0,⟨k,(l.getD 1 default).Text,if k=3 then(l.getD 2 default).Text else[],aS (sign*(l.getD (n+1) default).N),kD,jc,[]⟩)
  else(14,Cr)
 else(14,Cr)
def Be(l:List ar):Int×zN:=
 if(eP l).Text=jm then t_ 1 1 1 l
 else if(eP l).Text=vk then(if 3<l.length/\(l.getD 3 default).Text=yX then t_ 3 2 (-1) (l.take 3++l.drop 4)else t_ 3 2 1 l)
 else if(eP l).Text=yh then t_ 5 1 1 l
 else(14,Cr)
def zZs{c0:List ar}{c1 c2 c3:Int}(l:List ar)(hs:l.length<=1000000):xM c0 c1 c2 c3 l ((l.length:Nat):Int) [] [] bd [] [] KK (0,0,0,0,0,0,0,0,0,0,0,0,0,0,0,0,0,0)=bif l.all (λt=>decide (t.aM=0)&&zw t.Text)then bc (br (0,0,0,0,0,0,0,0,0,0,0,0,0,0,0,0,0))else bc (bp (fz (14,Cr))):=
 Qh l (λt=>decide (t.aM=0)&&zw t.Text) _ _ (λK i=>xM c0 c1 c2 c3 l ((l.length:Nat):Int) [] [] bd [] [] K (i,0,0,0,0,0,0,0,0,0,0,0,0,0,0,0,0,0)) ab (λK i x hx=>by
  have hi:=qi hx
  show xM c0 c1 c2 c3 l ((l.length:Nat):Int) [] [] bd [] [] (K+1) _=_
  rw[xM,kG hx,aH,zW hx,aC];by_cases hk:x.aM=0
  .rw[dt hk,yl (bP _)];simp only[bJ,cf,aC,cb];cases zw x.Text
   .rfl
   .simp only[bJ,cf,aH];rw[yw ab]
  .rw[df hk];rfl) (λK=>by
  show xM c0 c1 c2 c3 l ((l.length:Nat):Int) [] [] bd [] [] (K+1) _=_
  rw[xM,xQ];rfl)
def Pd{k:Int}{n:Nat}{sign:Int}{l:List ar}(hn:1<=n/\n<=2)(h3:k=3->n=2)(hs:l.length<=1000000):
  (aN ((bif (!(decide (((bf l:Nat):Int)=(aS ((n:Int)+3)))))then bc bg else(idx l (aS ((n:Int)+1))).bind λx8=>bc (!(decide (x8.aM=1))))) λx7=>(bif x7 then bc (fz (14,Cr))else(cut l 1 (aS ((n:Int)+1))).bind λx9=>(xM l k (n:Int) sign x9 ((bf x9:Nat):Int) ([]:ak) [] bd [] [] KK (0,0,0,0,0,0,0,0,0,0,0,0,0,0,0,0,0,0)).bind (xo bc λgw=>aN (idx l 1) λgK=>aN (idx l (aS ((n:Int)+1))) λiZ=>aN ((bif (decide (k=3))then(idx l 2).bind λlP=>bc lP.Text else bc ([]:ak))) λkO=>aN ((bif (decide (k=1))then(bif (decide ((aS (sign*iZ.N))<1))then bc bg else bc (decide ((aS (sign*iZ.N))>1073741824)))else bc bd)) λlx=>(bif lx then bc (fz (3,Cr))else bc (fz (0,⟨k,gK.Text,kO,aS (sign*iZ.N),kD,jc,[]⟩))))))=bc (fz (t_ k n sign l)):=by
 rw[yv (n:=(n:Int)+3) ab ab,yv (n:=(n:Int)+1) ab ab,show((n:Int)+1)=((n+1:Nat):Int) by omega];unfold t_;by_cases hl:l.length=n+3
 .rw[dt (show((bf l:Nat):Int)=(n:Int)+3 by omega),bJ,cf,EL (show n+1<l.length by omega)];simp only[aC];by_cases hk:(l.getD (n+1) default).aM=1
  .have hc:cut l 1 ((n+1:Nat):Int)=bc ((l.take (n+1)).drop 1):=Mb (a:=1) ab ab;have h1:idx l 1=bc (l.getD 1 default):=EL (i:=1) ab;rw[aP ⟨hl,hk⟩,dt hk,bJ,cf,hc];simp only[aC];rw[zZs _ (by simp;omega)]
   cases ha:((l.take (n+1)).drop 1).all (λt=>decide (t.aM=0)&&zw t.Text)with
   |false=>rfl
   |true =>
    simp only[aH,aC,xo,if_true]
    have e2:(bif decide (k=3)then(idx l 2).bind λlP=>bc lP.Text else bc ([]:ak))=bc (if k=3 then(l.getD 2 default).Text else[]):=by
     by_cases sE:k=3
     .have:=h3 sE;rw[dt sE,aP sE,aH,show idx l 2=bc (l.getD 2 default) from EL (i:=2) ab];rfl
     .rw[df sE,aO sE,cf]
    have e3:∀N:Int,(bif decide (k=1)then(bif decide (N<1)then bc bg else bc (decide (N>1073741824)))else bc bd)=bc (decide (k=1/\(N<1∨N>1073741824))):=λN=>by
     by_cases h1:k=1
     .by_cases h2:N<1
      .rw[dt (show k=1 from h1),dt (show N<1 from h2),dt (show k=1/\(N<1∨N>1073741824) from⟨h1,.inl h2⟩)];rfl
      .rw[dt (show k=1 from h1),df (show ¬N<1 from h2),aH,cf];exact aQ bc (yI ⟨λh=>⟨h1,.inr h⟩,λh=>h.2.resolve_left h2⟩)
     .rw[df (show ¬k=1 from h1),cf,df (show ¬(k=1/\(N<1∨N>1073741824)) from λh=>h1 h.1)]
    simp only[aC,h1,e2,e3];by_cases hb:k=1/\(aS (sign*(l.getD (n+1) default).N)<1∨aS (sign*(l.getD (n+1) default).N)>1073741824)
    .rw[aP hb,dt hb];rfl
    .rw[aO hb,df hb];rfl
  .rw[aO (λh=>hk h.2),df hk];rfl
 .rw[aO (λh=>hl h.1),df (show ¬((bf l:Nat):Int)=(n:Int)+3 by omega)];rfl
def zS0:oV yh (5:Int) (oV vk 3 (oV jm 1 ([]:List (ak×Int))))=[(jm,1),(vk,3),(yh,5)]:=ah
def zGj{l:List ar}(h0:l≠[])(hs:l.length<=1000000):On l=bc (fz (Be l)):=by
 unfold On;rw[zS0]
 have e0:idx l 0=bc (eP l):=by
  cases l with
  |nil=>exact aU rfl h0
  |cons t l=>exact zW (i:=0) rfl
 simp only[e0,aC];unfold Be;by_cases h1:(eP l).Text=jm
 .rw[aP h1,h1,show xh jm [(jm,(1:Int)),(vk,3),(yh,5)]=bc 1 from rfl];exact Pd (k:=1) (n:=1) (sign:=1) ab ab hs
 rw[aO h1];by_cases h2:(eP l).Text=vk
 .rw[aP h2,h2,show xh vk [(jm,(1:Int)),(vk,3),(yh,5)]=bc 3 from rfl];simp only[Option.isSome_some,bJ,cf,Option.getD_some,decide_true,aH]
  have e1:(bif decide (((bf l:Nat):Int)>3)then(idx l 3).bind λx4=>bc (decide (x4.Text=yX))else bc bd)=bc (decide (3<l.length/\(l.getD 3 default).Text=yX)):=by
   by_cases h3:3<l.length
   .rw[dt (show((bf l:Nat):Int)>3 by omega),aH,show idx l 3=bc (l.getD 3 default) from EL (i:=3) h3,aC];exact aQ bc (yI ⟨λh=>⟨h3,h⟩,λh=>h.2⟩)
   .rw[df (show ¬((bf l:Nat):Int)>3 by omega),cf,df (λh=>h3 h.1)]
  rw[e1,aC];by_cases h3:3<l.length/\(l.getD 3 default).Text=yX
  .rw[aP h3,dt h3,aH];unfold AK W3 WZ;rw[cl,zt ab,aC,aC,zt ⟨rfl,rfl,ab⟩];exact Pd (k:=3) (n:=2) (sign:=-1) ab ab (by simp;omega)
  .rw[aO h3,df h3,cf];exact Pd (k:=3) (n:=2) (sign:=1) ab ab hs
 rw[aO h2];by_cases h3:(eP l).Text=yh
 .rw[aP h3,h3,show xh yh [(jm,(1:Int)),(vk,3),(yh,5)]=bc 5 from rfl];exact Pd (k:=5) (n:=1) (sign:=1) ab ab hs
 rw[aO h3]
 have:xh (eP l).Text [(jm,(1:Int)),(vk,3),(yh,5)]=bh:=by simp only[xh,aO h1,aO h2,aO h3]
 rw[this];rfl
def zLk{s t:ak}{k v:Int}(h:pC s=.ok (k,t,v)):mh (k,t,v):=by
 cases s with
 |nil=>cases h
 |cons c r =>
  rw[yJ]at h;unfold mh;dsimp only;by_cases hl:vc c=bg
  .rw[aP hl]at h;split at h
   .rename_i hn;obtain⟨rfl,h2⟩:=Prod.mk.inj (Except.ok.inj h);obtain⟨rfl,rfl⟩:=Prod.mk.inj h2;have e:(c::r).takeWhile yO=c::r.takeWhile yO:=takeWhile_cons (by rw[yO,hl];rfl);have ha:=Wh (Xg yO (c::r));rw[e]at ha hn ⊢;rw[yJ,aP hl,ha,aP hn]
   .cases h
  .rw[aO hl]at h;by_cases hd:ye c=bg
   .rw[aP hd]at h
    cases hv:Bk ((c::r).takeWhile ye)with
    |none=>rw[hv]at h;cases h
    |some n =>
     rw[hv]at h;obtain⟨rfl,h2⟩:=Prod.mk.inj (Except.ok.inj h);obtain⟨rfl,rfl⟩:=Prod.mk.inj h2;have e:(c::r).takeWhile ye=c::r.takeWhile ye:=takeWhile_cons hd;have ha:=Wh (Xg ye (c::r));rw[e]at ha hv ⊢;rw[yJ,aO hl,aP hd,ha,hv]
   .rw[aO hd]at h
    cases hs:u1 (c::r)with
    |none=>rw[hs]at h;cases h
    |some x =>
     rw[hs]at h;obtain⟨rfl,h2⟩:=Prod.mk.inj (Except.ok.inj h);obtain⟨rfl,rfl⟩:=Prod.mk.inj h2;rw[Am]at hs;split at hs
     .rename_i hh;cases hs;rw[yJ,aO hl,aO hd,Am,aP ⟨rfl,hh.2⟩]
     .split at hs
      .rename_i hh;cases hs;rw[yJ,aO hl,aO hd,Am,aO (λh=>by cases h.1),aP hh]
      .cases hs
def zwe:∀(n p:Nat)(s:ak)(l:List ar),s.length<n->Hi n p s=.ok l->∃b q,l=b++[xq q]/\ph (b.map t3)/\(sq (b.map t3)).length<=2*s.length
 |0,_,_,_,hn,_=>aU hn (eA _)
 |n+1,p,s,l,hn,h=>by
  rw[Hi]at h
  cases hd:s.dropWhile zy with
  |nil =>
   rw[hd]at h;cases h;exact⟨[],_,rfl,AP,by simp[sq]⟩
  |cons c r =>
   rw[hd]at h;dsimp only at h
   cases ht:pC (c::r)with
   |error e=>rw[ht]at h;cases h
   |ok x =>
    obtain⟨k,t,v⟩:=x;rw[ht]at h;dsimp only at h;split at h
    .cases h
    .rename_i l2 n9;cases h;have fZ:=X8 hd ht hn;obtain⟨b,q,rfl,h1,h2⟩:=zwe n _ _ l2 fZ n9
     have h4:(c::r).length<=s.length:=by rw[<- hd];exact(List.dropWhile_sublist _).length_le
     obtain⟨t1,_,alq⟩:=Yy ht;have:0<t.length:=db.2 t1;refine⟨_::b,q,rfl,xa (zLk ht) h1,?_⟩;rw[gf];have hv:=QH (t3 (ar.mk k t v ((p+yA zy s:Nat):Int))) (b.map t3);unfold V at hv;rw[hv];rw[bU]at h2
     show t.length+1+_<=_
     omega
def zwf:∀(k n:Nat),n<10 ^ (k+1)->(Lib.decDigits n).length<=k+1
 |k,n,h=>by
  rw[Lib.decDigits];split
  .simp
  .cases k with
   |zero=>omega
   |succ k =>
    have:=zwf k (n / 10) (by rw[fC]at h;omega);rw[la,lc,bN];omega
def zGk:∀(r:ak)(n:Nat),r.all ye=bg->Ke n r<(n+1)*10 ^ r.length
 |[],n,_=>by simp[Ke,V9]
 |c::r,n,h=>by
  rw[cv,bn]at h;have:=zGk r (10*n+rK c) h.2;rw[Qc,lc,fC]
  have hd:rK c<=9:=by have:=h.1;simp only[ye,bn,aW]at this;unfold rK;omega
  refine Nat.lt_of_lt_of_le this ?_;rw[Nat.mul_comm (10 ^ r.length) 10,<- Nat.mul_assoc];exact Nat.mul_le_mul_right _ ab
def zLl{s:ak}{v:Int}(h:mh (1,s,v)):(0<=v/\v<=1099511627776)/\(Lib.decDigits v.toNat).length<=s.length:=by
 unfold mh at h;dsimp only at h
 cases s with
 |nil=>cases h
 |cons c r =>
  rw[yJ]at h;split at h
  .split at h
   .have:=aQ (λy:T3=>y.1) (Except.ok.inj h);cases this
   .cases h
  .split at h
   .split at h
    .rename_i n hn;have e:=Except.ok.inj h;have e1:(c::r).takeWhile ye=c::r:=aQ (λy:T3=>y.2.1) e;have e2:(n:Int)=v:=aQ (λy:T3=>y.2.2) e;subst e2;rw[e1]at hn;unfold Bk at hn;split at hn
     .rename_i hh;cases hn;refine⟨⟨ab,ab⟩,?_⟩;rw[dD,lc];refine zwf _ _ ?_;have:=zGk (c::r) 0 hh.1;simpa using this
     .cases hn
    .cases h
   .split at h
    .have:=aQ (λy:T3=>y.1) (Except.ok.inj h);cases this
    .cases h
def zN3{t:ar}(h:mh (t3 t)):wq t=t.Text.length+1/\(t.aM=1->0<=t.N/\t.N<=1099511627776):=by
 unfold wq;by_cases hk:t.aM=1
 .have:mh (1,t.Text,t.N):=by rw[<- hk];exact h
  obtain⟨h1,h2⟩:=zLl this;rw[aP hk];exact⟨ab,λ_=>h1⟩
 .rw[aO hk];exact⟨ab,λh=>aU h hk⟩
def Uy:∀a b:List ar,W (a++b)=W a+W b
 |[],b=>by simp[W]
 |t::a,b=>by rw[bO,W,W,Uy a b];omega
def MS:∀{l:List ar},ph (l.map t3)->W l=V (l.map t3)
 |[],_=>rfl
 |t::l,h=>by rw[W,gf,QH,(zN3 (h _ al)).1,MS λx hx=>h x (gq _ hx)];rfl
def zZt{s:ak}{l:List ar}(h:tJ s=.ok l):∃b q,l=b++[xq q]/\ph (b.map t3)/\W b<=2*s.length:=by obtain⟨b,q,h1,h2,h3⟩:=zwe _ _ _ _ (cT _) h;exact⟨b,q,h1,h2,by rw[MS h2];exact h3⟩
-- lines
def four{l:List ar}(h:l.length=4):∃a b c d,l=[a,b,c,d]:=by
 match l,h with
 |[a,b,c,d],_=>exact⟨a,b,c,d,rfl⟩
def adf{l:List ar}(h:l.length=5):∃a b c d e,l=[a,b,c,d,e]:=by
 match l,h with
 |[a,b,c,d,e],_=>exact⟨a,b,c,d,e,rfl⟩
def PF{k:Int}{n:Nat}{sign:Int}{l:List ar}{e:zN}(h:t_ k n sign l=(0,e)):l.length=n+3/\(l.getD (n+1) default).aM=1/\((l.take (n+1)).drop 1).all (λt=>decide (t.aM=0)&&zw t.Text)=bg/\(k=1->1<=aS (sign*(l.getD (n+1) default).N)/\aS (sign*(l.getD (n+1) default).N)<=1073741824)/\e=⟨k,(l.getD 1 default).Text,if k=3 then(l.getD 2 default).Text else[],aS (sign*(l.getD (n+1) default).N),kD,jc,[]⟩:=by
 unfold t_ at h;split at h
 .rename_i h1;split at h
  .rename_i h2;split at h
   .cases aQ Prod.fst h
   .rename_i h3;exact⟨h1.1,h1.2,h2,λhk=>ab,(aQ Prod.snd h).symm⟩
  .cases aQ Prod.fst h
 .cases aQ Prod.fst h
def GU{t:ar}(h:(decide (t.aM=0)&&zw t.Text)=bg):zw t.Text=bg:=by rw[bn]at h;exact h.2
def akl{a:List ar}{t:ar}{e:zN}(ht:t.Text=[59])(tW:ph ((a++[t]).map t3))(h:Be (a++[t])=(0,e)):∃d,enc d=e/\w6 d (W (a++[t])):=by
 obtain⟨l,hl⟩:∃l,l=a++[t]:=⟨_,rfl⟩
 rw[<- hl]at tW h ⊢
 have hN:∀x∈l,x.aM=1->0<=x.N/\x.N<=1099511627776:=λx hx=>(zN3 (tW _ (cm hx))).2
 have hw2:2<=wq t:=by have:=vD t;rw[ht]at this;exact this
 have last:∀{p:List ar}{u:ar},l=p++[u]->u=t:=λ{p u} h=>by
  rw[hl]at h
  exact(dY h rfl).2 |> λe=>by cases e;rfl
 unfold Be at h;split at h
 .rename_i h1;obtain⟨h2,h3,h4,h5,rfl⟩:=PF h;obtain⟨x0,x1,x2,x3,rfl⟩:=four h2;obtain rfl:=last (p:=[x0,x1,x2]) rfl;simp only[iz,gN,cv,gh,eO]at h4;have h3:x2.aM=1:=h3;have hb:=hN x2 af h3;have h5:1<=aS (1*x2.N)/\aS (1*x2.N)<=1073741824:=h5 rfl
  have e1:aS (1*x2.N)=x2.N:=by rw[ig];exact yv ab ab
  rw[e1]at h5;refine⟨.fin x1.Text x2.N,by show(⟨1,x1.Text,[],x2.N,kD,jc,[]⟩:zN)=⟨1,x1.Text,[],aS (1*x2.N),kD,jc,[]⟩;rw[e1],⟨GU h4,h5⟩,bP _,?_⟩
  have w0:jm.length+1<=wq x0:=by rw[<- show x0.Text=jm from h1];exact vD _
  have w1:=vD x1;have w2:=Mg h3;rw[EN]
  show 3+1+V [aT x1.Text,vm x2.N]+2<=wq x0+(wq x1+(wq x2+(wq x3+0)))
  rw[Wn];have:jm.length=3:=rfl;omega
 .split at h
  .rename_i _ h1;split at h
   .rename_i h6;obtain⟨h2,h3,h4,h5,rfl⟩:=PF h
    have sA:l.length=6:=by rw[la,bX,bU]at h2;omega
    obtain⟨x0,y,rfl⟩:∃x0 y,l=x0::y:=by cases l with
     |nil=>cases sA
     |cons x y=>exact⟨x,y,rfl⟩
    obtain⟨x1,x2,x3,x4,x5,rfl⟩:=adf (l:=y) (by simpa using sA);obtain rfl:=last (p:=[x0,x1,x2,x3,x4]) rfl;have h3:x4.aM=1:=h3;have h4:((decide (x1.aM=0)&&zw x1.Text)&&((decide (x2.aM=0)&&zw x2.Text)&&bg))=bg:=h4;rw[eO,bn]at h4;have hb:=hN x4 af h3
    have e1:aS (-1*x4.N)=0-x4.N:=by rw[show -1*x4.N=0-x4.N by omega];exact yv ab ab
    refine⟨.row x1.Text ⟨x2.Text,0-x4.N⟩,by show(⟨3,x1.Text,x2.Text,0-x4.N,kD,jc,[]⟩:zN)=⟨3,x1.Text,x2.Text,aS (-1*x4.N),kD,jc,[]⟩;rw[e1],⟨GU h4.1,GU h4.2,by show -1099511627776<=0-x4.N;omega,by show 0-x4.N<=1099511627776;omega⟩,bP _,?_⟩
    have w0:vk.length+1<=wq x0:=by rw[<- show x0.Text=vk from h1];exact vD _
    have w1:=vD x1;have w2:=vD x2;have w4:=Mg h3
    have w3:yX.length+1<=wq x3:=by rw[<- show x3.Text=yX from h6.2];exact vD _
    rw[EN]
    show 3+1+V (aT x1.Text::aT x2.Text::tj (0-x4.N))+2<=wq x0+(wq x1+(wq x2+(wq x3+(wq x4+(wq x5+0)))))
    rw[Wn,Wn];have e2:vk.length=3:=rfl;have e3:yX.length=1:=rfl
    have e4:V (tj (0-x4.N))<=2+V [vm x4.N]:=by
     unfold tj;split
     .rw[Dl,show 0-(0-x4.N)=x4.N by omega];omega
     .rw[show 0-x4.N=x4.N by omega];omega
    omega
   .obtain⟨h2,h3,h4,h5,rfl⟩:=PF h;obtain⟨x0,x1,x2,x3,x4,rfl⟩:=adf h2;obtain rfl:=last (p:=[x0,x1,x2,x3]) rfl;have h3:x3.aM=1:=h3;have h4:((decide (x1.aM=0)&&zw x1.Text)&&((decide (x2.aM=0)&&zw x2.Text)&&bg))=bg:=h4;rw[eO,bn]at h4;have hb:=hN x3 af h3
    have e1:aS (1*x3.N)=x3.N:=by rw[ig];exact yv ab ab
    refine⟨.row x1.Text ⟨x2.Text,x3.N⟩,by show(⟨3,x1.Text,x2.Text,x3.N,kD,jc,[]⟩:zN)=⟨3,x1.Text,x2.Text,aS (1*x3.N),kD,jc,[]⟩;rw[e1],⟨GU h4.1,GU h4.2,by show -1099511627776<=x3.N;omega,hb.2⟩,bP _,?_⟩
    have w0:vk.length+1<=wq x0:=by rw[<- show x0.Text=vk from h1];exact vD _
    have w1:=vD x1;have w2:=vD x2;have w3:=Mg h3;rw[EN]
    show 3+1+V (aT x1.Text::aT x2.Text::tj x3.N)+2<=wq x0+(wq x1+(wq x2+(wq x3+(wq x4+0))))
    rw[Wn,Wn,show tj x3.N=[vm x3.N] from aO ab];have e2:vk.length=3:=rfl;omega
  .split at h
   .rename_i _ _ h1;obtain⟨h2,h3,h4,h5,rfl⟩:=PF h;obtain⟨x0,x1,x2,x3,rfl⟩:=four h2;obtain rfl:=last (p:=[x0,x1,x2]) rfl;simp only[iz,gN,cv,gh,eO]at h4;have h3:x2.aM=1:=h3;have hb:=hN x2 af h3
    have e1:aS (1*x2.N)=x2.N:=by rw[ig];exact yv ab ab
    refine⟨.q_ x1.Text x2.N,by show(⟨5,x1.Text,[],x2.N,kD,jc,[]⟩:zN)=⟨5,x1.Text,[],aS (1*x2.N),kD,jc,[]⟩;rw[e1],⟨GU h4,hb⟩,bP _,?_⟩
    have w0:yh.length+1<=wq x0:=by rw[<- show x0.Text=yh from h1];exact vD _
    have w1:=vD x1;have w2:=Mg h3;rw[EN]
    show 5+1+V [aT x1.Text,vm x2.N]+2<=wq x0+(wq x1+(wq x2+(wq x3+0)))
    rw[Wn];have:yh.length=5:=rfl;omega
   .cases aQ Prod.fst h
def YK{f:UInt8->Bool}:∀{l:ak}{m:Nat},(l.takeWhile f).length<m->(l.take m).takeWhile f=l.takeWhile f
 |[],m,_=>af
 |c::r,0,h=>aU h (eA _)
 |c::r,m+1,h=>by
  rw[dR,fb,fb]
  cases hc:f c with
  |false=>rfl
  |true =>rw[fb,hc]at h;simp only[if_true,lc]at h ⊢;rw[YK ab]
def zwh{f:UInt8->Bool}{c:UInt8}{r:ak}:∀{s:ak},s.dropWhile f=c::r->f c=bd
 |[],h=>by cases h
 |a::s,h=>by
  rw[List.dropWhile_cons]at h
  cases ha:f a with
  |true=>rw[ha]at h;exact zwh h
  |false =>rw[ha]at h;cases h;exact ha
def zhx{f:UInt8->Bool}{s:ak}{j:Nat}(h:yA f s<j):yA f (s.take j)=yA f s/\(s.take j).dropWhile f=(s.dropWhile f).take (j-yA f s):=by
 have h1:yA f (s.take j)=yA f s:=by unfold yA at h ⊢;rw[YK h]
 refine⟨h1,?_⟩;rw[<- ju,<- ju,h1,eg]
def zS2{s t:ak}{k v:Int}{m:Nat}(h:pC s=.ok (k,t,v))(hm:t.length<m):pC (s.take m)=.ok (k,t,v):=by
 cases s with
 |nil=>cases h
 |cons c r =>
  cases m with
  |zero=>exact aU hm (eA _)
  |succ m =>
   rw[yJ]at h;rw[dR,yJ,<- dR]
   have hw:∀f:UInt8->Bool,(c::r).takeWhile f=t->((c::r).take (m+1)).takeWhile f=(c::r).takeWhile f:=λf e=>YK (by rw[e];exact hm)
   split at h
   .rename_i hc;rw[aP hc];split at h
    .rename_i hl;cases h;rw[hw _ rfl,aP hl]
    .cases h
   .rename_i hc;rw[aO hc];split at h
    .rename_i hd;rw[aP hd];split at h
     .rename_i hn;cases h;rw[hw _ rfl,hn]
     .cases h
    .rename_i hd;rw[aO hd];split at h
     .rename_i hs;cases h
      have h1:0<m:=by
       rw[Am]at hs;split at hs
       .cases hs;simp only[lc,bN]at hm;omega
       .split at hs
        .cases hs;simp only[lc,bN]at hm;omega
        .cases hs
      have:u1 (c::r.take m)=u1 (c::r):=by
       rw[Am,Am]
       cases r with
       |nil=>rw[List.take_nil]
       |cons d r=>obtain⟨m,rfl⟩:∃k,m=k+1:=⟨m-1,ab⟩;rfl
      rw[dR,this,hs]
     .cases h
def ZG(t:ar):Prop:=t.aM=2/\t.Text=[59]
def zwi:∀(n p:Nat)(s:ak)(a b:List ar)(t:ar),Hi n p s=.ok (a++t::b)->ZG t->∃j:Nat,0<j/\t.Pos+1=((p+j:Nat):Int)/\j<=s.length/\∀m,j<m->Hi m p (s.take j)=.ok (a++[t,xq (p+j)])
 |0,p,s,a,b,t,h,hk=>by
  cases a with
  |nil=>cases h;exact aU hk.1 (show ¬(3:Int)=2 by decide)
  |cons x a=>cases a<;>cases h
 |n+1,p,s,a,b,t,h,hk=>by
  rw[Hi]at h;split at h
  .cases a with
   |nil=>cases h;exact aU hk.1 (show ¬(3:Int)=2 by decide)
   |cons x a=>cases a<;>cases h
  .rename_i c r hd;have CT:=qU zy s;have RS:=aQ bf (ju zy s);rw[hd,bU,lc]at RS;split at h
   .cases h
   .rename_i k tx v ht;obtain⟨t1,t2,t3⟩:=Yy ht;split at h
    .cases h
    .rename_i l hl
     cases a with
     |nil =>
      simp only[cl,Except.ok.injEq,List.cons.injEq]at h;obtain⟨rfl,rfl⟩:=h;obtain⟨mv,l8⟩:=hk;have mv:k=2:=mv;have l8:tx=[59]:=l8;subst mv;subst l8;refine⟨yA zy s+1,ab,by simp only;omega,ab,λm hm=>?_⟩
      obtain⟨m,rfl⟩:∃q,m=q+1:=⟨m-1,ab⟩
      obtain⟨e1,e2⟩:=zhx (f:=zy) (s:=s) (j:=yA zy s+1) ab;have e3:(c::r).take 1=[59]:=t2.symm
      have e4:pC [59]=.ok (2,[59],v):=by
       have h0:v=0:=by
        have:c=59:=by simpa using e3
        subst this;rw[yJ]at ht;simp only[show vc 59=bd from rfl,show ye 59=bd from rfl,cr,if_false]at ht;split at ht
        .cases ht;rfl
        .cases ht
       rw[h0];rfl
      rw[Hi,e1,e2,hd,show yA zy s+1-yA zy s=1 by omega,e3];simp only[e4]
      have e5:Hi m (p+yA zy s+([59]:ak).length) (([59]:ak).drop ([59]:ak).length)=.ok [xq (p+(yA zy s+1))]:=by
       cases m with
       |zero=>rfl
       |succ m=>rfl
      rw[e5];rfl
     |cons x a =>
      simp only[bO,Except.ok.injEq,List.cons.injEq]at h;obtain⟨rfl,rfl⟩:=h;obtain⟨j,j0,j1,j2,j3⟩:=zwi n _ _ a b t hl hk;rw[bU,lc]at j2;have t4:0<tx.length:=db.2 t1;refine⟨yA zy s+tx.length+j,ab,by rw[j1];congr 1;omega,ab,λm hm=>?_⟩
      obtain⟨m,rfl⟩:∃q,m=q+1:=⟨m-1,ab⟩
      obtain⟨e1,e2⟩:=zhx (f:=zy) (s:=s) (j:=yA zy s+tx.length+j) ab;rw[Hi,e1,e2,hd,show yA zy s+tx.length+j-yA zy s=tx.length+j by omega];have e3:=zS2 (m:=tx.length+j) ht ab
      obtain⟨q,hq⟩:∃q,(c::r).take (tx.length+j)=c::q:=⟨r.take (tx.length+j-1),by rw[show tx.length+j=tx.length+j-1+1 by omega,dR];rfl⟩
      rw[hq]at e3 ⊢;simp only[e3];rw[<- hq,eg,show tx.length+j-tx.length=j by omega,j3 m ab];simp only[bO,Except.ok.injEq,List.cons.injEq,true_and];rw[show p+yA zy s+tx.length+j=p+(yA zy s+tx.length+j) by omega]
def Xc:∀(n p:Nat)(s:ak)(x:List ar)(t:ar)(b:List ar),Hi n p s=.ok (x++t::b)->t.aM≠3->∃(i m:Nat),t.Pos=((p+i:Nat):Int)/\i<s.length/\Hi m (p+i) (s.drop i)=.ok (t::b)
 |0,p,s,x,t,b,h,hk=>by
  cases x with
  |nil=>cases h;exact aU rfl hk
  |cons y x=>cases x<;>cases h
 |n+1,p,s,x,t,b,h,hk=>by
  have h0:=h;rw[Hi]at h;split at h
  .cases x with
   |nil=>cases h;exact aU rfl hk
   |cons y x=>cases x<;>cases h
  .rename_i c r hd;have CT:=qU zy s;have RS:=aQ bf (ju zy s);rw[hd,bU,lc]at RS;split at h
   .cases h
   .rename_i k tx v ht;split at h
    .cases h
    .rename_i l hl
     cases x with
     |nil =>
      simp only[cl,Except.ok.injEq,List.cons.injEq]at h;obtain⟨rfl,rfl⟩:=h;refine⟨yA zy s,n+1,rfl,ab,?_⟩;rw[ju,hd,zoy (zwh hd),ht];simp only[hl]
     |cons y x =>
      simp only[bO,Except.ok.injEq,List.cons.injEq]at h;obtain⟨rfl,rfl⟩:=h;obtain⟨i,m,i1,i2,i3⟩:=Xc n _ _ x t b hl hk;rw[bU,lc]at i2;refine⟨yA zy s+tx.length+i,m,by rw[i1];congr 1;omega,ab,?_⟩;rw[<- i3,<- dz,<- dz,ju,hd,show p+yA zy s+tx.length+i=p+(yA zy s+tx.length+i) by omega]
def zwj:∀(n p q:Nat)(s:ak)(l:List ar),Hi n p s=.ok l->∃l',Hi n q s=.ok l'/\l'.map t3=l.map t3
 |0,p,q,s,l,h=>by cases h;exact⟨_,rfl,rfl⟩
 |n+1,p,q,s,l,h=>by
  rw[Hi]at h ⊢;split at h
  .cases h;exact⟨_,rfl,rfl⟩
  .rename_i c r hd;split at h
   .cases h
   .rename_i k tx v ht;split at h
    .cases h
    .rename_i l hl;cases h;obtain⟨l',g1,g2⟩:=zwj n _ (q+yA zy s+tx.length) _ _ hl;exact⟨_,by rw[g1],by simp only[gf,g2];rfl⟩
def zLm{s:ak}{x a b:List ar}{t0 t:ar}(h:tJ s=.ok (x++(a++t::b)))(h0:(a++[t]).head?=bc t0)(hk:∀y∈a,y.aM≠3)(hs:ZG t):
  ∃(i j:Nat)(l:List ar)(e:Nat),t0.Pos=(i:Int)/\t.Pos+1=(j:Int)/\i<=j/\j<=s.length/\tJ ((s.drop i).take (j-i))=.ok (l++[xq e])/\l.map t3=(a++[t]).map t3:=by
 have key:∃(i m:Nat),t0.Pos=(i:Int)/\i<s.length/\Hi m i (s.drop i)=.ok (a++t::b):=by
  cases a with
  |nil =>
   rw[show t0=t from(Option.some.inj h0).symm];obtain⟨i,m,h1,h2,h3⟩:=Xc _ _ _ x t b h (by rw[hs.1];decide);rw[cA]at h1 h3;exact⟨i,m,h1,h2,h3⟩
  |cons y a =>
   rw[show t0=y from(Option.some.inj h0).symm];obtain⟨i,m,h1,h2,h3⟩:=Xc _ _ _ x y (a++t::b) h (hk y al);rw[cA]at h1 h3;exact⟨i,m,h1,h2,h3⟩
 obtain⟨i,m,h1,h2,h3⟩:=key;obtain⟨j,j0,j1,j2,j3⟩:=zwi m i (s.drop i) a b t h3 hs;rw[bU]at j2;have afA:=j3 (((s.drop i).take j).length+1) (by rw[bX,bU];omega);obtain⟨l,g1,g2⟩:=zwj _ i 0 _ _ afA;obtain⟨b',hb,_⟩:=Xh _ _ _ _ (cT _) g1;refine⟨i,i+j,b',_,h1,j1,ab,ab,by rw[show i+j-i=j by omega,tJ,g1,hb],?_⟩;rw[hb]at g2
 have:(b'.map t3)++[t3 (xq (0+(iz j (gN i s)).length))]=(a++[t]).map t3++[t3 (xq (i+j))]:=by simpa using g2
 exact(dY this rfl).1
section
variable{α β:Type}{r:List ar}{x:Except EE (α×List ar)}{P:α->Nat->Prop}
def RQ.aft{v:α}{r2:List ar}(h:RQ r x P)(e:x=.ok (v,r2)):pe r r2:=by subst e;exact h.1
def ES(r:List ar)(x:Except EE (α×List ar)):Prop:=∀v r2,x=.ok (v,r2)->∃r1,pe r r1/\fK z8 r1=bg/\r2=r1.tail
def ES.aD{g:α->List ar->Except EE (β×List ar)}(h:RQ r x P)(hg:∀v r1,pe r r1->ES r1 (g v r1)):ES r (aD x g):=λu r2 e=>by obtain⟨v,r1,h1,h2⟩:=yf e;have a:=h.aft h1;obtain⟨r3,b1,b2,b3⟩:=hg v r1 a u r2 h2;exact⟨r3,a.trans b1,b2,b3⟩
def ES.ret{f:α->β}(h:ES r x):ES r (Go.Proofs.YtmjfiffpolkdeaaGreatDoor.aD x λv r=>.ok (f v,r)):=λu r2 e=>by obtain⟨v,r1,h1,h2⟩:=yf e;cases h2;exact h _ _ h1
def ES.ite{c:Prop}[Decidable c]{y:Except EE (α×List ar)}(h1:c->ES r x)(h2:¬c->ES r y):ES r (if c then x else y):=by
 split
 .exact h1 ‹_›
 .exact h2 ‹_›
def ES.aft{r1:List ar}(a:pe r r1)(h:ES r1 x):ES r x:=λv r2 e=>by obtain⟨r3,b1,b2,b3⟩:=h v r2 e;exact⟨r3,a.trans b1,b2,b3⟩
def XV(h:gm r):ES r (vd z8 r):=λv r2 e=>by
 unfold vd at e;split at e
 .rename_i hb;cases e;exact⟨r,.refl h,hb,rfl⟩
 .cases e
def PG{b:Bool}{k:Int}(h:gm r):ES r (se b k r):=λv r2 e=>by unfold se at e;obtain⟨_,r1,h1,e1⟩:=yf e;obtain⟨_,r3,h3,e2⟩:=yf e1;obtain⟨rfl,hb⟩:=LJ h1;obtain⟨rfl,_⟩:=LJ h3;cases e2;exact⟨_,.refl h,hb,rfl⟩
def zS3(h:gm r):ES r (Wf r):=.ite (λhb=>.aft (zE h (zo hb)).e (.aD (Ar (h.tail (zo hb))) λ_ _ a=>.aD (kC a.wf) λ_ _ a=>.aD (Ar a.wf) λ_ _ a=>.aD (kC a.wf) λ_ _ a=>.aD (Ar a.wf) λ_ _ a=>.aD (Ar a.wf) λ_ _ a=>(XV a.wf).ret))
 λ_=>.ite (λhb=>.aft (zE h (zo hb)).e (.aD (TX _ _ _ (h.tail (zo hb)) ae) λ_ _ a=>(XV a.wf).ret))
 λ_=>.ite (λhb=>.aft (zE h (zo hb)).e (.aD (Wt (h.tail (zo hb))) λ_ _ a=>.aD (Wt a.wf) λ_ _ a=>.aD (Ar a.wf) λ_ _ a=>(XV a.wf).ret))
 λ_=>.aD (Oa ae h) λ_ _ a=>(PG a.wf).ret
def zS4(h:gm r)(hk:(eP r).aM≠3):ES r (ZE r):=by
 have ht:=zE h hk
 refine .ite (λ_=>.aft ht.e ?_) λ_=>.ite (λ_=>.aft ht.e ?_) λ_=>.ite (λ_=>.aft ht.e ?_) λ_=>.aft ht.e ?_
 .exact ES.ret (.aD (qk ht.wf) λ_ _ a=>.aD (kC a.wf) λ_ _ a=>.aD (Oa ae a.wf) λ_ _ a=>(PG a.wf).ret)
 .exact ES.ret (.aD (qk ht.wf) λ_ _ a=>.aD (Ws _ _ _ a.wf) λ_ _ a=>(PG a.wf).ret)
 .exact ES.ret (.aD (qk ht.wf) λ_ _ a=>.aD (Ws _ _ _ a.wf) λ_ _ a=>(PG a.wf).ret)
 .exact ES.ret (.aD (qk ht.wf) λ_ _ a=>.aD (Oj a.wf) λ_ _ a=>.aD (Oj a.wf) λ_ _ a=>.aD (YH a.wf) λ_ _ a=>.aD (YH a.wf) λ_ _ a=>.aD (YH a.wf) λ_ _ a=>.aft (TN a.wf).1 (.aD (kC (TN a.wf).1.wf) λ_ _ a=>(zS3 a.wf).ret))
end
def zzf{c:ak}{l:List ar}{e:Nat}(hc:c.length<=8000)(hx:tJ c=.ok (l++[xq e]))(h0:l≠[])(hw:(eP (l++[xq e])).Text=yn∨(eP (l++[xq e])).Text=zO∨(eP (l++[xq e])).Text=zR∨(eP (l++[xq e])).Text=zu)
  (hs:∀a t b,l=a++t::b->t.Text=[59]->b=[]):
  gm (l++[xq e])/\(eP (l++[xq e])).aM≠3/\match ZE (l++[xq e])with
   |.ok (p,_)=>JW c=bc (0,0,[],0,p.aF,[],p.aB,p.aE,[],[])
   |.error x=>JW c=bc (x.1,x.2,[],0,[],[],[],[],[],[])/\x.2≠0:=by
 obtain⟨b,hb,hk⟩:=Xh _ _ _ _ (cT _) hx;obtain⟨rfl,_⟩:=dY hb rfl;have fS:St (l++[xq e]) (l++[xq e]):=(zEh hc hx).1;have Sm:=fS.wf
 have sE:(eP (l++[xq e])).aM≠3:=by
  cases l with
  |nil=>exact aU rfl h0
  |cons t l=>exact(hk t al).1
 refine⟨Sm,sE,?_⟩
 have hd:∀p r2,ZE (l++[xq e])=.ok (p,r2)->(eP r2).aM=3:=λp r2 h=>by
  obtain⟨r1,⟨⟨a,ha⟩,Ee,_⟩,h2,rfl⟩:=zS4 Sm sE p r2 h
  cases r1 with
  |nil=>exact Ee.elim
  |cons t r1 =>
   have ht:t.Text=[59]:=zvy h2;have hr:=Ee.tail (zo h2);have g_:=hr.ne
   obtain⟨ac4,u,rfl⟩:∃q u,r1=q++[u]:=⟨r1.dropLast,r1.getLast g_,(aa1 g_).symm⟩
   have e1:l++[xq e]=(a++t::ac4)++[u]:=by rw[ha];simp
   obtain⟨e2,e3⟩:=dY e1 rfl;have e4:=hs a t ac4 e2 ht;subst e4;cases e3;rfl
 have hq:=zYj (c:={ (BB.mk (l++[xq e]) 0 [] [] [] [] [] [] [] 0 [] [] [] [] [] [] bd)with i:=0,D:=[],Z:=[],R:=[],C:=[],H:=0,n0:=[],n2:=[],n3:=[],n4:=[],h:=bd }) fS sE hw hd (KK-2);have hr:=zGc Sm sE hw
 have h2:KK-2+2=KK:=by have:=Zf;omega
 rw[h2]at hq
 have h3:zZ (l++[xq e]) (l++[xq e])=0:=by unfold zZ;omega
 have h4:JW c=(er (Af (BB.mk (l++[xq e]) 0 [] [] [] [] [] [] [] 0 [] [] [] [] [] [] bd)) (λx3=>(bif (!(decide (x3.2.1=0)))then bc (x3.1,x3.2.1,[],0,([]:List Def),([]:List au),([]:List zM),([]:List zd),([]:List bD),([]:List av))else bc (0,0,([]:List zl),x3.2.2.2.1,x3.2.2.2.2.2.1,([]:List au),x3.2.2.2.2.2.2.1,x3.2.2.2.2.2.2.2.1,x3.2.2.2.2.2.2.2.2.1,([]:List av)))) (er (uD (BB.mk (l++[xq e]) 0 [] [] [] [] [] [] [] 0 [] [] [] [] [] [] bd)) (λx2=>(bif (!(decide (x2.2=0)))then bc (x2.1,x2.2,[],0,([]:List Def),([]:List au),([]:List zM),([]:List zd),([]:List bD),([]:List av))else bh)) bh)):=by unfold JW;rw[Uu hc,hx];rfl
 rw[h4];unfold Af uD W1 W2;dsimp only at hq ⊢;rw[h3]at hq
 cases n_:ZE (l++[xq e])with
 |error x =>
  rw[n_]at hq hr;obtain⟨q1,q2⟩:=hq;rw[q1,q2];refine⟨?_,hr⟩
  show(bif (!(decide (x.2=0)))then _ else _)=_
  rw[df hr];rfl
 |ok v =>
  obtain⟨p,r2⟩:=v;rw[n_]at hq hr;obtain⟨⟨⟨y1,ach,ak6,ak7,ak8,ak9,ak_,ak'⟩,q1,q2,q3⟩,_⟩:=hq;obtain⟨rfl,q4,q5,q6,q7,abZ⟩:=q3;obtain⟨_,k,⟨d,hp,_⟩,_⟩:=hr;dsimp only at q4 q5 q6 q7 abZ;subst q4 q5 q6 q7 abZ;rw[q1]
  have hz:p.aI=0/\p.aJ=[]:=by rcases hp with⟨x,_,rfl⟩|⟨x,_,rfl⟩|⟨x,_,rfl⟩<;>exact⟨rfl,rfl⟩
  show bc (0,0,[],p.aI,p.aF,[],p.aB,p.aE,p.aJ,[])=_
  rw[hz.1,hz.2]
def PH{k:Int}{n:Nat}{sign v:Int}{l:List ar}(h1:l.length=n+3)(h2:(l.getD (n+1) default).aM=1)(h3:((l.take (n+1)).drop 1).all (λt=>decide (t.aM=0)&&zw t.Text)=bg)(hv:aS (sign*(l.getD (n+1) default).N)=v)(h4:k=1->1<=v/\v<=1073741824):t_ k n sign l=(0,⟨k,(l.getD 1 default).Text,if k=3 then(l.getD 2 default).Text else[],v,kD,jc,[]⟩):=by unfold t_;rw[aP ⟨h1,h2⟩,aP h3,hv,aO λh=>by have:=h4 h.1;omega]
def zS5{d:Ed}(hd:d.ok)(hk:l6 d=jm∨l6 d=vk∨l6 d=yh){l:List ar}(hl:l.map t3=Vi d++[iw z8]):Be l=(0,enc d):=by
 have w1:∀v:Int,-1099511627776<=v->v<=1099511627776->aS (1*v)=v:=λv h1 h2=>by rw[ig];exact yv ab ab
 obtain⟨p0,abO,rfl,e0⟩:=map_cons hl
 cases d with
 |mA r=>exact aU hk (show ¬(yn=jm∨yn=vk∨yn=yh) by decide)
 |mS r=>exact aU hk (show ¬(zO=jm∨zO=vk∨zO=yh) by decide)
 |lA z=>exfalso;cases ho:z.mN<;>simp only[l6,ho,aH,cf]at hk<;>revert hk<;>decide
 |fin n v =>
  obtain⟨hn,h1⟩:=hd;obtain⟨p1,l1,rfl,e1⟩:=map_cons e0;obtain⟨p2,l2,rfl,e2⟩:=map_cons e1;obtain⟨p3,l3,rfl,e3⟩:=map_cons e2;obtain rfl:=map_nil e3;unfold Be;rw[aP (show(eP (tk (aT (l6 (.fin n v))) p0::tk (aT n) p1::tk (vm v) p2::[tk (iw z8) p3])).Text=jm from rfl)];exact PH (k:=1) (n:=1) (sign:=1) (v:=v) rfl rfl (show(zw n&&bg)=bg by rw[hn];rfl) (w1 v ab ab) (λ_=>h1)
 |q_ n v =>
  obtain⟨hn,h1⟩:=hd;obtain⟨p1,l1,rfl,e1⟩:=map_cons e0;obtain⟨p2,l2,rfl,e2⟩:=map_cons e1;obtain⟨p3,l3,rfl,e3⟩:=map_cons e2;obtain rfl:=map_nil e3;unfold Be
  show(if yh=jm then _ else if yh=vk then _ else if yh=yh then t_ 5 1 1 (tk (aT (l6 (.q_ n v))) p0::tk (aT n) p1::tk (vm v) p2::[tk (iw z8) p3])else _)=_
  rw[aO ae,aO ae,aP rfl];exact PH (k:=5) (n:=1) (sign:=1) (v:=v) rfl rfl (show(zw n&&bg)=bg by rw[hn];rfl) (w1 v ab ab) (λh=>ab)
 |row n x =>
  obtain⟨hn,l8,h1,h2⟩:=hd;obtain⟨k,v⟩:=x;dsimp only at l8 h1 h2;have e0:abO.map t3=aT n::aT k::(tj v++[iw z8]):=e0;obtain⟨p1,l1,rfl,e1⟩:=map_cons e0;obtain⟨p2,l2,rfl,e2⟩:=map_cons e1;unfold Be
  show(if vk=jm then _ else if vk=vk then(if 3<(tk (aT (l6 (.row n ⟨k,v⟩))) p0::tk (aT n) p1::tk (aT k) p2::l2).length/\((tk (aT (l6 (.row n ⟨k,v⟩))) p0::tk (aT n) p1::tk (aT k) p2::l2).getD 3 default).Text=yX then _ else _)else _)=_
  rw[aO ae,aP rfl]
  have ha:(zw n&&(zw k&&bg))=bg:=by rw[hn,l8];rfl
  by_cases hv:v<0
  .rw[show tj v=[iw yX,vm (0-v)] from aP hv]at e2;obtain⟨p3,l3,rfl,e3⟩:=map_cons e2;obtain⟨p4,l4,rfl,e4⟩:=map_cons e3;obtain⟨p5,l5,rfl,e5⟩:=map_cons e4;obtain rfl:=map_nil e5;rw[aP (by exact⟨af,rfl⟩)];exact PH (k:=3) (n:=2) (sign:=-1) (v:=v) rfl rfl ha (show aS (-1*(0-v))=v by rw[show -1*(0-v)=v by omega,yv ab ab]) (λh=>ab)
  .rw[show tj v=[vm v] from aO hv]at e2;obtain⟨p3,l3,rfl,e3⟩:=map_cons e2;obtain⟨p4,l4,rfl,e4⟩:=map_cons e3;obtain rfl:=map_nil e4;rw[aO (λh=>oS (n:=v.toNat) (s:=yX) rfl h.2)];exact PH (k:=3) (n:=2) (sign:=1) (v:=v) rfl rfl ha (w1 v h1 h2) (λh=>ab)
def F4(l:List ar):Prop:=(eP l).Text=yn∨(eP l).Text=zO∨(eP l).Text=zR∨(eP l).Text=zu
def PS(s:ak)(q:List ar)(f:Int)(e:zN):Prop:=
 q≠[]/\q.length<=1000000/\((F4 q/\(∃i j:Nat,(eP q).Pos=(i:Int)/\(q.getD (q.length-1) default).Pos+1=(j:Int)/\i<=j/\j<=s.length/\s.length<=1000000 /\
   ((f≠0/\e=Cr/\∃p,JW ((s.take j).drop i)=bc (p,f,[],0,[],[],[],[],[],[]))∨(f=0/\∃p d,DJ d p/\e=enc d/\JW ((s.take j).drop i)=bc (0,0,[],0,p.aF,[],p.aB,p.aE,[],[]))))) ∨
  (¬F4 q/\(f,e)=Be q))
def zS6(e:zN):zN.mk e.aM e.aL e.Key e.N (zd.mk e.zd.aL e.zd.aB e.zd.Except e.zd.gY e.zd.gW e.zd.hU e.zd.gZ e.zd.aM (Expr.mk e.zd.Test.Op e.zd.Test.N e.zd.Test.S e.zd.Test.Key e.zd.Test.aZ) (zj.mk e.zd.zj.lz e.zd.zj.ly e.zd.zj.ln e.zd.zj.Den) e.zd.Uses e.zd.gS e.zd.N) (Expr.mk e.Body.Op e.Body.N e.Body.S e.Body.Key e.Body.aZ) e.aA=e:=by rw[zT,zT]
def zS7{d:Ed}{p:xP}(h:DJ d p):Ag (xP.mk p.aF [] p.aB p.aE [] [] [] 0)=bc (fe (enc d)):=by
 rcases h with⟨x,rfl,rfl⟩|⟨x,rfl,rfl⟩|⟨x,rfl,rfl⟩
 .exact zpy
 .exact zwd
 .rw[zpz]
def zS8{s:ak}{ps:List (List ar)}{q:List ar}{f:Int}{e:zN}{i K:Nat}{acc:List zN}(hq:ps[i]?=bc q)(h:PS s q f e)(hl:ps.length<=100000)(ha:acc.length<=100000):
  xJ s ((ps.length:Nat):Int) ps (K+1) ((i:Int),acc)=if f=0 then xJ s ((ps.length:Nat):Int) ps K (((i+1:Nat):Int),acc++[e])else bc (.inl ([],f)):=by
 obtain⟨h0,h1,h⟩:=h;have hi:=qi hq
 have e0:idx q 0=bc (eP q):=by
  cases q with
  |nil=>exact aU rfl h0
  |cons t q=>exact zW (i:=0) rfl
 rw[xJ,kG hq,aH,zt ab,aC,dD,hq,aC];simp only[e0,aC]
 have e1:(bif (decide ((eP q).Text=yn))then bc (decide ((eP q).Text=yn))else(bif (decide ((eP q).Text=zO))then bc (decide ((eP q).Text=zO))else(bif (decide ((eP q).Text=zR))then bc (decide ((eP q).Text=zR))else bc (decide ((eP q).Text=zu)))))=bc (pd (F4 q)):=by
  unfold F4;by_cases a1:(eP q).Text=yn
  .rw[dt a1,yV.2 (.inl a1)];rfl
  by_cases a2:(eP q).Text=zO
  .rw[df a1,dt a2,yV.2 (.inr (.inl a2))];rfl
  by_cases a3:(eP q).Text=zR
  .rw[df a1,df a2,dt a3,yV.2 (.inr (.inr (.inl a3)))];rfl
  rw[df a1,df a2,df a3,cf,cf,cf];exact aQ bc (kE (by simp[a1,a2,a3]))
 rw[e1,aC];refine(T0 (a:=fz (f,e)) ?_).trans ?_
 .rcases h with⟨h4,a,j,p1,p2,p3,p4,p5,h⟩|⟨h4,hr⟩
  .rw[yV.2 h4,aH];have hq0:0<q.length:=db.2 h0
   have e2:aS (((bf q:Nat):Int)-1)=((q.length-1:Nat):Int):=by rw[yv ab ab];omega
   rw[e2,EL ab,aC,p1,p2,yv ab ab,Mb p3 p4,aC]
   rcases h with⟨hf,rfl,p,h⟩|⟨rfl,p,d,hp,rfl,h⟩
   .rw[h,aC,df hf];rfl
   .rw[h,aC]
    show(Ag (xP.mk p.aF [] p.aB p.aE [] [] [] 0)).bind _=_
    rw[zS7 hp,aC];rfl
  .rw[show pd (F4 q)=bd from(kE (b:=bd) ⟨(λh=>Bool.noConfusion h),(λh=>aU h h4)⟩).symm,cf,zGj h0 h1,aC,<- hr]
 .show(bif (!(decide (f=0)))then bc (bp ([],f))else(ea (bf (acc++[zN.mk e.aM e.aL e.Key e.N (zd.mk e.zd.aL e.zd.aB e.zd.Except e.zd.gY e.zd.gW e.zd.hU e.zd.gZ e.zd.aM (Expr.mk e.zd.Test.Op e.zd.Test.N e.zd.Test.S e.zd.Test.Key e.zd.Test.aZ) (zj.mk e.zd.zj.lz e.zd.zj.ly e.zd.zj.ln e.zd.zj.Den) e.zd.Uses e.zd.gS e.zd.N) (Expr.mk e.Body.Op e.Body.N e.Body.S e.Body.Key e.Body.aZ) e.aA])*376<=140737488355328)).bind λ_=>xJ s ((ps.length:Nat):Int) ps K (aS ((i:Int)+1),acc++[zN.mk e.aM e.aL e.Key e.N (zd.mk e.zd.aL e.zd.aB e.zd.Except e.zd.gY e.zd.gW e.zd.hU e.zd.gZ e.zd.aM (Expr.mk e.zd.Test.Op e.zd.Test.N e.zd.Test.S e.zd.Test.Key e.zd.Test.aZ) (zj.mk e.zd.zj.lz e.zd.zj.ly e.zd.zj.ln e.zd.zj.Den) e.zd.Uses e.zd.gS e.zd.N) (Expr.mk e.Body.Op e.Body.N e.Body.S e.Body.Key e.Body.aZ) e.aA]))=_
  by_cases hf:f=0
  .rw[aP hf,dt hf,zS6,bJ,cf,zt (by simp only[la,lc,bN];omega),aC,yw ab]
  .rw[aO hf,df hf];rfl
def tL(acc:List zN):List (Int×zN)->(List zN×Int)⊕List zN
 |[]=>.inr acc
 |x::r=>if x.1=0 then tL (acc++[x.2]) r else .inl ([],x.1)
def zN4{s:ak}{ps:List (List ar)}(hl:ps.length<=90000):∀(fs:List (Int×zN))(i K:Nat)(acc:List zN),i+fs.length=ps.length->fs.length<K->acc.length<=i->(∀j x,fs[j]?=bc x->∃q,ps[i+j]?=bc q/\PS s q x.1 x.2)->xJ s ((ps.length:Nat):Int) ps K ((i:Int),acc)=bc (tL acc fs)
 |[],i,K,acc,hi,hK,ha,_=>by
  obtain⟨K,rfl⟩:∃k,K=k+1:=⟨K-1,by simp at hK;omega⟩
  obtain rfl:i=ps.length:=by simpa using hi
  rw[xJ,xQ];rfl
 |x::r,i,K,acc,hi,hK,ha,h=>by
  obtain⟨K,rfl⟩:∃k,K=k+1:=⟨K-1,by simp at hK;omega⟩
  simp only[lc]at hi hK;obtain⟨q,hq,hp⟩:=h 0 x rfl;rw[dM]at hq;rw[zS8 hq hp ab ab];unfold tL;by_cases hf:x.1=0
  .rw[aP hf,aP hf]
   exact zN4 hl r (i+1) K _ ab ab (by simp;omega) λj y hj=>by obtain⟨q',g1,g2⟩:=h (j+1) y (by simpa using hj);exact⟨q',by rw[<- g1];congr 1;omega,g2⟩
  .rw[aO hf,aO hf]
instance(t:ar):Decidable (ZG t):=by unfold ZG;infer_instance
def xf(cur:List ar)(acc:List (List ar)):List ar->List (List ar)×List ar
 |[]=>(acc,cur)
 |t::r=>if ZG t then xf [] (acc++[cur++[t]]) r else xf (cur++[t]) acc r
def Kt:∀(r cur:List ar)(acc:List (List ar)),(xf cur acc r).1.flatten++(xf cur acc r).2=acc.flatten++cur++r/\(xf cur acc r).1.length<=acc.length+r.length
 |[],cur,acc=>by simp[xf]
 |t::r,cur,acc=>by
  rw[xf];split
  .obtain⟨h1,h2⟩:=Kt r [] (acc++[cur++[t]]);refine⟨by rw[h1];simp,?_⟩;simp only[la,lc,bN]at h2 ⊢;omega
  .obtain⟨h1,h2⟩:=Kt r (cur++[t]) acc;exact⟨by rw[h1];simp,by simp only[lc];omega⟩
def zZu(q:List ar):Prop:=∃a t,q=a++[t]/\ZG t/\∀x∈a,¬ZG x
def Vj:∀(r cur:List ar)(acc:List (List ar)),(∀x∈cur,¬ZG x)->(∀q∈acc,zZu q)->(∀q∈(xf cur acc r).1,zZu q)
 |[],cur,acc,_,h=>h
 |t::r,cur,acc,hc,h=>by
  rw[xf];split
  .rename_i ht
   refine Vj r [] _ (λx hx=>by cases hx) λq hq=>?_
   rcases bw.1 hq with hq|hq
   .exact h q hq
   .rw[bS]at hq;exact⟨cur,t,hq,ht,hc⟩
  .rename_i ht;refine Vj r _ acc (λx hx=>?_) h
   rcases bw.1 hx with hx|hx
   .exact hc x hx
   .rw[bS]at hx;exact hx▸ht
def T4{s:ak}{all:List ar}(hl:all.length<=90000):∀(r p cur:List ar)(acc:List (List ar))(K:Nat),all=p++cur++r->r.length<K->acc.length<=p.length+cur.length ->
  vw s all ((all.length:Nat):Int) K ((p.length:Int),((p.length+cur.length:Nat):Int),acc)=bc (((all.length-(xf cur acc r).2.length:Nat):Int),(xf cur acc r).1)
 |[],p,cur,acc,K,ha,hK,hc=>by
  obtain⟨K,rfl⟩:∃k,K=k+1:=⟨K-1,by simp at hK;omega⟩
  have hn:all.length=p.length+cur.length:=by rw[ha];simp
  rw[vw,xf];dsimp only;rw[df (by simp only[bN]at *;omega),cf];rw[hn,Nat.add_sub_cancel]
 |t::r,p,cur,acc,K,ha,hK,hc=>by
  obtain⟨K,rfl⟩:∃k,K=k+1:=⟨K-1,by simp at hK;omega⟩
  simp only[lc]at hK
  have hn:all.length=p.length+cur.length+(r.length+1):=by rw[ha];simp;omega
  have hi:idx all ((p.length+cur.length:Nat):Int)=bc t:=zW (by
   rw[ha,List.getElem?_append_right af]
   simp)
  have e1:aS (((p.length+cur.length:Nat):Int)+1)=((p.length+cur.length+1:Nat):Int):=by rw[yv ab ab];omega
  rw[vw,xf];dsimp only;rw[dt ab,aH,hi,aC];by_cases ht:ZG t
  .rw[aP ht,dt ht.1,dt (show t.Text=z8 from ht.2)]
   have Iq:cut all (p.length:Int) ((p.length+cur.length+1:Nat):Int)=bc (cur++[t]):=by
    rw[Mb ab ab,ha]
    congr 1
    rw[show p++cur++t::r=(p++(cur++[t]))++r by simp,show p.length+cur.length+1=(p++(cur++[t])).length by simp only[la,lc,bN];omega,List.take_left,List.drop_left]
   simp only[aH,aC,e1,Iq];rw[zt (by simp only[la,lc,bN];omega),aC,aC];have:=T4 (s:=s) hl r (p++cur++[t]) [] (acc++[cur++[t]]) K (by rw[ha];simp) ab (by simp;omega);simp only[la,lc,bN,dM,cA]at this;dsimp only;rw[e1];exact this
  .rw[aO ht]
   have e2:(bif decide (t.aM=2)then bc (((p.length+cur.length:Nat):Int),((p.length+cur.length:Nat):Int),decide (t.Text=z8))else bc (((p.length+cur.length:Nat):Int),((p.length+cur.length:Nat):Int),bd))=bc (((p.length+cur.length:Nat):Int),((p.length+cur.length:Nat):Int),bd):=by
    by_cases hk:t.aM=2
    .rw[dt hk,df (show ¬t.Text=z8 from λh=>ht ⟨hk,h⟩)];rfl
    .rw[df hk];rfl
   rw[e2];simp only[cf,aC];rw[e1];have:=T4 (s:=s) hl r p (cur++[t]) acc K (by rw[ha];simp) ab (by simp;omega);simp only[la,lc,bN,cA]at this;exact this
def GV:90001<=KK:=by have:=Zf;omega
def zwm{s:ak}{l:List ar}(hs:s.length<=8000)(hx:tJ s=.ok l){fs:List (Int×zN)}(hf:fs.length=(xf [] [] l).1.length)(hp:∀(j:Nat)(x:Int×zN),fs[j]?=bc x->∃q,(xf [] [] l).1[j]?=bc q/\PS s q x.1 x.2):
  wc s=bc (if 200<fs.length then([],6)else if(xf [] [] l).2.length≠1 then([],14)else match tL [] fs with|.inl x=>x|.inr es=>(es,0)):=by
 have fS:=(zEh hs hx).1
 have hl:l.length<=90000:=by have:=Xj _ _ _ _ (cT _) hx;omega
 have h1:=T4 (s:=s) hl l [] [] [] KK rfl (by have:=GV;omega) aq;have h2:vw s l ((l.length:Nat):Int) KK (0,0,[])=bc (((l.length-(xf [] [] l).2.length:Nat):Int),(xf [] [] l).1):=h1;obtain⟨q1,q2⟩:=Kt l [] [];simp only[bN,eY,cl,cA]at q1 q2;have q3:=aQ bf q1;rw[la]at q3;have fZ:=fS.lt;unfold wc;rw[Uu hs,hx,aC,show adz (.ok l)=(l,0,0) from rfl];dsimp only;rw[dt rfl,bJ,cf,h2,aC];dsimp only;rw[<- hf];by_cases h6:200<fs.length
 .rw[aP h6,dt (show((fs.length:Nat):Int)>200 by omega)];rfl
 rw[aO h6,df (show ¬((fs.length:Nat):Int)>200 by omega),cf,yv ab ab];by_cases h7:(xf [] [] l).2.length=1
 .rw[aO ab,dt (show((l.length-(xf [] [] l).2.length:Nat):Int)=((l.length:Nat):Int)-1 by omega),bJ,cf];have h8:=zN4 (s:=s) (ps:=(xf [] [] l).1) ab fs 0 KK [] ab (by have:=GV;omega) aq (λj x hj=>by rw[cA];exact hp j x hj);rw[<- hf]at h8;rw[show(((0:Nat):Int))=0 from rfl]at h8;rw[h8];cases tL [] fs<;>rfl
 .rw[aP h7,df (show ¬((l.length-(xf [] [] l).2.length:Nat):Int)=((l.length:Nat):Int)-1 by omega)];rfl
def ah1{α:Type}{l x a y b:List α}{t E:α}(h1:l=x++(a++t::y))(h2:l=b++[E])(ht:t≠E):∃y',b=x++(a++t::y'):=by
 rcases aba y with rfl|⟨y',u,rfl⟩
 .have:(x++a)++[t]=b++[E]:=by rw[<- h2,h1];simp
  exact aU (List.cons.inj (dY this rfl).2).1 ht
 .have:(x++(a++t::y'))++[u]=b++[E]:=by rw[<- h2,h1];simp
  exact⟨y',(dY this rfl).1.symm⟩
def zS9{d d':Ed}{p:xP}(h:DJ d p)(h':DJ d' p):d=d':=by
 rcases h with⟨x,rfl,rfl⟩|⟨x,rfl,rfl⟩|⟨x,rfl,rfl⟩<;>rcases h' with⟨y,rfl,h'⟩|⟨y,rfl,h'⟩|⟨y,rfl,h'⟩<;>simp_all
def zhy(d:Ed):(l6 d=yn∨l6 d=zO∨l6 d=zR∨l6 d=zu)/\(∃p,DJ d p)∨(l6 d=jm∨l6 d=vk∨l6 d=yh)/\¬(l6 d=yn∨l6 d=zO∨l6 d=zR∨l6 d=zu):=by
 cases d with
 |mA r=>exact .inl ⟨.inl rfl,_,.inl ⟨r,rfl,rfl⟩⟩
 |mS r=>exact .inl ⟨.inr (.inl rfl),_,.inr (.inl ⟨r,rfl,rfl⟩)⟩
 |lA z=>exact .inl ⟨by cases ho:z.mN<;>simp[l6,ho],_,.inr (.inr ⟨z,rfl,rfl⟩)⟩
 |fin _ _=>exact .inr ⟨.inl rfl,show ¬(jm=yn∨jm=zO∨jm=zR∨jm=zu) by decide⟩
 |row _ _=>exact .inr ⟨.inr (.inl rfl),show ¬(vk=yn∨vk=zO∨vk=zR∨vk=zu) by decide⟩
 |q_ _ _=>exact .inr ⟨.inr (.inr rfl),show ¬(yh=yn∨yh=zO∨yh=zR∨yh=zu) by decide⟩
def w6.mono{d:Ed}{k j:Nat}(h:w6 d k)(hk:k<=j):w6 d j:=⟨h.1,cR h.2.1 hk,cR h.2.2 hk⟩
def zLn{t:ar}(h:mh (t3 t))(ht:t.Text=[59]):t.aM=2:=by
 have:pC [59]=.ok (t3 t):=by have h2:pC (t3 t).2.1=.ok (t3 t):=h;rw[show(t3 t).2.1=[59] from ht]at h2;exact h2
 rw[show pC [59]=.ok (2,[59],0) from rfl]at this;exact(aQ (λy:T3=>y.1) (Except.ok.inj this)).symm
def zZv{l l':List ar}(h:l.map t3=l'.map t3)(h0:l≠[]):(eP l).Text=(eP l').Text:=by
 cases l with
 |nil=>exact aU rfl h0
 |cons t l=>cases l' with
  |nil=>cases h
  |cons u l'=>exact aQ (λx:T3=>x.2.1) (List.cons.inj h).1
def zp2{d:Ed}(hd:d.ok){l:List ar}{e:Nat}(h4:F4 (l++[xq e]))(hm:l.map t3=Vi d++[iw z8]):∃p,DJ d p/\ZE (l++[xq e])=.ok (p,[xq e]):=by
 obtain⟨p0,abO,rfl,e0⟩:=map_cons hm
 rcases zhy d with⟨_,p,hp⟩|⟨_,h5⟩
 .refine⟨p,hp,?_⟩;obtain⟨l1,l2,rfl,e1,e2⟩:=kB e0;obtain⟨p1,l3,rfl,e3⟩:=map_cons e2;obtain rfl:=map_nil e3;have h:=zF7 hd hp (q:=p0) (r:=tk (iw z8) p1::[xq e]) e1 (zF0 (r:=[xq e]) rfl);have e9:(tk (aT (l6 d)) p0::(l1++[tk (iw z8) p1]))++[xq e]=tk (aT (l6 d)) p0::(l1++(tk (iw z8) p1::[xq e])):=af;rw[e9,h,LO (show fK z8 (tk (iw z8) p1::[xq e])=bg from rfl)];rfl
 .exact aU h4 h5
def zGm{s:ak}{l:List ar}(hs:s.length<=8000)(hx:tJ s=.ok l){q:List ar}(hq:q∈(xf [] [] l).1):
  ∃x:Int×zN,PS s q x.1 x.2/\(x.1=0->∃d,enc d=x.2/\w6 d (W q))/\∀d:Ed,d.ok->q.map t3=Vi d++[iw z8]->x=(0,enc d):=by
 obtain⟨q1,q2⟩:=Kt l [] [];simp only[eY,cl]at q1;obtain⟨a,t,rfl,ht,ha⟩:=Vj l [] [] (λ_ h=>by cases h) (λ_ h=>by cases h) q hq;obtain⟨aei,aej,hP⟩:=List.append_of_mem hq
 have hl:l=aei.flatten++(a++t::(aej.flatten++(xf [] [] l).2)):=by
  conv=>lhs;rw[<- q1,hP]
  simp
 have hlen:=Xj _ _ _ _ (cT _) hx;obtain⟨b,E,hb,tW,hW⟩:=zZt hx;obtain⟨y',M4⟩:=ah1 hl hb (λh=>by rw[h]at ht;exact aU ht.1 (show ¬(3:Int)=2 by decide))
 have Mx:ph ((a++[t]).map t3):=λx hx=>by
  obtain⟨u,hu,rfl⟩:=bz.1 hx;refine tW _ (cm ?_);rw[M4];simp only[bw,bq,bS,cU,or_false]at hu ⊢
  rcases hu with hu|hu
  .exact .inr (.inl hu)
  .exact .inr (.inr (.inl hu))
 have g_:a++[t]≠[]:=af
 have Sg:(a++[t]).length<=1000000:=by have:=aQ bf hl;simp only[la,lc,bN]at this ⊢;omega
 by_cases h4:F4 (a++[t])
 .have hk:∀y∈a,y.aM≠3:=λy hy=>zNs (Mx _ (cm (List.mem_append_left _ hy)))
  have h0:(a++[t]).head?=bc (eP (a++[t])):=by cases a<;>rfl
  obtain⟨i,j,l',e,p1,p2,p3,p4,p5,p6⟩:=zLm (hl▸hx) h0 hk ht;have hc:(s.take j).drop i=(s.drop i).take (j-i):=eg
  have sF:l'≠[]:=λh=>by rw[h]at p6;simp at p6
  have hh:(eP (l'++[xq e])).Text=(eP (a++[t])).Text:=by
   rw[<- zZv p6 sF]
   cases l' with
   |nil=>exact aU rfl sF
   |cons u l'=>rfl
  have ah0:ph (l'.map t3):=by rw[p6];exact Mx
  have ng:F4 (l'++[xq e]):=by unfold F4 at h4 ⊢;rw[hh];exact h4
  obtain⟨r1,r2,r3⟩:=zzf (c:=(s.drop i).take (j-i)) (by rw[bX,bU];omega) p5 sF ng λa' t' b' e1 e2=>by
   have e3:=p6;rw[e1]at e3;obtain⟨m1,m2,m3,m4,m5⟩:=kB (l:=a++[t]) (a:=a'.map t3) (b:=(t'::b').map t3) (by rw[<- e3];simp)
   rcases aba b' with rfl|⟨b2,u,rfl⟩
   .rfl
   exfalso;obtain⟨p,Nh,rfl,m6⟩:=map_cons m5;have FJ:(tk (t3 t') p).Text=[59]:=e2;have l8:=zLn (t:=tk (t3 t') p) (Mx _ (by rw[m3];exact cm af)) FJ
   have m7:Nh≠[]:=λh=>by rw[h]at m6;simp at m6
   have hin:tk (t3 t') p∈a:=by
    obtain⟨m8,v,rfl⟩:∃m8 v,Nh=m8++[v]:=⟨Nh.dropLast,Nh.getLast m7,(aa1 m7).symm⟩
    have:a++[t]=(m1++tk (t3 t') p::m8)++[v]:=by rw[m3];simp
    rw[(dY this rfl).1];simp
   exact ha _ hin ⟨l8,FJ⟩
  have hq9:=zGc r1 r2 ng
  have hWl:W (l'++[xq e])=W (a++[t])+1:=by rw[Uy,MS ah0,p6,<- MS Mx];rfl
  have adN:((a++[t]).getD ((a++[t]).length-1) default)=t:=af
  cases hD:ZE (l'++[xq e])with
  |error z =>
   rw[hD]at r3;refine⟨(z.2,Cr),⟨g_,Sg,.inl ⟨h4,i,j,p1,by rw[adN];exact p2,p3,p4,ab,.inl ⟨r3.2,rfl,z.1,by rw[hc];exact r3.1⟩⟩⟩,λh=>aU h r3.2,λd hd hm=>?_⟩;exfalso;have:=zp2 hd (h4:=ng) (hm:=p6.trans hm);obtain⟨p,_,h9⟩:=this;rw[hD]at h9;cases h9
  |ok v =>
   obtain⟨p,rr⟩:=v;rw[hD]at r3 hq9;obtain⟨⟨_,w1,_⟩,k,⟨d,hp,hg⟩,w2⟩:=hq9
   have w3:1<=W rr:=by rw[TU w1];have:=vD (eP rr);omega
   refine⟨(0,enc d),⟨g_,Sg,.inl ⟨h4,i,j,p1,by rw[adN];exact p2,p3,p4,ab,.inr ⟨rfl,p,d,hp,rfl,by rw[hc];exact r3⟩⟩⟩,λ_=>⟨d,rfl,hg.mono ab⟩,λd' hd hm=>?_⟩;obtain⟨p',iT,h9⟩:=zp2 hd (h4:=ng) (hm:=p6.trans hm);rw[hD]at h9;cases h9;rw[zS9 hp iT]
 .refine⟨Be (a++[t]),⟨g_,Sg,.inr ⟨h4,rfl⟩⟩,λh=>?_,λd hd hm=>?_⟩
  .exact akl ht.2 Mx (Prod.ext h rfl)
  .rcases zhy d with⟨h5,_⟩|⟨h5,_⟩
   .refine aU ?_ h4;unfold F4;obtain⟨p,l1,e1,_⟩:=map_cons hm;rw[e1];exact h5
   .exact zS5 hd h5 hm
def zwn:∀(n p:Nat)(s:ak)(q:Nat)(e:Int),Hi n p s=.error (q,e)->e≠0
 |0,_,_,_,_,h=>by cases h
 |n+1,p,s,q,e,h=>by
  rw[Hi]at h;split at h
  .cases h
  .split at h
   .rename_i c r hd e' ht;cases h;exact zvg ht
   .split at h
    .rename_i hl;cases h;exact zwn n _ _ _ _ hl
    .cases h
def zhz:∀(fs:List (Int×zN))(acc:List zN),(∃m,tL acc fs=.inl ([],m)/\m≠0)∨(tL acc fs=.inr (acc++fs.map Prod.snd)/\∀x∈fs,x.1=0)
 |[],acc=>.inr ⟨by rw[tL];simp,λ_ h=>by cases h⟩
 |x::r,acc=>by
  rw[tL];by_cases h:x.1=0
  .rw[aP h]
   rcases zhz r (acc++[x.2])with h1|⟨h1,h2⟩
   .exact .inl h1
   .exact .inr ⟨by rw[h1];simp,λy hy=>by rcases bq.1 hy with rfl|hy;exact h;exact h2 y hy⟩
  .rw[aO h];exact .inl ⟨x.1,rfl,h⟩
def zp3{α β:Type}{P:α->β->Prop}:∀(l:List α),(∀a∈l,∃b,P a b)->∃m:List β,m.length=l.length/\∀(j:Nat)(b:β),m[j]?=bc b->∃a,l[j]?=bc a/\P a b
 |[],_=>⟨[],rfl,λj b h=>by simp at h⟩
 |a::l,h=>by
  obtain⟨b,hb⟩:=h a al
  obtain⟨m,h1,h2⟩:=zp3 l λx hx=>h x (gq _ hx)
  refine⟨b::m,by simp[h1],λj c hj=>?_⟩
  cases j with
  |zero=>cases hj;exact⟨a,rfl,hb⟩
  |succ j=>exact h2 j c hj
def Ku(ds:List Ed):ak:=ds.flatMap λd=>zK (mT d)
def J6(ds:List Ed)(k:Nat):Prop:=(∀d∈ds,d.ok/\EF d<=k)/\(Ku ds).length<=k
def J6.mono{ds:List Ed}{k j:Nat}(h:J6 ds k)(hk:k<=j):J6 ds j:=⟨λd hd=>⟨(h.1 d hd).1,cR (h.1 d hd).2 hk⟩,cR h.2 hk⟩
def zZw:∀(ps:List (List ar))(fs:List (Int×zN)),fs.length=ps.length->(∀(j:Nat)(x:Int×zN),fs[j]?=bc x->∃q,ps[j]?=bc q/\∃d,enc d=x.2/\w6 d (W q))->∃ds:List Ed,ds.map enc=fs.map Prod.snd/\J6 ds (W ps.flatten)
 |[],fs,h,_=>by
  obtain rfl:fs=[]:=List.eq_nil_of_length_eq_zero h;exact⟨[],rfl,λ_ h=>(cU h).elim,bP _⟩
 |q::ps,[],h,_=>by cases h
 |q::ps,x::fs,h,hp=>by
  obtain⟨q',h1,d,h2,h3⟩:=hp 0 x rfl;have h1:bc q=bc q':=h1;cases h1
  obtain⟨ds,h4,h5⟩:=zZw ps fs (Nat.succ.inj h) λj y hj=>hp (j+1) y hj
  have e:W (q::ps).flatten=W q+W ps.flatten:=by rw[List.flatten_cons,Uy]
  refine⟨d::ds,by rw[gf,gf,h2,h4],λu hu=>?_,?_⟩
  .rcases bq.1 hu with rfl|hu
   .exact⟨h3.1,by have:=h3.2.1;omega⟩
   .exact⟨(h5.1 u hu).1,by have:=(h5.1 u hu).2;omega⟩
  .have h6:=h5.2;have h7:=h3.2.2;rw[<- zZk h3.1]at h7;unfold Ku at h6 ⊢;rw[cN,la];omega
def zGo{s:ak}(hs:s.length<=8000):∃m f,wc s=bc (m,f)/\(f≠0->m=[])/\(f=0->∃ds:List Ed,m=ds.map enc/\J6 ds (2*s.length)/\ds.length<=200):=by
 cases hx:tJ s with
 |error e =>
  have he:e.2≠0:=zwn _ _ _ e.1 e.2 hx;refine⟨[],e.2,?_,λ_=>rfl,λh=>aU h he⟩;unfold wc;rw[Uu hs,hx,aC]
  show(bif (!(decide (e.2=0)))then _ else _)=_
  rw[df he];rfl
 |ok l =>
  obtain⟨fs,h1,h2⟩:=zp3 (xf [] [] l).1 λq hq=>zGm hs hx hq
  have hP:=zwm hs hx h1 λj x hj=>by obtain⟨q,g1,g2,_⟩:=h2 j x hj;exact⟨q,g1,g2⟩
  rw[hP];by_cases h6:200<fs.length
  .rw[aP h6];exact⟨[],6,rfl,λ_=>rfl,λh=>by cases h⟩
  rw[aO h6];by_cases h7:(xf [] [] l).2.length=1
  .rw[aO ab]
   rcases zhz fs []with⟨m,h3,h4⟩|⟨h3,h4⟩
   .rw[h3];exact⟨[],m,rfl,λ_=>rfl,λh=>aU h h4⟩
   .rw[h3];refine⟨_,0,rfl,λh=>aU rfl h,λ_=>?_⟩
    obtain⟨ds,h5,h8⟩:=zZw (xf [] [] l).1 fs h1 λj x hj=>by obtain⟨q,g1,_,g3,_⟩:=h2 j x hj;exact⟨q,g1,g3 (h4 x (bG hj))⟩
    refine⟨ds,by rw[h5];rfl,h8.mono ?_,?_⟩
    .obtain⟨b,E,rfl,_,hW⟩:=zZt hx;have q1:=(Kt (b++[xq E]) [] []).1;simp only[eY,cl]at q1;rw[(dY q1 h7).1];exact hW
    .have:=aQ bf h5;rw[bL,bL]at this;omega
  .rw[aP h7];exact⟨[],14,rfl,λ_=>rfl,λh=>by cases h⟩
-- a text that ends with a blank is lexed by itself
def LC(s:ak)(ts:List T3):Prop:=∀p r,∃l,l.map t3=ts/\Bm p (s++r)=Dj l (Bm (p+s.length) r)
def zZx:LC [] []:=λp r=>⟨[],rfl,by rw[zvo];rfl⟩
def akf{s:ak}{c:UInt8}{ts:List T3}(hc:zy c=bg)(h:LX s ts):LC (s++[c]) ts:=λp r=>by obtain⟨l,h1,h2⟩:=h p (c::r) (Pf hc);refine⟨l,h1,?_⟩;rw[gO,show[c]++r=c::r from rfl,h2,zhp hc,la,eD];rfl
def zZy{a b:ak}{ts us:List T3}(ha:LC a ts)(hb:LC b us):LC (a++b) (ts++us):=λp r=>by obtain⟨l,h1,h2⟩:=ha p (b++r);obtain⟨m,h3,h4⟩:=hb (p+a.length) r;refine⟨l++m,by rw[cG,h1,h3],?_⟩;rw[gO,h2,h4,zvn,la,eD]
def J7(d:Ed):List T3:=Vi d++[iw z8]
def zTa{d:Ed}(h:d.ok):LC (zK (mT d)) (J7 d):=by rw[zZj h,show([32,59,10]:ak)=[32,59]++[10] from rfl,<- gO];exact akf rfl (TG (akh (zZi h)) (zvp (c:=32) rfl (TF (t:=iw z8) rfl)) (Pf rfl))
def zwo:∀{ds:List Ed},(∀d∈ds,d.ok)->LC (Ku ds) (ds.flatMap J7)
 |[],_=>zZx
 |d::ds,h=>by unfold Ku;rw[cN,cN];exact zZy (zTa (h d al)) (zwo λx hx=>h x (gq _ hx))
-- no semicolon within a line
def rV(t:T3):Bool:=!(decide (t.1=2)&&decide (t.2.1=[59]))
def zZz{t:List T3}{a b:Int}(h:t.all rV=bg):(oW t a b).all rV=bg:=by
 unfold oW;split
 .rw[cv,fm,h];rfl
 .exact h
def akj(op:Int):rV (rW op)=bg:=by
 unfold rW pB
 repeat' split
 all_goals rfl
def XW:∀(d:Nat)(e:Expr),(yi d e).all rV=bg
 |0,_=>rfl
 |d+1,e=>by
  have ih:=XW d;rw[yi]
  repeat' split
  all_goals simp only[cv,fm,gh,ih,akj,zZz (ih _),eO,cb]
  all_goals rfl
def zZ0(l:List ak):(l.map aT).all rV=bg:=by rw[iY];exact bj.2 λ_ _=>rfl
def zLo(w:ak)(l:List ak):(uw w l).all rV=bg:=by
 unfold uw;cases l.isEmpty
 .rw[cf,cv,zZ0];rfl
 .rfl
def zTb(w:ak)(n:Int):(Ql w n).all rV=bg:=by unfold Ql;split<;>rfl
def zTc(d:Ed):(Vi d).all rV=bg:=by
 unfold Vi;rw[cv,show rV (aT (l6 d))=bg from rfl,cb]
 cases d with
 |mA r =>
  have e1:(BG r.gZ).all rV=bg:=by unfold BG;cases r.gZ<;>rfl
  have e2:(tl r.Uses).all rV=bg:=by
   unfold tl
   rw[iY];exact bj.2 λ_ _=>rfl
  have e3:(BH r).all rV=bg:=by
   unfold BH
   repeat' split
   .exact XW _ _
   .rfl
   .rfl
   .exact e2
  unfold BO Ob;simp only[cv,fm,zLo,zTb,e1,e3,eO,cb];rfl
 |fin n v=>rfl
 |mS x=>exact XW 12 x.Body
 |row n x =>
  show(aT n::aT x.aL::tj x.N).all rV=bg
  unfold tj;split<;>rfl
 |lA z =>
  unfold BO;rw[cv,List.all_flatMap]
  exact bj.2 λ_ _=>rfl
 |q_ n v=>rfl
def zwp:∀(a cur:List ar)(acc:List (List ar))(t:ar)(r:List ar),(∀x∈a,¬ZG x)->ZG t->xf cur acc (a++t::r)=xf [] (acc++[cur++(a++[t])]) r
 |[],cur,acc,t,r,_,ht=>by rw[cl,xf,aP ht];rfl
 |x::a,cur,acc,t,r,h,ht=>by rw[bO,xf,aO (h x al),zwp a _ _ _ _ (λy hy=>h y (gq _ hy)) ht];simp
def zej:∀(ds:List Ed)(l:List ar)(acc:List (List ar))(e:Nat),l.map t3=ds.flatMap J7->∃qs,xf [] acc (l++[xq e])=(acc++qs,[xq e])/\qs.map (cP t3)=ds.map J7
 |[],l,acc,e,h=>by
  obtain rfl:=map_nil h;exact⟨[],by rw[cl,xf,aO (show ¬ZG (xq e) from λh=>aU h.1 (show ¬(3:Int)=2 by decide)),xf];simp,rfl⟩
 |d::ds,l,acc,e,h=>by
  rw[cN]at h;obtain⟨l1,l2,rfl,h1,h2⟩:=kB h;obtain⟨a,m,rfl,h3,h4⟩:=kB h1;obtain⟨p,m',rfl,h5⟩:=map_cons h4;obtain rfl:=map_nil h5;obtain⟨qs,h6,h7⟩:=zej ds l2 (acc++[a++[tk (iw z8) p]]) e h2;refine⟨(a++[tk (iw z8) p])::qs,?_,?_⟩
  .rw[show a++[tk (iw z8) p]++l2++[xq e]=a++tk (iw z8) p::(l2++[xq e]) by simp,zwp _ _ _ _ _ (λx hx=>?_) ⟨rfl,rfl⟩,cl,h6]
   .simp
   .have:=bj.1 (zTc d) (t3 x) (h3▸cm hx);intro hs
    have e2:rV (t3 x)=bd:=by unfold rV;rw[dt (show(t3 x).1=2 from hs.1),dt (show(t3 x).2.1=[59] from hs.2)];rfl
    rw[e2]at this;cases this
  .rw[gf,gf,h7,cG,h3];rfl
def zGq:∀(ds:List Ed)(acc:List zN),tL acc (ds.map λd=>((0:Int),enc d))=.inr (acc++ds.map enc)
 |[],acc=>by simp[tL]
 |d::ds,acc=>by rw[gf,tL,aP rfl,zGq ds];simp
def zh0{ds:List Ed}(h:∀d∈ds,d.ok)(hl:ds.length<=200)(hs:(Ku ds).length<=8000):wc (Ku ds)=bc (ds.map enc,0):=by
 obtain⟨l,p,h1,h2⟩:=zYl (λp r _=>zwo h p r);obtain⟨qs,h3,h4⟩:=zej ds l [] p h1;rw[cl]at h3;have h5:=aQ bf h4;rw[bL,bL]at h5
 have hP:=zwm hs h2 (fs:=ds.map λd=>((0:Int),enc d)) (by rw[h3,bL];exact h5.symm) λj x hj=>by
  rw[h3];rw[cC]at hj;obtain⟨d,hd,rfl⟩:=cx.1 hj
  have e1:(qs.map (cP t3))[j]?=bc (J7 d):=by rw[h4,cC,hd];rfl
  rw[cC]at e1;obtain⟨q,hq,e2⟩:=cx.1 e1;obtain⟨x,g1,_,g3⟩:=zGm hs h2 (q:=q) (by rw[h3];exact bG hq);rw[g3 d (h d (bG hd)) e2]at g1;exact⟨q,hq,g1⟩
 rw[hP,bL,aO ab,h3,aO af,zGq];rfl
section code
variable{c1:Int}{c8:Int}{s:ak}
def ahs{c0:List Def}{c2:List au}{c3:List zM}{c4:List zd}{c5:List bD}{c6:List av}{c7:List zl}(hl:c0.length<=300)(hs:Vm s)(hn:∀x∈c0,zw x.aL=bg)(h:∀x∈c0,lU 12 x.Body=bg)(hq:∀x∈c0,wV x.Body<=5000)(hb:(s++c0.flatMap λx=>zK (tK x)).length<=140737488355328):
  vL c0 (bf c0:Nat) c2 c3 c4 c5 c6 c7 c8 KK (0,s)=bc (s++c0.flatMap λx=>zK (tK x))/\Vm (s++c0.flatMap λx=>zK (tK x)):=by
 refine vE c0 (λx=>zK (tK x)) (λK q s=>vL c0 (bf c0:Nat) c2 c3 c4 c5 c6 c7 c8 K (q,s)) 140737488355328 Vm ab hs hb (λK i x s hx hI hM=>?_) (λK s=>?_)
 .have hi:=qi hx;have hA:=zY8 (hn x (bG hx)) (h x (bG hx)) (hq x (bG hx))
  have e:zK (tK x)=Hj (.inr zO)++(e_ [.inr x.aL,.inr uy]++(e_ [.inr (zF 12 x.Body)]++[32,59,10])):=by
   show zK (.inr zO::([.inr x.aL,.inr uy]++[.inr (zF 12 x.Body)]))=_
   rw[jv,Jd,gO]
  simp only[e]at hM ⊢;have sW:=hM;simp only[la]at sW;obtain⟨p1,g1⟩:=Au (x:=.inr zO) (l:=[.inr x.aL,.inr uy]) hI (λy hy=>(hA y (by simp only[tK,bq,cU,or_false]at hy ⊢;rcases hy with h|h|h<;>simp[h])).1) af (by simp only[la];omega);obtain⟨p2,g2⟩:=zpl g1 (h x (bG hx)) (by simp only[la];omega)
  show vL _ _ _ _ _ _ _ _ _ (K+1) ((i:Int),s)=_/\_
  rw[vL];simp only[kG hx,aH,zW hx,aC,zT];rw[p1,aC,p2,aC,yw ab];simp only[gO]at g2 ⊢;exact⟨trivial,g2⟩
 .show vL _ _ _ _ _ _ _ _ _ (K+1) (_,s)=_
  rw[vL];simp only[xQ,cf]
def ahu{c0:List au}{c2:Int}{c3:List aw}{c5:List Def}{c6:List zM}{c7:List zd}{c8:List bD}{c9:List av}{c10:List zl}{c11:Int}{c12:ak}{c13:Int}(hl:c3.length<=64)(hs:Good s)(h:∀x∈c3,Wu (sP x))(hb:(s++e_ (c3.flatMap sP)).length<=140737488355328):
  vM c0 c1 c2 c3 (bf c3:Nat) c5 c6 c7 c8 c9 c10 c11 c12 c13 KK (0,s)=bc (s++e_ (c3.flatMap sP))/\Good (s++e_ (c3.flatMap sP)):=by
 rw[Wq]at hb ⊢;refine vE c3 (λx=>e_ (sP x)) (λK q s=>vM c0 c1 c2 c3 (bf c3:Nat) c5 c6 c7 c8 c9 c10 c11 c12 c13 K (q,s)) 140737488355328 Good ab hs hb (λK i x s hx hI hM=>?_) (λK s=>?_)
 .have hi:=qi hx;obtain⟨p1,g1⟩:=wM (l:=sP x) hI (h x (bG hx)).g (by simp[sP]) hM;refine⟨?_,g1⟩
  show vM _ _ _ _ _ _ _ _ _ _ _ _ _ _ (K+1) ((i:Int),s)=_
  rw[vM];simp only[kG hx,aH,zW hx,aC];rw[show([(br x.aL),(bp x.N)]:List (Int⊕ak))=sP x from rfl,p1,aC,yw ab]
 .show vM _ _ _ _ _ _ _ _ _ _ _ _ _ _ (K+1) (_,s)=_
  rw[vM];simp only[xQ,cf]
def zzh(x:au):zK (Kp x)=Hj (.inr yG)++(e_ [.inr x.aL]++(e_ (x.Rows.flatMap sP)++(e_ [.inr je,.inl x.nn]++[32,59,10]))):=by
 show zK (.inr yG::([.inr x.aL]++(x.Rows.flatMap sP++[.inr je,.inl x.nn])))=_
 rw[jv];simp only[Jd,gO]
def aht{c0:List au}{c2:List Def}{c3:List zM}{c4:List zd}{c5:List bD}{c6:List av}{c7:List zl}(hl:c0.length<=300)(hs:Vm s)(hn:∀x∈c0,zw x.aL=bg)(h:∀x∈c0,Kk x)(hf:∀x∈c0,x.Rows.length<=64)(hb:(s++c0.flatMap λx=>zK (Kp x)).length<=140737488355328):
  vN c0 (bf c0:Nat) c2 c3 c4 c5 c6 c7 c8 KK (0,s)=bc (s++c0.flatMap λx=>zK (Kp x))/\Vm (s++c0.flatMap λx=>zK (Kp x)):=by
 refine vE c0 (λx=>zK (Kp x)) (λK q s=>vN c0 (bf c0:Nat) c2 c3 c4 c5 c6 c7 c8 K (q,s)) 140737488355328 Vm ab hs hb (λK i x s hx hI hM=>?_) (λK s=>?_)
 .have hi:=qi hx;have hm:=bG hx;have hT:=h x hm;rw[zzh]at hM ⊢;have sW:=hM;simp only[la]at sW;obtain⟨p1,g1⟩:=Au (x:=.inr yG) (l:=[.inr x.aL]) hI (zk (yW ae) (zk (wW (hn x hm)) yd)).g af (by simp only[la];omega);obtain⟨p2,g2⟩:=ahu (c0:=c0) (c1:=(bf c0:Nat)) (c2:=(i:Int)) (c3:=x.Rows) (c5:=c2) (c6:=c3) (c7:=c4) (c8:=c5) (c9:=c6) (c10:=c7) (c11:=c8) (c12:=x.aL) (c13:=x.nn) (hf x hm) g1 (λy hy=>zY9 (zpp hT y hy) (hT.2.2 y hy)) (by simp only[la];omega);obtain⟨p3,g3⟩:=wM (l:=[.inr je,.inl x.nn]) g2 (zk (yW ae) (zk (ym (xF hT.2.1 ab ab)) yd)).g af (by simp only[la];omega);obtain⟨p4,g4⟩:=Wo g3 (by simp only[la];omega)
  show vN _ _ _ _ _ _ _ _ _ (K+1) ((i:Int),s)=_/\_
  rw[vN];simp only[kG hx,aH,zW hx,aC];rw[p1,aC,p2,aC,p3,aC,p4,aC,yw ab];simp only[gO]at g4 ⊢;exact⟨trivial,g4⟩
 .show vN _ _ _ _ _ _ _ _ _ (K+1) (_,s)=_
  rw[vN];simp only[xQ,cf]
def zGr(x:zM):zK (vl x)=Hj (.inr (bif x.mN then zu else zR))++(e_ [.inr x.aL]++(e_ (x.aA.flatMap pA)++[32,59,10])):=by
 show zK (.inr (bif x.mN then zu else zR)::([.inr x.aL]++x.aA.flatMap pA))=_
 rw[jv];simp only[Jd,gO]
def ahv{c0:List zM}{c2:List Def}{c3:List au}{c4:List zd}{c5:List bD}{c6:List av}{c7:List zl}(hl:c0.length<=300)(hs:Vm s)(hn:∀x∈c0,zw x.aL=bg)(h:∀x∈c0,AO x.aA)(hf:∀x∈c0,x.aA.length<=64)(hb:(s++c0.flatMap λx=>zK (vl x)).length<=140737488355328):
  vO c0 (bf c0:Nat) c2 c3 c4 c5 c6 c7 c8 KK (0,s)=bc (s++c0.flatMap λx=>zK (vl x))/\Vm (s++c0.flatMap λx=>zK (vl x)):=by
 refine vE c0 (λx=>zK (vl x)) (λK q s=>vO c0 (bf c0:Nat) c2 c3 c4 c5 c6 c7 c8 K (q,s)) 140737488355328 Vm ab hs hb (λK i x s hx hI hM=>?_) (λK s=>?_)
 .have hi:=qi hx;have hm:=bG hx;rw[zGr]at hM ⊢;have sW:=hM;simp only[la]at sW;obtain⟨p1,g1⟩:=Au (x:=.inr (bif x.mN then zu else zR)) (l:=[.inr x.aL]) hI (zk (zpq _) (zk (wW (hn x hm)) yd)).g af (by simp only[la];omega);obtain⟨p2,g2⟩:=zec g1 (Oh (h x hm)) (hf x hm) (by simp only[la];omega)
  have hw:(bif x.mN then bc zu else bc zR)=bc (bif x.mN then zu else zR):=by cases x.mN<;>rfl
  show vO _ _ _ _ _ _ _ _ _ (K+1) ((i:Int),s)=_/\_
  rw[vO];simp only[kG hx,aH,zW hx,aC];rw[hw,aC,p1,aC,p2,aC,yw ab];simp only[gO]at g2 ⊢;exact⟨trivial,g2⟩
 .show vO _ _ _ _ _ _ _ _ _ (K+1) (_,s)=_
  rw[vO];simp only[xQ,cf]
def ahw{c0:List zd}{c2:List Def}{c3:List au}{c4:List zM}{c5:List bD}{c6:List av}{c7:List zl}(hl:c0.length<=300)(hs:Vm s)(hn:∀x∈c0,zw x.aL=bg)(h:∀x∈c0,Wi x)(hf:∀x∈c0,si x=bg)(hb:(s++c0.flatMap λx=>zK (Vh x)).length<=140737488355328):
  vP c0 (bf c0:Nat) c2 c3 c4 c5 c6 c7 c8 KK (0,s)=bc (s++c0.flatMap λx=>zK (Vh x))/\Vm (s++c0.flatMap λx=>zK (Vh x)):=by
 refine vE c0 (λx=>zK (Vh x)) (λK q s=>vP c0 (bf c0:Nat) c2 c3 c4 c5 c6 c7 c8 K (q,s)) 140737488355328 Vm ab hs hb (λK i x s hx hI hM=>?_) (λK s=>?_)
 .have hi:=qi hx;have hm:=bG hx;obtain⟨p1,g1⟩:=zFs hI (h x hm) (hn x hm) (hf x hm) hM;refine⟨?_,g1⟩
  show vP _ _ _ _ _ _ _ _ _ (K+1) ((i:Int),s)=_
  rw[vP];simp only[kG hx,aH,zW hx,aC,zT];rw[p1,aC,yw ab]
 .show vP _ _ _ _ _ _ _ _ _ (K+1) (_,s)=_
  rw[vP];simp only[xQ,cf]
def zGs{i:Nat}(h:i<3):u_[i]?=bc (u_.getD i []):=by rw[bY,bF (show i<u_.length from h)];rfl
def zLp(x:bD):zK (Bn x)=Hj (.inr Br)++(e_ [.inr x.aL,.inr (u_.getD x.np.toNat []),.inl x.pH]++(e_ (x.aA.flatMap pA)++[32,59,10])):=by
 show zK (.inr Br::([.inr x.aL,.inr (u_.getD x.np.toNat []),.inl x.pH]++x.aA.flatMap pA))=_
 rw[jv];simp only[Jd,gO]
def ahx{c0:List bD}{c2:List Def}{c3:List au}{c4:List zM}{c5:List zd}{c6:List av}{c7:List zl}(hl:c0.length<=300)(hs:Vm s)(hn:∀x∈c0,zw x.aL=bg)(h:∀x∈c0,Gf x)(hf:∀x∈c0,x.aA.length<=64)(hb:(s++c0.flatMap λx=>zK (Bn x)).length<=140737488355328):
  vQ c0 (bf c0:Nat) c2 c3 c4 c5 c6 c7 c8 KK (0,s)=bc (s++c0.flatMap λx=>zK (Bn x))/\Vm (s++c0.flatMap λx=>zK (Bn x)):=by
 refine vE c0 (λx=>zK (Bn x)) (λK q s=>vQ c0 (bf c0:Nat) c2 c3 c4 c5 c6 c7 c8 K (q,s)) 140737488355328 Vm ab hs hb (λK i x s hx hI hM=>?_) (λK s=>?_)
 .have hi:=qi hx;have hm:=bG hx;obtain⟨k1,k2,k3⟩:=h x hm;rw[zLp]at hM ⊢;have sW:=hM;simp only[la]at sW;obtain⟨p1,g1⟩:=Au (x:=.inr Br) (l:=[.inr x.aL,.inr (u_.getD x.np.toNat []),.inl x.pH]) hI (zk (yW ae) (zk (wW (hn x hm)) (zk (zpo ab) (zk (ym (xF k2 ab ab)) yd)))).g af (by simp only[la];omega);obtain⟨p2,g2⟩:=zec g1 (Oh k3) (hf x hm) (by simp only[la];omega)
  show vQ _ _ _ _ _ _ _ _ _ (K+1) ((i:Int),s)=_/\_
  rw[vQ];simp only[kG hx,aH,zW hx,aC,zpk];rw[zt (show 0<=x.np/\x.np<((bf u_:Nat):Int) by rw[show u_.length=3 from rfl];omega),aC,zGs (show x.np.toNat<3 by omega),aC,p1,aC,p2,aC,yw ab];simp only[gO]at g2 ⊢;exact⟨trivial,g2⟩
 .show vQ _ _ _ _ _ _ _ _ _ (K+1) (_,s)=_
  rw[vQ];simp only[xQ,cf]
def ahz{c0:List av}{c2:Int}{c3:List zl}{c5:List Def}{c6:List au}{c7:List zM}{c8:List zd}{c9:List bD}{c10:List zl}{c11:Int}(hl:c3.length<=64)(hs:Good s)(h:∀x∈c3,Wu (Zj x))(hb:(s++e_ (c3.flatMap Zj)).length<=140737488355328):
  vR c0 c1 c2 c3 (bf c3:Nat) c5 c6 c7 c8 c9 c10 c11 KK (0,s)=bc (s++e_ (c3.flatMap Zj))/\Good (s++e_ (c3.flatMap Zj)):=by
 rw[Wq]at hb ⊢;refine vE c3 (λx=>e_ (Zj x)) (λK q s=>vR c0 c1 c2 c3 (bf c3:Nat) c5 c6 c7 c8 c9 c10 c11 K (q,s)) 140737488355328 Good ab hs hb (λK i x s hx hI hM=>?_) (λK s=>?_)
 .have hi:=qi hx;obtain⟨p1,g1⟩:=wM (l:=Zj x) hI (h x (bG hx)).g (by simp[Zj]) hM;refine⟨?_,g1⟩
  show vR _ _ _ _ _ _ _ _ _ _ _ _ (K+1) ((i:Int),s)=_
  rw[vR];simp only[kG hx,aH,zW hx,aC];rw[show([(bp x.X),(bp x.Y),(bp x.Z_)]:List (Int⊕ak))=Zj x from rfl,p1,aC,yw ab]
 .show vR _ _ _ _ _ _ _ _ _ _ _ _ (K+1) (_,s)=_
  rw[vR];simp only[xQ,cf]
def zGt(x:av):zK (BF x)=Hj (.inr Qt)++(e_ [.inr x.aL,.inl x.iW.X,.inl x.iW.Y,.inl x.iW.Z_,.inr Yc,.inl x.nB,.inr wQ]++(e_ (x.lB.flatMap Zj)++[32,59,10])):=by
 show zK (.inr Qt::([.inr x.aL,.inl x.iW.X,.inl x.iW.Y,.inl x.iW.Z_,.inr Yc,.inl x.nB,.inr wQ]++x.lB.flatMap Zj))=_
 rw[jv];simp only[Jd,gO]
def ahy{c0:List av}{c2:List Def}{c3:List au}{c4:List zM}{c5:List zd}{c6:List bD}{c7:List zl}(hl:c0.length<=300)(hs:Vm s)(hn:∀x∈c0,zw x.aL=bg)(h:∀x∈c0,BE x)(hf:∀x∈c0,x.lB.length<=64)(hb:(s++c0.flatMap λx=>zK (BF x)).length<=140737488355328):
  vS c0 (bf c0:Nat) c2 c3 c4 c5 c6 c7 c8 KK (0,s)=bc (s++c0.flatMap λx=>zK (BF x))/\Vm (s++c0.flatMap λx=>zK (BF x)):=by
 refine vE c0 (λx=>zK (BF x)) (λK q s=>vS c0 (bf c0:Nat) c2 c3 c4 c5 c6 c7 c8 K (q,s)) 140737488355328 Vm ab hs hb (λK i x s hx hI hM=>?_) (λK s=>?_)
 .have hi:=qi hx;have hm:=bG hx;obtain⟨k1,k2,k3,k4⟩:=h x hm;obtain⟨e1,e2,e3⟩:=Wr k3;rw[zGt]at hM ⊢;have sW:=hM;simp only[la]at sW;obtain⟨p1,g1⟩:=Au (x:=.inr Qt) (l:=[.inr x.aL,.inl x.iW.X,.inl x.iW.Y,.inl x.iW.Z_,.inr Yc,.inl x.nB,.inr wQ]) hI (zk (yW ae) (zk (wW (hn x hm)) (zk (ym e1) (zk (ym e2) (zk (ym e3) (zk (yW ae) (zk (ym (xF k1 ab ab)) (zk (yW ae) yd)))))))).g af (by simp only[la];omega);obtain⟨p2,g2⟩:=ahz (c0:=c0) (c1:=(bf c0:Nat)) (c2:=(i:Int)) (c3:=x.lB) (c5:=c2) (c6:=c3) (c7:=c4) (c8:=c5) (c9:=c6) (c10:=c7) (c11:=c8) (hf x hm) g1 (λy hy=>GO (Wr (k4 y hy))) (by simp only[la];omega);obtain⟨p3,g3⟩:=Wo g2 (by simp only[la];omega)
  show vS _ _ _ _ _ _ _ _ _ (K+1) ((i:Int),s)=_/\_
  rw[vS];simp only[kG hx,aH,zW hx,aC];rw[p1,aC,p2,aC,p3,aC,yw ab];simp only[gO]at g3 ⊢;exact⟨trivial,g3⟩
 .show vS _ _ _ _ _ _ _ _ _ (K+1) (_,s)=_
  rw[vS];simp only[xQ,cf]
end code
def Zm(p:zl):List Tok:=.inr QT::Zj p
def zZ1{l:List zl}{c2:List Def}{c3:List au}{c4:List zM}{c5:List zd}{c6:List bD}{c7:List av}{c8:Int}(hl:l.length<=64)(h:∀x∈l,Dk x):∀(r:List zl)(i K:Nat)(s:ak),1<=i->l.drop i=r->i<=l.length->r.length<K->Good s->(s++r.flatMap λx=>e_ (Zm x)).length<=140737488355328 ->
  vT l (bf l:Nat) c2 c3 c4 c5 c6 c7 c8 K ((i:Int),s)=bc (s++r.flatMap λx=>e_ (Zm x))/\Good (s++r.flatMap λx=>e_ (Zm x))
 |[],i,K,s,h1,hr,hi,hK,hI,hM=>by
  obtain⟨K,rfl⟩:∃k,K=k+1:=⟨K-1,by simp at hK;omega⟩
  have:=drop_nil hr hi;subst this;rw[vT];simp only[xQ,cf,eo,bM,true_and];exact hI
 |x::r,i,K,s,h1,hr,hi,hK,hI,hM=>by
  obtain⟨K,rfl⟩:∃k,K=k+1:=⟨K-1,by simp at hK;omega⟩
  obtain⟨g1,g2,g3⟩:=yZ hr;simp only[lc]at hK;rw[cN,<- gO]at hM ⊢;obtain⟨p1,p2⟩:=wM (l:=Zm x) hI (zk (yW ae) (GO (Pl (h x (bG g1))))).g (by simp[Zm,Zj]) (by rw[la]at hM;omega);rw[vT];simp only[kG g1,aH,zW g1,aC]
  rw[show min (i:Int) 1=1 by omega,zt ae,aC,show(([QR,QT]:List ak))[(bQ 1)]?=bc QT from rfl,aC,
   show([(br QT),(bp x.X),(bp x.Y),(bp x.Z_)]:List (Int⊕ak))=Zm x from rfl,p1,aC,yw ab]
  exact zZ1 hl h r (i+1) K _ ab g2 ab ab p2 hM
def zLq(p:zl)(r:List zl):zK (Cl (p::r))=Hj (.inr QR)++(e_ (Zj p)++((r.flatMap λx=>e_ (Zm x))++[32,59,10])):=by
 show zK (.inr QR::(Zj p++r.flatMap Zm))=_
 rw[jv];simp only[Jd,gO,Wq]
def ahA{l:List zl}{c2:List Def}{c3:List au}{c4:List zM}{c5:List zd}{c6:List bD}{c7:List av}{c8:Int}{s:ak}(hl:l.length<=64)(hs:Vm s)(h:∀x∈l,Dk x)(hb:(s++(bif l.isEmpty then[]else zK (Cl l))).length<=140737488355328):
  (vT l (bf l:Nat) c2 c3 c4 c5 c6 c7 c8 KK (0,s)).bind (λx8=>((bif (decide (((bf l:Nat):Int)>0))then(qc x8).bind λgw=>bc gw else bc x8)))=bc (s++(bif l.isEmpty then[]else zK (Cl l)))/\Vm (s++(bif l.isEmpty then[]else zK (Cl l))):=by
 obtain⟨k,hk⟩:∃k,KK=k+1:=⟨KK-1,by have:=vZ (n:=100) ab;omega⟩
 have nd:l.length<k+1:=by rw[<- hk];exact vZ ab
 cases l with
 |nil =>
  rw[hk,vT];simp only[abU,aH,bM,bN];exact⟨rfl,hs⟩
 |cons p r =>
  simp only[abw,cf]at hb ⊢;rw[zLq]at hb ⊢;have sW:=hb;simp only[la]at sW;simp only[lc]at nd;have hp:=h p al;obtain⟨p1,g1⟩:=Au (x:=.inr QR) (l:=Zj p) hs (zk (yW ae) (GO (Pl hp))).g (by simp[Zj]) (by simp only[la];omega);obtain⟨p2,g2⟩:=zZ1 (l:=p::r) (c2:=c2) (c3:=c3) (c4:=c4) (c5:=c5) (c6:=c6) (c7:=c7) (c8:=c8) hl h r 1 k _ ab rfl af ab g1 (by simp only[la];omega);obtain⟨p3,g3⟩:=Wo g2 (by simp only[la];omega);rw[hk,vT];have h0:(p::r)[0]?=bc p:=rfl;have d0:decide ((0:Int)<(((p::r).length:Nat):Int))=bg:=kG h0;have i0:idx (p::r) 0=bc p:=zW h0;simp only[d0,aH,i0,aC]
  rw[show min (0:Int) 1=0 from rfl,zt ae,aC,show(([QR,QT]:List ak))[(bQ 0)]?=bc QR from rfl,aC,
   show([(br QR),(bp p.X),(bp p.Y),(bp p.Z_)]:List (Int⊕ak))=.inr QR::Zj p from rfl,p1,aC,show aS (0+1)=((1:Nat):Int) from rfl,p2,aC]
  rw[p3];simp only[gO,aC,true_and]at g3 ⊢;exact g3
def zTd{s:ak}{n:Int}(hs:Vm s)(h:0<=n/\n<=24)(hb:(s++(if n=0 then[]else zK (Zk n))).length<=140737488355328):
  ((bif (!(decide (n=0)))then(yc s ([(br AG),(bp n)]:List (Int⊕ak))).bind λiZ=>aN (qc iZ) λkO=>bc kO else bc s))=bc (s++(if n=0 then[]else zK (Zk n))):=by
 by_cases h0:n=0
 .rw[aP h0,dt h0,bM];rfl
 .rw[aO h0]at hb ⊢;have e:zK (Zk n)=Hj (.inr AG)++(e_ [.inl n]++[32,59,10]):=jv _ _;rw[e]at hb ⊢;have sW:=hb;simp only[la]at sW;obtain⟨p1,g1⟩:=Au (x:=.inr AG) (l:=[.inl n]) hs (zFw h).g af (by simp only[la];omega);obtain⟨p2,g2⟩:=Wo g1 (by simp only[la];omega);rw[df h0,cu,aH,p1,aC,p2];simp only[gO,aC]
noncomputable def T5(p:xP):ak×Int:=bif pd (Ap p)then(if(Av p).length<=8000 then(Av p,0)else([],6))else([],1)
def zLr{p:xP}(hf:Cm p):QZ p=bc (T5 p):=by
 unfold QZ T5;rw[OM hf,aC]
 cases hr:pd (Ap p)with
 |false=>rfl
 |true =>
  have hR:=yV.1 hr;have hb:=zFy hf hR;have nm:=zv4 hR;obtain⟨_,⟨b1,b2,b3,b4,b5,b6,b7⟩,hh,hs⟩:=hR;simp only[bJ,cf,aH];have mV:=hb;simp only[Av,la]at mV;obtain⟨p1,g1⟩:=ahs (c0:=p.aF) (c2:=p.Tables) (c3:=p.aB) (c4:=p.aE) (c5:=p.aJ) (c6:=p.aG) (c7:=p.aK) (c8:=p.aI) (s:=[]) hf.d (.inl rfl) nm.d b1 (λx hx=>(Qi (hf.ds x hx).2).1) (by simp only[cl];omega);rw[cl]at p1 g1;generalize iQ:(p.aF.flatMap λx=>zK (tK x))=s1 at p1 g1 mV;obtain⟨p2,g2⟩:=aht (c0:=p.Tables) (c2:=p.aF) (c3:=p.aB) (c4:=p.aE) (c5:=p.aJ) (c6:=p.aG) (c7:=p.aK) (c8:=p.aI) hf.t g1 nm.t b2 (λx hx=>(hf.ts x hx).2.1) (by simp only[la];omega);generalize lu:(p.Tables.flatMap λx=>zK (Kp x))=s2 at p2 g2 mV;obtain⟨p3,g3⟩:=ahv (c0:=p.aB) (c2:=p.aF) (c3:=p.Tables) (c4:=p.aE) (c5:=p.aJ) (c6:=p.aG) (c7:=p.aK) (c8:=p.aI) hf.z g2 nm.z b3 (λx hx=>(hf.zs x hx).2) (by simp only[la];omega);generalize rA:(p.aB.flatMap λx=>zK (vl x))=s3 at p3 g3 mV;obtain⟨p4,g4⟩:=ahw (c0:=p.aE) (c2:=p.aF) (c3:=p.Tables) (c4:=p.aB) (c5:=p.aJ) (c6:=p.aG) (c7:=p.aK) (c8:=p.aI) hf.r g3 nm.r b4 hf.rs (by simp only[la];omega);generalize rB:(p.aE.flatMap λx=>zK (Vh x))=s4 at p4 g4 mV;obtain⟨p5,g5⟩:=ahx (c0:=p.aJ) (c2:=p.aF) (c3:=p.Tables) (c4:=p.aB) (c5:=p.aE) (c6:=p.aG) (c7:=p.aK) (c8:=p.aI) hf.c g4 nm.c b5 (λx hx=>(hf.cs x hx).2) (by simp only[la];omega);generalize B4:(p.aJ.flatMap λx=>zK (Bn x))=s5 at p5 g5 mV;obtain⟨p6,g6⟩:=ahy (c0:=p.aG) (c2:=p.aF) (c3:=p.Tables) (c4:=p.aB) (c5:=p.aE) (c6:=p.aJ) (c7:=p.aK) (c8:=p.aI) hf.v g5 nm.v b6 (λx hx=>(hf.vs x hx).2) (by simp only[la];omega);generalize M9:(p.aG.flatMap λx=>zK (BF x))=s6 at p6 g6 mV;obtain⟨p7,g7⟩:=ahA (l:=p.aK) (c2:=p.aF) (c3:=p.Tables) (c4:=p.aB) (c5:=p.aE) (c6:=p.aJ) (c7:=p.aG) (c8:=p.aI) hf.s g6 b7 (by simp only[la];omega);generalize Eb:(bif p.aK.isEmpty then[]else zK (Cl p.aK))=s7 at p7 g7 mV;have p8:=zTd g7 hh (by simp only[la];omega)
  have e:s1++s2++s3++s4++s5++s6++s7++(if p.aI=0 then[]else zK (Zk p.aI))=Av p:=by unfold Av;rw[iQ,lu,rA,rB,B4,M9,Eb];simp only[gO]
  rw[e]at p8;rw[p1,aC,p2,aC,p3,aC,p4,aC,p5,aC,p6,aC];rw[<- Option.bind_assoc,p7,aC,p8,aC];unfold XO A6;rw[aC];by_cases hl:(Av p).length<=8000
  .rw[aP hl,df ab];rfl
  .rw[aO hl,dt ab];rfl
def zZ2{d:Ed}(h:d.ok)(hk:EF d<=1000):nM (enc d):=Pc (by
 cases d with
 |mA r=>exact XU (by simp only[EF]at hk;omega) (by simp only[EF]at hk;omega) (by simp only[EF]at hk;omega)
 |mS r=>exact Pb (by simp only[EF]at hk;omega)
 |lA z=>have:=h.2.1;show z.aA.length<=64;omega
 |_=>trivial)
def zTe{s:ak}(h:s.all ye=bg):(45:UInt8) ∉ s:=λhm=>by have:=bj.1 h _ hm;cases this
def zwq{s:ak}(h:s.all ye=bg):Lib.count s [45]=0:=by rw[Lib.count_one];exact List.count_eq_zero.2 (zTe h)
def XX{n:Int}(h:jI n):Jk n=bc (Lib.itoa n)/\VW (Lib.itoa n) yX ud 1=bc (Hj (.inl n)):=by
 have hl:=LL h;have h0:=h;unfold jI at h0;rw[Km]at hl ⊢;refine⟨by unfold Jk L6;rw[zt ab,aC],?_⟩;unfold VW VP Lib.itoa Lib.replace Lib.replaceNum;rw[aO (show ¬(yX==ud)=bg by decide)];by_cases hn:n<0
 .rw[aP hn]at hl ⊢;have hd:=YC n.natAbs
  have hc:Lib.count (45::Lib.decDigits n.natAbs) yX=1:=by rw[show yX=[45] from rfl,Lib.count_cons_eq,zwq hd]
  simp only[lc]at hl;rw[aP hn,hc,zt ⟨by simp only[lc];omega,ae,by simp only[lc,show ud.length=2 from rfl];omega⟩,aC,aO ae,show(1:Int).toNat=0+1 from rfl,Lib.replaceK_hit _ _ _ _ 0 (by unfold Lib.index;exact aP rfl)];rfl
 .rw[aO hn]at hl ⊢;have hd:=YC n.toNat;have hc:Lib.count (Lib.decDigits n.toNat) yX=0:=zwq hd;rw[aO hn,hc,zt ⟨ab,ae,ab⟩,aC,aP (.inr ae)];rfl
def EY:Ed->Bool
 |.mA _|.mS _|.lA _=>bg
 |_=>bd
def zN5{d:Ed}(hd:d.ok)(hb:EY d=bd):ka (enc d)=bc (zK (mT d))/\(zK (mT d)).length<=100:=by
 cases d with
 |mA r=>cases hb
 |mS r=>cases hb
 |lA r=>cases hb
 |fin n v =>
  obtain⟨hn,h1⟩:=hd;have l1:=(vj hn).1
  have hv:jI v:=by unfold jI;omega
  have l2:=LL hv;obtain⟨g1,g2⟩:=XX hv
  have e:zK (mT (.fin n v))=YX++n++gU++Hj (.inl v)++xB:=by simp[mT,zK,e_,Hj,jm,YX,gU,xB]
  show ka ⟨1,n,[],v,kD,jc,[]⟩=_/\_
  unfold ka;dsimp only;rw[g1,aC,g2,aC,show decide ((1:Int)=1)=bg from rfl,aH];have k1:YX.length=4:=rfl;have k2:gU.length=1:=rfl;have k3:xB.length=3:=rfl;rw[zt ab,zt (by simp only[la];omega),zt (by simp only[la];omega),zt (by simp only[la];omega),e];refine⟨rfl,?_⟩;simp only[la];omega
 |q_ n v =>
  obtain⟨hn,h1⟩:=hd;have l1:=(vj hn).1
  have hv:jI v:=by unfold jI;omega
  have l2:=LL hv;obtain⟨g1,g2⟩:=XX hv
  have e:zK (mT (.q_ n v))=Ac++n++gU++Hj (.inl v)++xB:=by simp[mT,zK,e_,Hj,yh,Ac,gU,xB]
  show ka ⟨5,n,[],v,kD,jc,[]⟩=_/\_
  unfold ka;dsimp only;rw[g1,aC,g2,aC,show decide ((5:Int)=1)=bd from rfl,show decide ((5:Int)=3)=bd from rfl,cf,cf];have k1:Ac.length=6:=rfl;have k2:gU.length=1:=rfl;have k3:xB.length=3:=rfl;rw[zt ab,zt (by simp only[la];omega),zt (by simp only[la];omega),zt (by simp only[la];omega),e];refine⟨rfl,?_⟩;simp only[la];omega
 |row n x =>
  obtain⟨hn,hk,h1,h2⟩:=hd;have l1:=(vj hn).1;have l3:=(vj hk).1
  have hv:jI x.N:=by unfold jI;omega
  have l2:=LL hv;obtain⟨g1,g2⟩:=XX hv
  have e:zK (mT (.row n x))=Qs++n++gU++x.aL++gU++Hj (.inl x.N)++xB:=by simp[mT,zK,e_,Hj,vk,Qs,gU,xB]
  show ka ⟨3,n,x.aL,x.N,kD,jc,[]⟩=_/\_
  unfold ka;dsimp only;rw[g1,aC,g2,aC,show decide ((3:Int)=1)=bd from rfl,show decide ((3:Int)=3)=bg from rfl,cf,aH];have k1:Qs.length=4:=rfl;have k2:gU.length=1:=rfl;have k3:xB.length=3:=rfl;rw[zt ab,zt (by simp only[la];omega),zt (by simp only[la];omega),zt (by simp only[la];omega),zt (by simp only[la];omega),zt (by simp only[la];omega),e];refine⟨rfl,?_⟩;simp only[la];omega
def YL(x:Int×ak)(d:Ed):Int×ak:=if EY d=bg/\8000<(zK (mT d)).length then(6,x.2)else(x.1,x.2++zK (mT d))
def adC:∀(ds:List Ed)(x:Int×ak),ds.foldl YL x=(x.1,x.2++Ku ds)∨((ds.foldl YL x).1=6/\8000<(Ku ds).length)
 |[],x=>.inl (by simp[Ku])
 |d::ds,x=>by
  have e:Ku (d::ds)=zK (mT d)++Ku ds:=cN ..;rw[dB,e,la]
  rcases adC ds (YL x d)with h|⟨h1,h2⟩
  .rw[h];unfold YL;split
   .exact .inr ⟨rfl,ab⟩
   .exact .inl af
  .exact .inr ⟨h1,ab⟩
def zGv{d:Ed}(hd:d.ok)(hz:nM (enc d))(f:Int):(aN (jo (enc d)) λx4=>(bif x4.1 then(QZ (xP.mk x4.2.1 x4.2.2.1 x4.2.2.2.1 x4.2.2.2.2.1 x4.2.2.2.2.2.1 x4.2.2.2.2.2.2.1 x4.2.2.2.2.2.2.2.1 x4.2.2.2.2.2.2.2.2)).bind λx5=>(bif (!(decide (x5.2=0)))then bc (6,x5.1)else bc (f,x5.1))else(ka (enc d)).bind λx6=>bc (f,x6)))=bc (if EY d=bg/\8000<(zK (mT d)).length then((6:Int),[])else(f,zK (mT d))):=by
 have key:∀(p:xP)(l:ak),Cm p->Ap p->Av p=l->(QZ p).bind (λx5=>(bif (!(decide (x5.2=0)))then bc ((6:Int),x5.1)else bc (f,x5.1)))=bc (if bg=bg/\8000<l.length then((6:Int),[])else(f,l)):=λp l h1 h2 h3=>by
  rw[zLr h1,aC];unfold T5;rw[yV.2 h2,aH,h3];by_cases hl:l.length<=8000
  .rw[aP hl,aO ab];rfl
  .rw[aO hl,aP ⟨rfl,ab⟩];rfl
 obtain⟨h1,h2,h3⟩:=hz
 cases d with
 |mA r =>
  unfold jo;simp only[enc,decide_true,aH,aC];rw[Ax r];exact key _ _ (DC [] [] [r] ⟨af,λx hx=>(cU hx).elim⟩ ⟨af,λx hx=>(cU hx).elim⟩ ⟨af,λx hx=>by rw[bS]at hx;subst hx;exact h1⟩) (zhw.2 hd) (by simp[Av,mT])
 |mS r =>
  unfold jo;simp only[enc,show decide ((2:Int)=0)=bd from rfl,cf,decide_true,aH,aC];rw[zT r.Body];exact key _ _ (DC [r] [] [] ⟨af,λx hx=>by rw[bS]at hx;subst hx;exact h2⟩ ⟨af,λx hx=>(cU hx).elim⟩ ⟨af,λx hx=>(cU hx).elim⟩) (zpx.2 hd) (by simp[Av,mT])
 |lA z =>
  obtain⟨n,o,c⟩:=z;unfold jo;simp only[enc,show decide ((4:Int)=0)=bd from rfl,show decide ((4:Int)=2)=bd from rfl,cf,decide_true,aH,aC];cases o
  .exact key ⟨[],[],[⟨n,bd,c⟩],[],[],[],[],0⟩ _ (DC [] [⟨n,bd,c⟩] [] ⟨af,λx hx=>(cU hx).elim⟩ ⟨af,λx hx=>by rw[bS]at hx;subst hx;exact h3⟩ ⟨af,λx hx=>(cU hx).elim⟩) (YI.2 hd) (by simp[Av,mT])
  .exact key ⟨[],[],[⟨n,bg,c⟩],[],[],[],[],0⟩ _ (DC [] [⟨n,bg,c⟩] [] ⟨af,λx hx=>(cU hx).elim⟩ ⟨af,λx hx=>by rw[bS]at hx;subst hx;exact h3⟩ ⟨af,λx hx=>(cU hx).elim⟩) (YI.2 hd) (by simp[Av,mT])
 |_ =>
  have:=(zN5 hd rfl).1;unfold jo;rw[aO (by simp[EY])];exact T0 this
noncomputable def okB(e:zN):Bool:=pd (∃d:Ed,d.ok/\enc d=e)
def YP{e:zN}(h:nM e):vy e=bc (okB e):=zSy h
def zN6{l:List zN}{e:zN}{i K:Nat}{f:Int}{b:ak}(hx:l[i]?=bc e)(hz:nM e)(hi:l.length<=10000)(hb:b.length<=8000*i):
  (okB e=bd->yN l ((l.length:Nat):Int) (K+1) (f,(i:Int),b)=bc (.inl ([],1)))/\∀d:Ed,d.ok->enc d=e->(YL (f,b) d).2.length<=8000*(i+1)/\yN l ((l.length:Nat):Int) (K+1) (f,(i:Int),b)=yN l ((l.length:Nat):Int) K ((YL (f,b) d).1,((i+1:Nat):Int),(YL (f,b) d).2):=by
 have fZ:=qi hx
 have e0:yN l ((l.length:Nat):Int) (K+1) (f,(i:Int),b)=(bif (!(okB e))then bc (bp (([]:ak),1))else(aN (jo e) λx4=>(bif x4.1 then(QZ (xP.mk x4.2.1 x4.2.2.1 x4.2.2.2.1 x4.2.2.2.2.1 x4.2.2.2.2.2.1 x4.2.2.2.2.2.2.1 x4.2.2.2.2.2.2.2.1 x4.2.2.2.2.2.2.2.2)).bind λx5=>(bif (!(decide (x5.2=0)))then bc (6,x5.1)else bc (f,x5.1))else(ka e).bind λx6=>bc (f,x6))).bind λx3=>aN (yz b x3.2) λx7=>yN l ((l.length:Nat):Int) K (x3.1,(aS ((i:Int)+1)),x7.2)):=by rw[yN];dsimp only;rw[kG hx,aH,zW hx,aC];rw[Ax,zT,zwb,YP hz,aC]
 rw[e0];refine⟨λh=>by rw[h];rfl,?_⟩;rintro d hd rfl;rw[show okB (enc d)=bg from yV.2 ⟨d,hd,rfl⟩,bJ,cf,zGv hd hz f,aC,yw ab]
 have hl:EY d=bd->(zK (mT d)).length<=100:=λh=>(zN5 hd h).2
 unfold YL;by_cases h:EY d=bg/\8000<(zK (mT d)).length
 .rw[aP h,aP h,z7 (by simp only[bN];omega),aC,bM];exact⟨by dsimp only;omega,rfl⟩
 .have h8:(zK (mT d)).length<=8000:=by
   cases hc:EY d with
   |false=>have:=hl hc;omega
   |true=>rw[hc]at h;simpa using h
  rw[aO h,aO h,z7 (by dsimp only;omega),aC];refine⟨?_,rfl⟩;rw[la];dsimp only;omega
def ada{l:List zN}(hi:l.length<=10000)(hz:∀e∈l,nM e):∀(ds:List Ed)(i K:Nat)(x:Int×ak),l.drop i=ds.map enc->i<=l.length->(∀d∈ds,d.ok)->ds.length<K->x.2.length<=8000*i->yN l ((l.length:Nat):Int) K (x.1,(i:Int),x.2)=bc (.inr (ds.foldl YL x))
 |[],i,K,x,hd,hl,_,hK,_=>by
  obtain⟨K,rfl⟩:∃k,K=k+1:=⟨K-1,by simp at hK;omega⟩
  have:=drop_nil hd hl;subst this;rw[yN];dsimp only;rw[xQ];rfl
 |d::ds,i,K,x,hd,hl,ho,hK,hb=>by
  obtain⟨K,rfl⟩:∃k,K=k+1:=⟨K-1,by simp at hK;omega⟩
  obtain⟨g1,g2,g3⟩:=yZ hd;obtain⟨g4,g5⟩:=(zN6 (K:=K) (f:=x.1) (b:=x.2) g1 (hz _ (bG g1)) hi hb).2 d (ho d al) rfl;rw[g5];exact ada hi hz ds (i+1) K (YL x d) g2 ab (λy hy=>ho y (gq _ hy)) (by simp only[lc]at hK;omega) g4
def zZ3{l:List zN}(hi:l.length<=10000)(hz:∀e∈l,nM e):∀(r:List zN)(i K:Nat)(x:Int×ak),l.drop i=r->i<=l.length->r.all okB=bd->r.length<K->x.2.length<=8000*i->yN l ((l.length:Nat):Int) K (x.1,(i:Int),x.2)=bc (.inl ([],1))
 |[],i,K,x,hd,hl,h,hK,_=>by cases h
 |e::r,i,K,x,hd,hl,h,hK,hb=>by
  obtain⟨K,rfl⟩:∃k,K=k+1:=⟨K-1,by simp at hK;omega⟩
  obtain⟨g1,g2,g3⟩:=yZ hd;obtain⟨s1,s2⟩:=zN6 (K:=K) (f:=x.1) (b:=x.2) g1 (hz _ (bG g1)) hi hb
  cases ho:okB e with
  |false=>exact s1 ho
  |true =>
   obtain⟨d,g6,g7⟩:=yV.1 (show pd _=bg from ho);obtain⟨g4,g5⟩:=s2 d g6 g7;rw[g5];rw[cv,ho,cb]at h;exact zZ3 hi hz r (i+1) K (YL x d) g2 ab h (by simp only[lc]at hK;omega) g4
def zZ4{l:List zN}(hi:l.length<=10000)(hz:∀e∈l,nM e):∀(r:List zN)(i K:Nat),l.drop i=r->i<=l.length->r.length<K->∃y,yt l ((l.length:Nat):Int) K (i:Int)=bc y/\(r.all okB=bg->y=.inr ())/\(r.all okB=bd->∃j:Nat,y=.inl (j:Int))
 |[],i,K,hd,hl,hK=>by
  obtain⟨K,rfl⟩:∃k,K=k+1:=⟨K-1,by simp at hK;omega⟩
  have:=drop_nil hd hl;subst this;rw[yt,xQ];exact⟨_,rfl,λ_=>rfl,λh=>by cases h⟩
 |e::r,i,K,hd,hl,hK=>by
  obtain⟨K,rfl⟩:∃k,K=k+1:=⟨K-1,by simp at hK;omega⟩
  obtain⟨g1,g2,g3⟩:=yZ hd
  have e1:HJ e=bc (!(okB e)):=by unfold HJ;rw[Ax,zT,zwb,YP (hz _ (bG g1)),aC]
  rw[yt,kG g1,aH,zW g1,aC,e1,aC,cv]
  cases ho:okB e with
  |false=>exact⟨_,rfl,(λh=>by cases h),λ_=>⟨i,rfl⟩⟩
  |true =>rw[bJ,cf,yw ab,cb];exact zZ4 hi hz r (i+1) K g2 ab (by simp only[lc]at hK;omega)
def ac9{l:List zN}(hi:l.length<=10000)(hz:∀e∈l,nM e):xK l=bc (!(l.all okB)):=by
 obtain⟨y,h1,h2,h3⟩:=zZ4 hi hz l 0 KK rfl (bP _) (by have:=GV;omega);rw[show((0:Nat):Int)=0 from rfl]at h1;unfold xK j9;rw[h1,aC]
 cases h:l.all okB with
 |true=>rw[h2 h];rfl
 |false =>
  obtain⟨j,rfl⟩:=h3 h
  show bc (decide ((j:Int)>=0))=_
  rw[dt ab];rfl
def zTf{ds:List Ed}(h:∀d∈ds,d.ok):(ds.map enc).all okB=bg:=by
 rw[iY]
 exact bj.2 λd hd=>yV.2 ⟨d,h d hd,rfl⟩
def zGw:∀{l:List zN},l.all okB=bg->∃ds:List Ed,l=ds.map enc/\∀d∈ds,d.ok
 |[],_=>⟨[],rfl,λ_ h=>(cU h).elim⟩
 |e::l,h=>by rw[cv,bn]at h;obtain⟨d,g1,g2⟩:=yV.1 (show pd _=bg from h.1);obtain⟨ds,g3,g4⟩:=zGw h.2;exact⟨d::ds,by rw[gf,g2,g3],λx hx=>by rcases bq.1 hx with rfl|hx;exact g1;exact g4 x hx⟩
def PI(ds:List Ed):ak×Int:=if(Ku ds).length<=8000 then(Ku ds,0)else([],6)
def XY{ds:List Ed}(hl:ds.length<=200)(ho:∀d∈ds,d.ok)(hz:∀d∈ds,nM (enc d)):jt (ds.map enc)=bc (PI ds):=by
 have hn:(ds.map enc).length=ds.length:=bL _
 have CV:∀e∈ds.map enc,nM e:=λe he=>by obtain⟨d,hd,rfl⟩:=bz.1 he;exact hz d hd
 unfold jt PI;rw[ac9 ab CV,zTf ho,aC,bJ,cu,aH,aC,hn,df (show ¬((ds.length:Nat):Int)>200 by omega),cf,<- hn];have:=ada ab CV ds 0 KK (0,[]) rfl (bP _) ho (by have:=GV;omega) (bP _);dsimp only at this;rw[show((0:Nat):Int)=0 from rfl]at this;rw[this,aC]
 show((bif (!(decide ((ds.foldl YL (0,[])).1=0)))then bc bg else(O_ (ds.foldl YL (0,[])).2).bind λx5=>bc (decide (x5>8000)))).bind _=_
 rcases adC ds (0,[])with h|⟨h1,h2⟩
 .rw[h];unfold O_;simp only[decide_true,bJ,cf,aC,cl];by_cases h8:(Ku ds).length<=8000
  .rw[df ab,aP h8];rfl
  .rw[dt ab,aO h8];rfl
 .rw[h1,aO ab];rfl
def zta{l:List zN}(hl:l.length<=200)(hz:∀e∈l,nM e)(h:l.all okB=bd):jt l=bc ([],1):=by unfold jt;rw[ac9 ab hz,h];have:=zZ3 ab hz l 0 KK (0,[]) rfl (bP _) h (by have:=GV;omega) (bP _);dsimp only at this;rw[show((0:Nat):Int)=0 from rfl]at this;simp only[aC,cu,bJ,cf];rw[this];rfl
def zTg(k:Nat)(h):(@HX ⟨k+500,h⟩)=bc bg:=by kernel_rfl
def zLs[i:Fuel]:HX=bc bg:=by
 obtain⟨n,h⟩:=i
 obtain⟨k,rfl⟩:∃k,n=k+500:=⟨n-500,ab⟩
 exact zTg k h
def zZ5{l:List zN}{s:ak}{b:Bool}(hi:l.length<=10000)(hz:∀e∈l,nM e):∀(r:List zN)(i K:Nat)(a:Bool),l.drop i=r->i<=l.length->r.length<K->yU l s b K (a,(i:Int))=bc (a&&r.all okB)
 |[],i,K,a,hd,hl,hK=>by
  obtain⟨K,rfl⟩:∃k,K=k+1:=⟨K-1,by simp at hK;omega⟩
  have:=drop_nil hd hl;subst this;rw[yU];dsimp only;rw[xQ,gh,eO];rfl
 |e::r,i,K,a,hd,hl,hK=>by
  obtain⟨K,rfl⟩:∃k,K=k+1:=⟨K-1,by simp at hK;omega⟩
  obtain⟨g1,g2,g3⟩:=yZ hd;rw[yU];dsimp only;rw[kG g1,aH,zW g1];simp only[aC];rw[YP (hz _ (bG g1)),yw ab,cv]
  have e1:(bif a then(bc (okB e)).bind λx3=>bc x3 else bc bd)=bc (a&&okB e):=by cases a<;>rfl
  rw[e1,aC,zZ5 hi hz r (i+1) K (a&&okB e) g2 ab (by simp only[lc]at hK;omega),Bool.and_assoc]
def Xd{ds:List Ed}(h:(Ku ds).length<=8000):PI ds=(Ku ds,0):=aP h
def zzi(l:List zN)(s:ak):jz l s=bc bg:=by
 unfold jz;rw[zLs,aC];obtain⟨b,hb,hf⟩:=zSz (l:=l);rw[hb,aC]
 cases b with
 |false=>rfl
 |true =>
  obtain⟨h6,hD⟩:=hf rfl
  have hz:∀e∈l,nM e:=λe he=>(hD e he).sz
  rw[bJ,cf,aC];by_cases hs:s.length<=400
  .rw[df (show ¬((s.length:Nat):Int)>400 by omega),cf];have h1:=zZ5 (s:=s) (b:=bg) ab hz l 0 KK bg rfl (bP _) (by have:=GV;omega);rw[show((0:Nat):Int)=0 from rfl,cb]at h1;rw[h1,aC]
   -- what is printed
   have hA:∃x:ak×Int,jt l=bc x/\(l.all okB==(!(decide (x.2=1))))=bg/\(x.2=0->wc x.1=bc (l,0)):=by
    cases ho:l.all okB with
    |false=>exact⟨_,zta ab hz ho,rfl,λh=>by cases h⟩
    |true =>
     obtain⟨ds,rfl,g2⟩:=zGw ho;rw[bL]at h6;refine⟨_,XY ab g2 λd hd=>hz _ (cm hd),?_⟩;by_cases h8:(Ku ds).length<=8000
     .rw[Xd h8];exact⟨rfl,λ_=>zh0 g2 ab h8⟩
     .rw[show PI ds=([],6) from aO h8];exact⟨rfl,λh=>by cases h⟩
   obtain⟨x,p1,p2,p3⟩:=hA;rw[p1,aC,p2,bJ,cf]
   have hB:((bif (decide (x.2=0))then(wc x.1).bind λx7=>aN ((bif (!(decide (x7.2=0)))then bc bg else(u7 l x7.1).bind λx9=>bc (!x9))) λx8=>(bif x8 then bc (bp bd)else bc (br ()))else bc (br ())):Option (Bool⊕Unit))=bc (br ()):=by
    by_cases h0:x.2=0
    .rw[dt h0,aH,p3 h0,aC];dsimp only;rw[zp1 ab hz];rfl
    .rw[df h0];rfl
   rw[hB,aC]
   -- what is read
   obtain⟨m,f,q1,q2,q3⟩:=zGo (s:=s) ab
   show(wc s).bind _=_
   rw[q1,aC];dsimp only;by_cases h0:f=0
   .obtain⟨ds,rfl,⟨g1,g2⟩,g3⟩:=q3 h0
    have CV:∀d∈ds,nM (enc d):=λd hd=>zZ2 (g1 d hd).1 (by have:=(g1 d hd).2;omega)
    have ho:∀d∈ds,d.ok:=λd hd=>(g1 d hd).1
    rw[dt h0,bJ,cf,XY g3 ho CV,Xd ab,aC];dsimp only;rw[zh0 ho g3 ab,aC];dsimp only;rw[XY g3 ho CV,Xd ab,aC];dsimp only
    rw[zp1 (by rw[bL];omega) λe he=>by
     obtain⟨d,hd,rfl⟩:=bz.1 he
     exact CV d hd]
    simp
   .rw[df h0,q2 h0];rfl
  .rw[dt (show((s.length:Nat):Int)>400 by omega)];rfl
end Go.Proofs.YtmjfiffpolkdeaaGreatDoor
