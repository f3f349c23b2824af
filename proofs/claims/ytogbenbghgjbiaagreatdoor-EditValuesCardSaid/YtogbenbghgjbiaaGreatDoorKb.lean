/- texts that the proof reaches, part 2 -/
import Derived.Test.YtogbenbghgjbiaaGreatDoorKa
import Derived.Sort.Row
import Derived.Sort.Grow
import Derived.Lib.SlicesCompact
import Derived.MapKept
import Derived.Maps.RangeRun
import Derived.Laws.MakeOwn
import Derived.Scope
import Derived.Laws.BytesArg
import Derived.Lib.FrozenHead
import Derived.Laws.IdiomRangeMap
set_option linter.all false
open Array renaming getElem?_eq_some_iff->bw,getD_eq_getD_getElem?->cT,getElem?_replicate->ez,toList_append->eE,size_append->eP,getElem?_eq_getElem->eZ,toList_modify->fT,toList_push->gH
open Bool renaming false->bf,true->bh,not_eq_true'->bX,or_eq_true->dk
open Go renaming Program->bo,Value->bx,World->bF,Operand->bI,TypeId->bK,execOp->bP,Deferred->cr
open Int renaming toNat->bj,mul_comm->iF,natCast_mul->iX
open List renaming length->ba,all_eq_true->bl,replicate->bp,getElem?_eq_some_iff->bq,mem_cons->bu,getElem?_eq_getElem->bA,getD_eq_getElem?_getD->bB,mem_append->bJ,mem_map->bL,length_map->bM,mem_append_left->bQ,mem_of_getElem?->bW,length_take->bY,length_set->cb,getElem?_take->cj,mem_append_right->cq,contains_eq_mem->cv,nil_append->cw,eq_nil_of_length_eq_zero->cy,getElem?_map->cz,length_drop->cF,nodup_append->cK,append_nil->cL,flatten_cons->cN,isEmpty->cO,map->cQ,size_toArray->cS,map_map->cU,getElem?_drop->cW,map_append->cX,nodup_nil->cZ,range->dn,take_of_length_le->du,length_nil->dw,perm_append_comm->dx,take_left->dz,map_nil->dC,take->dF,pairwise_cons->dG,getElem?_set->dH,getElem_of_mem->dL,drop->dN,mem_filter->dO,getElem_mem->dS,drop_zero->dW,drop_append_of_le_length->dV,getElem?_replicate->dY,map_take->ef,mem_nil_iff->eg,drop_drop->ej,take_append_drop->ek,map_drop->eA,flatten_append->eB,length_pos_iff->eC,append_eq_nil_iff->eG,pairwise_append->eU,mem_of_mem_take->eW,map_congr_left->fa,mem_filterMap->fh,map_replicate->fg,set_eq_take_append_cons_drop->fw,drop_take->fD,mem_flatten->fI,mem_of_mem_drop->fQ,getElem?_set_ne->fP,getElem_modify->fW,replicate_succ->fV,pairwise_iff_getElem->gB,filter_map->gU,length_modify->iq,map_set->iE,drop_left->lf,mem_set->lu
open Nat renaming beq->bm,mul_le_mul_right->ck,zero_add->cl,ble->cm,beq_refl->cC,zero_le->cH,le_trans->cY,add_mul->da,succ_mul->dh,add_zero->dK,ble_eq_true_of_le->dP,lt_of_lt_of_le->dT,zero_mul->ee,min_eq_left->eH,one_mul->eT,add_assoc->ff,le_refl->fv,le_mul_of_pos_right->ft,le_of_eq->fY,mul_one->gE,lt_irrefl->gJ,add_comm->gS
open Option renaming some->aY,none->bg,map_eq_some_iff->ca,map_some->de,bind_eq_some_iff->dp,getD_some->dB
namespace Go.EV
open Go Go.RowKit Go.lG
section
variable{K0:List Nat}{c:Ctx K0}{P:bo}{r:Option Nat}{N:Nat}{all:List Oper}{ds:List cr}
def Ip(c:Ctx K0)(N:Nat)(ds:List cr)(e:Nat->V)(η:HF)(a:Act)(w:bF):Prop:=
 wm c ds w/\∃ρr ρ H,pV N ds a ρr/\ρ.get=e/\H.get=η/\Kc c ρ H ρr w
def zs3{fp:FP}{e e1:Nat->V}{η pG:HF}{a:Act}{w:bF}{n:Nat}{Q:Exit->Act->bF->Prop}{KK:Act->bF->Prop}(hs:o8 P N all fp e η e1 pG)(S:Ip c N ds e η a w)(h:∀a' w',Ip c N ds e1 pG a' w'->KK a' w'):wpOpIn (Fw r) n P all.toArray Q fp.i KK a w:=by
 obtain⟨o,v,ho,hn,hd,rfl,aip⟩:=hs;obtain⟨hM,ρr,ρ,H,hf,rfl,rfl,SA⟩:=S;obtain⟨m,Z,SC,hR⟩:=id SA
 have aaJ:∀{x:bx}{H1:aw}{m':M}{Z':ZM}{w':bF},wm c ds w'->W4 c m' Z' H1 w'->rM m' Z' ρ ρr->aT (aY m') Z' v x->Ip c N ds (sE o.dst v ρ.get) H1.get (a.put o.dst x) w':=by
  intro x H1 m' Z' w' mW S' E8 hx
  cases afJ:o.dst with
  |none=>exact⟨mW,ρr,ρ,H1,hf.Gm _,rfl,rfl,m',Z',S',E8⟩
  |some d=>exact⟨mW,l3 ρr d x,(d,v)::ρ,H1,hf.put (Nat.lt_of_succ_le (hd d afJ)) x,rfl,rfl,m',Z',S',E8.put d hx⟩
 have Bw:all.toArray[fp.i]?=aY o:=by simpa using ho
 unfold wpOpIn;simp only[Bw]
 rcases aip with⟨hw,rfl,rfl,_,_⟩|⟨hw,F,R,F',hl,nI,hnF,pF,_,_,ra,mU,rfl,_⟩
 .have rH:=(hf.wanted all o).trans (xf hR hw);simp only[rH,Bool.false_eq_true,if_false];exact⟨λ_ _=>trivial,h _ _ (aaJ hM SC hR rfl)⟩
 .have rH:=(hf.wanted all o).trans (xf hR hw);simp only[rH,if_true];refine⟨λ_ _=>trivial,?_⟩;rw[AJ hn,hf.eval];have hHn:=SC.step.iW.nodup
  have Uw:(keys (F++R)).Nodup:=by rw[zA]at nI ⊢;obtain⟨_,h2,h3⟩:=cK.1 nI;exact cK.2 ⟨hnF,h2,λa ha b hb=>h3 a (pF a ha) b hb⟩
  have sS:kO (keys (F++R)) H=aY (F++R):=MB ra
  have abf:o7 (F'++R) (keys (F++R)) H=bh:=bl.2 λp hp=>by
   simp only[dk,cv,aU,bX,aW];rw[zA,bJ]
   rcases bJ.1 hp with hp|hp
   .by_cases G5:p.1∈keys F
    .exact .inl (.inl G5)
    .exact .inr (get_none.2 (mU p.1 (ax hp) G5))
   .exact .inl (.inr (ax hp))
  have aiA:=j6 hHn Uw sS;have aaM:w8 m Z ((F++R)++js (keys (F++R)) H) w:=SC.step.iW.perm aiA
  obtain⟨CS,hex⟩:=hl ρr m Z w (λx _=>by rw[Rz];exact hR.ev x) aaM.left (λk hk pI=>SC.pa k (by
   obtain⟨p,ka,rfl⟩:=bL.1 hk;have:=(bl.1 abf) p ka;simp only[dk,cv,aU,bX,aW]at this
   rcases this with this|this
   .exact aQ this pI
   .exact this))
  have aiv:((F'++R)++js (keys (F++R)) H).get=YQ F' H.get:=by
   funext k
   rw[get_append];by_cases h1:k∈keys (F'++R)
   .rw[aO h1,get_append];by_cases h2:k∈keys F'
    .simp[YQ,h2]
    .rw[aN h2,xz h2]
     have h3:k∈keys R:=by rw[zA,bJ]at h1;exact h1.resolve_left h2
     obtain⟨p,hp,rfl⟩:=bL.1 h3;rw[ra p (cq _ hp)]
     have hnR:(keys R).Nodup:=by rw[zA]at nI;exact(cK.1 nI).2.1
     exact get_of_mem hnR hp
   .rw[aN h1];rw[zA,bJ,not_or]at h1;rw[xz h1.1];exact HJ (by rw[zA,bJ];exact λh'=>h'.elim (λh'=>h1.1 (pF k h')) h1.2)
  have go:∀x w',(∃m' Z',Step m Z (F++R) w m' Z' (F'++R) w'/\aT (aY m') Z' v x)->KK (a.put o.dst x) w':=λx w' ⟨m',Z',gy,hr⟩=>by refine h _ _ ?_;rw[<- aiv];exact aaJ (hM.step aaM.left gy) (SC.NL (zgq Uw) sS abf λ_ _=>gy) (hR.up gy.o4 gy.pM) hr
  rcases hex with⟨x,w',mO,hx⟩|⟨w',mO,hx⟩|⟨f,args,w1,mO,hx⟩
  .rw[mO,Oper.uponIn_value];exact go x w' hx
  .rw[mO,Oper.uponIn_skip];exact go _ w' hx
  .rw[mO,Oper.uponIn_enter];refine⟨λhx=>by simp[Fw]at hx,(JE r hx).mono λen tM ⟨x,he,hr⟩=>?_⟩;subst he;exact go x tM hr
def zs4{L:List FP}{i:Nat}(h:i∈L.map (·.i)):∃l1 b l2,L=l1++b::l2/\b.i=i:=by obtain⟨b,hb,rfl⟩:=bL.1 h;obtain⟨l1,l2,rfl⟩:=List.append_of_mem hb;exact⟨l1,b,l2,rfl,rfl⟩
def zC1(hE:FQ all=bh){Q:Exit->Act->bF->Prop}{n:Nat}{e2:Nat->V}{η2:HF}(hQ:∀a w,Ip c N ds e2 η2 a w->Q .normal a w):∀(fuel:Nat)(L:List FP)(listed:Array Bool)(e:Nat->V)(η:HF)(a:Act)(w:bF),
  Cf P N all L e η e2 η2->qs all (Ky all []) L=bh->(L.map (·.i)).Pairwise (· < ·)->(∀i,i<all.length->(listed.getD i bf=bf↔i∈L.map (·.i)))->(∀i∈L.map (·.i),i<all.length)->FK all.toArray listed->listed.size=all.length->L.length<=fuel ->
  Ip c N ds e η a w->wpAnyIn (Fw r) n P .any all.toArray Q fuel listed a w:=by
 intro fuel
 have ai8:∀(L:List FP)(listed:Array Bool),(L.map (·.i)).Pairwise (· < ·)->(∀i,i<all.length->(listed.getD i bf=bf↔i∈L.map (·.i)))->(∀i∈L.map (·.i),i<all.length)->listed.size=all.length->Region.ready .any all.toArray listed=[]->L=[]:=by
  intro L listed hp hl ib h_ hr
  cases L with
  |nil=>rfl
  |cons b L =>
   exfalso;have hb:=ib b.i ae
   have l5:b.i∈Region.ready .any all.toArray listed:=by
    refine mem_ready.2 ⟨?_,all[b.i]'hb,by simpa using bA hb,λe' CO ag5=>?_⟩
    .have:=(hl b.i hb).2 ae;have EJ:b.i<listed.size:=ab;simp only[cT,eZ EJ,dB]at this ⊢;exact this
    .have SY:=zne hE (bA hb) CO ag5
     cases hq:listed.getD e'.on bf with
     |true=>rfl
     |false =>
      have:=(hl e'.on ab).1 hq;rw[ij]at this hp
      rcases bu.1 this with h'|h'
      .rw[h']at SY;exact aQ SY (gJ _)
      .have h2:=(dG.1 hp).1 _ h';exact aQ (Nat.lt_trans SY h2) (gJ _)
   rw[hr]at l5;cases l5
 induction fuel with
 |zero =>
  intro L listed e η a w Lt _ hp hl ib hc h_ hlen S;have:L=[]:=cy ab;subst this;cases Lt;refine⟨?_,hQ a w S⟩
  refine List.eq_nil_iff_forall_not_mem.2 λj hj=>?_
  obtain⟨h1,o,ho,_⟩:=mem_ready.1 hj
  have rU:j<all.length:=by have:=(bw.1 ho).1;simpa using this
  have EJ:j<listed.size:=ab
  have:listed.getD j bf=bf:=by simp only[cT,eZ EJ,dB]at h1 ⊢;exact h1
  have:=(hl j rU).1 this;cases this
 |succ fuel ih =>
  intro L listed e η a w Lt OB hp hl ib hc h_ hlen S;refine⟨λhr=>?_,λj hj=>?_⟩
  .have:=ai8 L listed hp hl ib h_ hr;subst this;cases Lt;exact hQ a w S
  .obtain⟨h1,o,ho,rA⟩:=mem_ready.1 hj
   have rU:j<all.length:=by have:=(bw.1 ho).1;simpa using this
   have Lx:j<listed.size:=ab
   have hjf:listed.getD j bf=bf:=by simp only[cT,eZ Lx,dB]at h1 ⊢;exact h1
   obtain⟨l1,b,l2,rfl,rfl⟩:=zs4 ((hl j rU).1 hjf);obtain⟨lR,afI⟩:=Wc OB;have UY:((l1++b::l2).map (·.i)).Pairwise (· < ·):=hp;rw[cX,ij,eU]at UY;obtain⟨OS,hp2,UX⟩:=UY;have aaI:=dG.1 hp2
   have afQ:∀x∈l1,FO all x b=bh:=λx hx=>by
    rcases lR x hx with h'|h'
    .exfalso;have U6:=zp6 hE hc b.i o (by simpa using ho) rA x.i h';have hxn:x.i<all.length:=ib x.i (by simp;exact .inl ⟨x,hx,rfl⟩);have:=(hl x.i hxn).2 (by simp;exact .inl ⟨x,hx,rfl⟩);rw[U6]at this;cases this
    .exact h'
   obtain⟨e1,pG,nv,afH⟩:=Lt.front afQ
   refine zs3 nv S λa' w' S'=>ih (l1++l2) _ e1 pG a' w' afH afI ?_ ?_ ?_ (hc.set hj) (by simpa using h_) (by simp at hlen ⊢;omega) S'
   .rw[cX,eU];exact⟨OS,aaI.2,λx hx y hy=>UX x hx y (iO _ hy)⟩
   .intro i hi;have lD:i=b.i∨i≠b.i:=Decidable.em _
    rcases lD with rfl|lD
    .have S8:b.i ∉ (l1++l2).map (·.i):=by
      rw[cX,bJ];rintro(h'|h')
      .have:=UX _ h' b.i ak;omega
      .have:=aaI.1 _ h';omega
     have h9:(listed.setIfInBounds b.i bh).getD b.i bf=bh:=by simp[Lx]
     rw[h9];exact⟨λh'=>(by cases h'),λh'=>aQ h' S8⟩
    .rw[getD_set_ne bf (Ne.symm lD),hl i hi];simp only[cX,ij,bJ,bu,lD,false_or]
   .intro i hi;refine ib i ?_;rw[cX,bJ]at hi;simp only[cX,ij,bJ,bu]
    rcases hi with hi|hi
    .exact .inl hi
    .exact .inr (.inr hi)
def zgr(l:List Oper):FK l.toArray (Array.replicate l.length bf):=by intro j o hj _;exfalso;simp only[cT,ez]at hj;split at hj<;>cases hj
def uJ(P:bo)(N:Nat)(all:List Oper)(done:List FP)(l:List Oper)(ρ:Env)(H:aw)(K:Env->aw->Prop):Prop:=
 ∃CJ ρ' H',(keys H).Nodup->(CJ.map (·.i)=List.range' (all.length-l.length) l.length/\Cf P N all CJ ρ.get H.get ρ'.get H'.get/\(keys H').Nodup/\qs all (Ky all []) (done.reverse++CJ)=bh/\K ρ' H')
variable{ρ:Env}{H:aw}{Q:xF}
def IG{id:Nat}(hm:P.follows .mixedOrders=bh)(hE:FQ all=bh)(h:uJ P N all [] all ρ H λρ' H'=>Q .normal ρ' H' ds):l9 c P r N (.region id all.toArray bh) Q ρ H ds:=by
 intro ρr w mj S hM a n hf;obtain⟨CJ,ρ',H',h⟩:=h;obtain⟨m,Z,SC,hR⟩:=S;obtain⟨h1,h2,h3,h4,h5⟩:=h SC.step.iW.nodup
 have ais:Kc c ρ H ρr w.drew:=⟨m,Z,⟨SC.step.trans (Step.same SC.step.iW rfl rfl rfl rfl),SC.pa⟩,hR⟩
 rw[Nat.sub_self]at h1;refine wpIn_region_any hm ?_
 have abh:∀i,i∈CJ.map (·.i)↔i<all.length:=λi=>by rw[h1,List.mem_range'];simp
 refine zC1 (c:=c) (ds:=mj) (r:=r) hE (e2:=ρ'.get) (η2:=H'.get) (λa' w' S'=>?_) all.toArray.size CJ _ ρ.get H.get a _ h2 (by simpa using h4) ?_ ?_ ?_ ?_ ae ?_ ⟨hM.same rfl,ρr,ρ,H,hf,rfl,rfl,ais⟩
 .obtain⟨mW,Cu,nO,H2,nR,e1,e2,m',Z',KS,E8⟩:=S';refine⟨Cu,mj,nR,ρ',H',?_,mW,h5⟩
  have hp:H2.Perm H':=Kz KS.step.iW.nodup h3 λk=>by rw[e2]
  have:Kc c ρ' H2 Cu w':=⟨m',Z',KS,λt=>by rw[<- e1];exact E8 t⟩
  exact this.perm hp
 .rw[h1];exact List.pairwise_lt_range'
 .intro i hi;rw[abh];simp only[cS,cT,ez];rw[aO hi];simp[hi]
 .exact λi hi=>(abh i).1 hi
 .have:=zgr all;simpa using this
 .have:=aP ba h1;simp at this;simp[this]
end
section
variable{P:bo}{N:Nat}{all rest:List Oper}{done:List FP}{ρ:Env}{H:aw}{K:Env->aw->Prop}{o:Oper}
def By(hc:qs all (Ky all []) done.reverse=bh)(h:K ρ H):uJ P N all done [] ρ H K:=⟨[],ρ,H,λhn=>⟨rfl,.nil,hn,by simpa using hc,h⟩⟩
def RS{fp:FP}{l0:Env}{H1:aw}(hi:fp.i=all.length-(rest.length+1))(hlen:rest.length+1<=all.length)(hs:(keys H).Nodup->(keys H1).Nodup/\o8 P N all fp ρ.get H.get l0.get H1.get)(h:uJ P N all (fp::done) rest l0 H1 K):uJ P N all done (o::rest) ρ H K:=by
 obtain⟨CJ,ρ',H',h⟩:=h;refine⟨fp::CJ,ρ',H',λhn=>?_⟩;obtain⟨mN,hs⟩:=hs hn;obtain⟨h1,h2,h3,h4,h5⟩:=h mN;refine⟨?_,.cons hs h2,h3,by simpa using h4,h5⟩;rw[ij,h1,lc,List.range'_succ,hi]
 congr 2
 omega
def WL(i:Nat)(hi:(all.length-(rest.length+1))=i)(hlen:cm (rest.length+1) all.length=bh)(ho:all[i]?=aY o)(hn:vu o.op=bh)(hd:(match o.dst with|some d=>cm (d+1) N|none=>bh)=bh)(hw:ye all ρ o=aY bf)
  (h:uJ P N all (.m i [] []::done) rest (W7 o.dst .no ρ) H K):uJ P N all done (o::rest) ρ H K:=by refine RS hi.symm (mi hlen) (λnI=>⟨nI,o,.no,ho,hn,λd mA=>?_,PX _ _ _,.inl ⟨hw,rfl,rfl,rfl,rfl⟩⟩) h;rw[mA]at hd;exact mi hd
def Bz{F R F':aw}{v:V}(i:Nat)(kF kR:List Nat)(hi:(all.length-(rest.length+1))=i)(hlen:cm (rest.length+1) all.length=bh)(ho:all[i]?=aY o)(hn:vu o.op=bh)(hd:(match o.dst with|some d=>cm (d+1) N|none=>bh)=bh)(hw:ye all ρ o=aY bh)
  (hF:kO kF H=aY F) (hR:kO kR H=aY R) (nI:nodupB (keys F'++kR)=bh) (S7:nodupB kF=bh) (pF:(kF.all (keys F').contains)=bh) (lR:(F'.all λp=>kF.contains p.1||!wj p.1 H)=bh)
  (hl:Loc P o ρ (F++R) v (F'++R)) (h:uJ P N all (.m i (keys F') kR::done) rest (W7 o.dst v ρ) (F'++js kF H) K):uJ P N all done (o::rest) ρ H K:=by
 obtain⟨BZ,GL⟩:=yX hF;obtain⟨Bs,GO⟩:=yX hR;refine RS hi.symm (mi hlen) (λD5=>?_) h
 have Ju:∀p∈F',p.1 ∉ kF->p.1 ∉ keys H:=λp hp hk G1=>by
  have:=(bl.1 lR) p hp;simp only[dk,cv,aU,bX]at this
  rcases this with h'|h'
  .exact hk h'
  .rw[yt.2 G1]at h';cases h'
 have TF:(keys F').Nodup:=(cK.1 (yB nI)).1
 have TG:(keys (js kF H)).Nodup:=by
  have:(keys (js kF H))=(keys H).filter (λk=>!kF.contains k):=by simp only[keys,js];rw[gU];rfl
  rw[this];exact D5.filter _
 refine⟨?_,o,v,ho,hn,λd mA=>?_,PX _ _ _,.inr ⟨hw,F,R,F',?_,?_,?_,?_,rfl,Bs,λp hp=>?_,λk hk pI=>?_,?_,WK⟩⟩
 .rw[zA];refine cK.2 ⟨TF,TG,λa ha b hb e=>?_⟩;subst e;obtain⟨p,hp,rfl⟩:=bL.1 ha;obtain⟨q,hq,e⟩:=bL.1 hb;have mZ:=dO.1 hq
  have OO:p.1 ∉ kF:=by have:=mZ.2;simp only[bX,cv,aW]at this;rw[<- e];exact this
  exact Ju p hp OO (by rw[<- e];exact ax mZ.1)
 .rw[mA]at hd;exact mi hd
 .exact Bb.congr (g:=aV ρ) hl λx _=>Rz ρ x
 .rw[zA,Bs];exact yB nI
 .rw[BZ];exact yB S7
 .intro k hk;rw[BZ]at hk;have:=(bl.1 pF) k hk;simpa using this
 .rcases bJ.1 hp with hp|hp
  .exact get_of_mem D5 (GL p hp)
  .exact get_of_mem D5 (GO p hp)
 .obtain⟨p,hp,rfl⟩:=bL.1 hk;exact get_none.1 (Ju p hp (BZ▸pI))
 .funext k
  rw[get_append];by_cases h1:k∈keys F'
  .simp[YQ,h1]
  .rw[aN h1,xz h1]
   refine HJ λhk=>h1 ?_
   have:=(bl.1 pF) k hk;simpa using this
end
def ag4(i:Nat):Gs->FP
 |.pure _=>.m i [] []
 |.read k _=>.m i [] [k]
 |.write k _ _=>.m i [k] []
 |.new k _ _=>.m i [k] []
def YR(H:aw):Gs->Option (V×aw)
 |.pure v=>aY (v,H)
 |.read _ v=>aY (v,H)
 |.write k o v=>aY (v,(k,o)::js [k] H)
 |.new k o v=>bif wj k H then bg else aY (v,(k,o)::H)
def KA:Op->Bool|.defer _=>bf|_=>bh
def C_(P:bo)(all:List Oper)(N:Nat):Nat->List Oper->Env->aw->List FP->Option (Env×aw×List FP)
 |_,[],ρ,H,done=>aY (ρ,H,done)
 |i,o::r,ρ,H,done=>bif (match o.dst with|some d=>cm (d+1) N|none=>bh)&&KA o.op then
   match ye all ρ o with
   |some bf=>C_ P all N (i+1) r (W7 o.dst .no ρ) H (.m i [] []::done)
   |some bh=>match Me P ρ H (o.dst.getD 0) o.op with
    |some e=>match YR H e with
     |some (v,H')=>C_ P all N (i+1) r (W7 o.dst v ρ) H' (ag4 i e::done)
     |none=>bg
    |none=>bg
   |none=>bg
  else bg
section
variable{P:bo}{N:Nat}{all rest:List Oper}{ρ:Env}{H H':aw}{K:Env->aw->Prop}
def oJ{op:Op}(h:KA op=bh):vu op=bh:=by cases op<;>first|rfl|cases h
def RT:∀(l:List Oper)(i:Nat)(ρ:Env)(H:aw)(done:List FP)(ρ':Env)(H':aw)(Cz:List FP),all.drop i=l++rest->C_ P all N i l ρ H done=aY (ρ',H',Cz) ->
  uJ P N all Cz rest ρ' H' K->uJ P N all done (l++rest) ρ H K
 |[],i,ρ,H,done,ρ',H',Cz,_,hr,h=>by
  simp only[C_,Option.some.injEq,Prod.mk.injEq]at hr;obtain⟨rfl,rfl,rfl⟩:=hr;exact h
 |o::l,i,ρ,H,done,ρ',H',Cz,Gi,hr,h=>by
  have pf:i<all.length:=by have:=aP ba Gi;simp at this;omega
  have hlen:all.length-i=(l++rest).length+1:=by have:=aP ba Gi;simpa[ff]using this
  have EH:all.length-((l++rest).length+1)=i:=ab;have Jb:cm ((l++rest).length+1) all.length=bh:=dP ab
  have ho:all[i]?=aY o:=by have:=aP (λx=>x[0]?) Gi;simpa using this
  have abe:all.drop (i+1)=l++rest:=by have:=aP (dN 1) Gi;simpa[ej]using this
  simp only[C_]at hr
  cases hd:((match o.dst with|some d=>cm (d+1) N|none=>bh)&&KA o.op)with
  |false=>rw[hd]at hr;cases hr
  |true =>
   rw[hd,ct]at hr;simp only[bn]at hd;have hn:=oJ hd.2;split at hr
   .rename_i hw;exact WL i EH Jb ho hn hd.1 hw (RT l (i+1) _ _ _ _ _ _ abe hr h)
   .rename_i hw;split at hr
    .rename_i e he;split at hr
     .rename_i v H1 hH;have ih:=RT l (i+1) _ _ _ _ _ _ abe hr h;have hl:=zm9 (P:=P) (o:=o) he
      cases e with
      |pure v' =>
       simp only[YR,Option.some.injEq,Prod.mk.injEq]at hH;obtain⟨rfl,rfl⟩:=hH;refine Bz (F:=[]) (R:=[]) (F':=[]) i [] [] EH Jb ho hn hd.1 hw rfl rfl rfl rfl rfl rfl hl ?_;rw[cw,oo];exact ih
      |read k v' =>
       simp only[YR,Option.some.injEq,Prod.mk.injEq]at hH;obtain⟨rfl,rfl⟩:=hH;obtain⟨ob,h1,h2⟩:=hl;refine Bz (F:=[]) (R:=[(k,ob)]) (F':=[]) i [] [k] EH Jb ho hn hd.1 hw rfl (Q8 h1) rfl rfl rfl rfl h2 ?_;rw[cw,oo];exact ih
      |write k ob v' =>
       simp only[YR,Option.some.injEq,Prod.mk.injEq]at hH;obtain⟨rfl,rfl⟩:=hH;obtain⟨tl,h1,h2⟩:=hl
       exact Bz (F:=[(k,tl)]) (R:=[]) (F':=[(k,ob)]) i [k] [] EH Jb ho hn hd.1 hw (Q8 h1) rfl rfl rfl (by simp[keys]) ae (by simpa using h2)
        ih
      |new k ob v' =>
       simp only[YR]at hH
       cases hk:wj k H with
       |true=>rw[hk]at hH;cases hH
       |false =>rw[hk]at hH;simp only[cf,Option.some.injEq,Prod.mk.injEq]at hH;obtain⟨rfl,rfl⟩:=hH;refine Bz (F:=[]) (R:=[]) (F':=[(k,ob)]) i [] [] EH Jb ho hn hd.1 hw rfl rfl rfl rfl rfl (by simp[hk]) (by simpa using hl) ?_;rw[oo];exact ih
     .cases hr
    .cases hr
   .cases hr
def XA(n:Nat)(i:Nat){l:List Oper}{done Cz:List FP}(ρ':Env)(H':aw)(hi:all.drop i=l)(hr:C_ P all N i (l.take n) ρ H done=aY (ρ',H',Cz))(h:uJ P N all Cz (l.drop n) ρ' H' K):uJ P N all done l ρ H K:=by
 have:=RT (rest:=l.drop n) (l.take n) i ρ H done ρ' H' Cz (by rw[ek];exact hi) hr h
 rwa [ek]at this
end
section
variable{K0:List Nat}{c:Ctx K0}{P:bo}{r:Option Nat}{N:Nat}{Q:xF}{ρ:Env}{H H':aw}{ds:List cr}{all rest l:List Oper}{o:Oper}{x:Code}{K:Env->aw->Prop}{done Cz:List FP}
def C'(N:Nat)(o:Oper):Bool:=match o.dst with|some d=>cm (d+1) N|none=>bh
def zHl(n:Nat)(tX:Env)(hr:C0 P all N (l.take n) ρ H=aY (tX++ρ,H))(h:HH c P r N all Q (l.drop n) (tX++ρ) H ds):HH c P r N all Q l ρ H ds:=Xw n _ _ hr h
def j3(n:Nat)(tX:Env)(H':aw)(hr:C0 P all N (l.take n) ρ H=aY (tX++ρ,H'))(h:HH c P r N all Q (l.drop n) (tX++ρ) H' ds):HH c P r N all Q l ρ H ds:=Xw n _ _ hr h
def zHm{v:V}(hw:ye all ρ o=aY bh)(hd:C' N o=bh)(hl:Loc P o ρ [] v [])(h:HH c P r N all Q rest (W7 o.dst v ρ) H ds):HH c P r N all Q (o::rest) ρ H ds:=YP [] hd hw rfl rfl hl rfl (by rw[cw,oo];exact h)
def vw{F F':aw}{v:V}(ks:List Nat)(hw:ye all ρ o=aY bh)(hd:C' N o=bh)(ml:nodupB ks=bh)(hF:kO ks H=aY F)(hl:Loc P o ρ F v F')(lR:o7 F' ks H=bh)
  (h:HH c P r N all Q rest (W7 o.dst v ρ) (F'++js ks H) ds):HH c P r N all Q (o::rest) ρ H ds:=YP ks hd hw ml hF hl lR h
def vG(n i:Nat)(tX:Env)(nw:List FP)(hi:all.drop i=l)(hr:C_ P all N i (l.take n) ρ H done=aY (tX++ρ,H,nw++done))(h:uJ P N all (nw++done) (l.drop n) (tX++ρ) H K):uJ P N all done l ρ H K:=XA n i _ _ hi hr h
def zHn(n i:Nat)(tX:Env)(H':aw)(nw:List FP)(hi:all.drop i=l)(hr:C_ P all N i (l.take n) ρ H done=aY (tX++ρ,H',nw++done))(h:uJ P N all (nw++done) (l.drop n) (tX++ρ) H' K):uJ P N all done l ρ H K:=XA n i _ _ hi hr h
def Kj{v:V}(i:Nat)(hi:(all.length-(rest.length+1))=i)(hlen:cm (rest.length+1) all.length=bh)(ho:all[i]?=aY o)(hn:vu o.op=bh)(hw:ye all ρ o=aY bh)(hd:C' N o=bh)(hl:Loc P o ρ [] v [])
  (h:uJ P N all (.m i [] []::done) rest (W7 o.dst v ρ) H K):uJ P N all done (o::rest) ρ H K:=Bz (F:=[]) (R:=[]) (F':=[]) i [] [] hi hlen ho hn hd hw rfl rfl rfl rfl rfl rfl hl (by rw[cw,oo];exact h)
def rJ:Nat->Nat->List FP
 |0,_=>[]
 |n+1,i=>.m i [] []::rJ n (i-1)
def zs7{id:Nat}(h:HH c P r N l Q l ρ H ds):l9 c P r N (.region id l.toArray bf) Q ρ H ds:=zyd h
def Cut(K0:List Nat)(ρ':Env)(H':aw)(l0:Env)(H1:aw):Prop:=∀(c:Ctx K0) ρr w,Kc c ρ' H' ρr w->Kc c l0 H1 ρr w
def Cut.trans{K0:List Nat}{l0 nO sv:Env}{H1 H2 H3:aw}(h:Cut K0 l0 H1 nO H2)(k:Cut K0 nO H2 sv H3):Cut K0 l0 H1 sv H3:=λc ρr w S=>k c ρr w (h c ρr w S)
def Cut.refl{K0:List Nat}{l0:Env}{H1:aw}:Cut K0 l0 H1 l0 H1:=λ_ _ _ S=>S
def zm(ts ks:List Nat){l0:Env}{H1:aw}(Gp:Er ts ρ=l0)(hH:kO ks H=aY H1)(OT:P0 K0 ts ks ρ H1=bh):Cut K0 ρ H l0 H1:=λc ρr w S=>by subst Gp;exact S.prune ts ks hH OT
def j8{F l0:aw}(ks:List Nat)(ml:nodupB ks=bh)(hF:kO ks H=aY F)(aem:k_ F++js ks H=l0):Cut K0 ρ H ρ l0:=λc ρr w S=>by subst aem;exact S.freeze ks ml hF
def Va(t d e sz:Nat)(h_:cm 1 sz=bh)(ht:ρ.get t=.gg)(hd:wj d H=bf):Cut K0 ρ H ((t,.sl sz d 0 0 0)::ρ) ((d,.row e sz 0 [])::H):=λc ρr w S=>S.TN t d e sz h_ ht hd
def Kc.view{ρr:zS}{w:bF}{t:Nat}{v:V}(R:aw)(ks:List Nat)(hR:kO ks H=aY R)(nW:k_ R=R)(hv:au R (ρ.get t) v)(S:Kc c ρ H ρr w):Kc c ((t,v)::ρ) H ρr w:=by
 obtain⟨m,Z,S,hr⟩:=S;refine⟨m,Z,S,λu=>?_⟩
 show aT (aY m) Z (bif bm u t then v else ρ.get u) (ρr u)
 cases hb:bm u t with
 |false=>exact hr u
 |true =>
  have:=eb hb;subst this;refine hv.rep (F:=R) (w:=w) (λk t' sz fz els hg=>?_) (hr u);have l5:=aw.get_mem hg;have h1:=S.step.iW.holds _ ((yX hR).2 _ l5)
  have:fz=els.length:=by
   rw[<- nW]at l5
   rcases j7 l5 with⟨k',VE,mo,rC,Cv,h2,h3⟩|⟨h2,h3⟩
   .simp only[Prod.mk.injEq,Obj.row.injEq]at h3;obtain⟨_,_,_,e1,e2⟩:=h3;rw[e1,e2]
   .exact aQ rfl (h3 t' sz fz els)
  subst this;exact h1
def jd{t:Nat}{v:V}(R:aw)(ks:List Nat)(hR:kO ks H=aY R)(nW:k_ R=R)(hv:au R (ρ.get t) v):Cut K0 ρ H ((t,v)::ρ) H:=λc ρr w S=>S.view R ks hR nW hv
def W8{l0:Env}{H1:aw}(Gp:ρ=l0)(hH:H=H1):Cut K0 ρ H l0 H1:=by subst Gp;subst hH;exact Cut.refl
def FR(t:Nat){v v':V}(h1:ρ.get t=v)(h2:v=v'):Cut K0 ρ H ((t,v')::ρ) H:=λc ρr w S=>by
 subst h2;obtain⟨m,Z,S,hr⟩:=S;refine⟨m,Z,S,λu=>?_⟩
 show aT (aY m) Z (bif bm u t then v else ρ.get u) (ρr u)
 cases hb:bm u t with
 |false=>exact hr u
 |true =>
  have:=eb hb;subst this;rw[<- h1];exact hr u
def ry(l0:Env)(H1:aw)(h:Cut K0 ρ H l0 H1)(k:l9 c P r N x Q l0 H1 ds):l9 c P r N x Q ρ H ds:=λρr w mj S hM=>k ρr w mj (h c ρr w S) hM
def aaQ(l0:Env)(H1:aw)(h:Cut K0 ρ H l0 H1)(k:HH c P r N all Q l l0 H1 ds):HH c P r N all Q l ρ H ds:=λρr w mj S hM=>k ρr w mj (h c ρr w S) hM
def Pm{S:Type}(K0:List Nat)(ds:List cr)(p:S->Prop)(l0:S->Env)(H1:S->aw)(Q:xF):xF
 |.normal,ρ',H',mL=>∃s,p s/\mL=ds/\Cut K0 ρ' H' (l0 s) (H1 s)
 |e,ρ',H',mL=>Q e ρ' H' mL
def xE{S:Type}(p:S->Prop)(l0:S->Env)(H1:S->aw)(h1:l9 c P r N x (Pm K0 ds p l0 H1 Q) ρ H ds)(h2:∀s,p s->Q .normal (l0 s) (H1 s) ds):l9 c P r N x Q ρ H ds:=
 λρr w mj SA hM=>YF (h1 ρr w mj SA hM) λe Cu mL w' ⟨ρ',H',S',mW,hQ⟩=>by
  cases e with
  |normal =>
   obtain⟨s,hp,_,hc⟩:=hQ;exact⟨_,_,hc c _ _ S',mW,h2 s hp⟩
  |exit id=>exact⟨ρ',H',S',mW,hQ⟩
  |goto l=>exact⟨ρ',H',S',mW,hQ⟩
  |ret=>exact⟨ρ',H',S',mW,hQ⟩
  |panic ch=>exact⟨ρ',H',S',mW,hQ⟩
  |outgrown=>exact⟨ρ',H',S',mW,hQ⟩
def zq{S:Type}{p:S->Prop}{l0:S->Env}{H1:S->aw}(s:S)(hp:p s)(h:Cut K0 ρ H (l0 s) (H1 s)):Pm K0 ds p l0 H1 Q .normal ρ H ds:=⟨s,hp,rfl,h⟩
def AM{S:Type}{p:S->Prop}{l0:S->Env}{H1:S->aw}(h:Q .ret ρ H ds):Pm K0 ds p l0 H1 Q .ret ρ H ds:=h
def IW{G:Type}(K0:List Nat)(ds:List cr)(env:G->Env)(hp:G->aw)(Inv:G->Prop)(nN:G->Nat)(g:G)(Q:xF):xF
 |.normal,ρ',H',mL=>mL=ds/\∃g',Inv g'/\nN g'<nN g/\Cut K0 ρ' H' (env g') (hp g')
 |e,ρ',H',mL=>Q e ρ' H' mL
def zyk{G:Type}(env:G->Env)(hp:G->aw)(Inv:G->Prop)(nN:G->Nat)(g0:G)(hi:Inv g0)(h0:Cut K0 ρ H (env g0) (hp g0))
  (Bj:∀g,Inv g->l9 c P r N x (IW K0 ds env hp Inv nN g Q) (env g) (hp g) ds):l9 c P r N (.loop x) Q ρ H ds:=by
 refine ry _ _ h0 ?_
 refine zG2 env hp Inv nN g0 hi λg hg=>?_
 intro ρr w mj SA hM
 refine YF (Bj g hg ρr w mj SA hM) λe Cu mL w' ⟨ρ',H',S',mW,hQ⟩=>?_
 cases e with
 |normal =>
  obtain⟨_,g',B2,ib,hc⟩:=hQ;exact⟨_,_,hc c _ _ S',mW,rfl,g',rfl,rfl,B2,ib⟩
 |exit id=>exact⟨ρ',H',S',mW,hQ⟩
 |goto l=>exact⟨ρ',H',S',mW,hQ⟩
 |ret=>exact⟨ρ',H',S',mW,hQ⟩
 |panic ch=>exact⟨ρ',H',S',mW,hQ⟩
 |outgrown=>exact⟨ρ',H',S',mW,hQ⟩
def zyl{G:Type}{env:G->Env}{hp:G->aw}{Inv:G->Prop}{nN:G->Nat}{g:G}(g':G)(hi:Inv g')(adw:nN g'<nN g)(h:Cut K0 ρ H (env g') (hp g')):IW K0 ds env hp Inv nN g Q .normal ρ H ds:=⟨rfl,g',hi,adw,h⟩
def zym{G:Type}{env:G->Env}{hp:G->aw}{Inv:G->Prop}{nN:G->Nat}{g:G}(h:Q .ret ρ H ds):IW K0 ds env hp Inv nN g Q .ret ρ H ds:=h
def zs9{G:Type}{env:G->Env}{hp:G->aw}{Inv:G->Prop}{nN:G->Nat}{g:G}{id:Nat}(h:Q (.exit id) ρ H ds):IW K0 ds env hp Inv nN g Q (.exit id) ρ H ds:=h
def M'{S Z:Type}(K0:List Nat)(ds:List cr)(env:S->Env)(hp:S->aw)(L:Nat->S->Option Z)(z:Z)(n:Nat)(q:S)(Q:xF):xF:=IW K0 ds (λg:Nat×S=>env g.2) (λg=>hp g.2) (λg=>L g.1 g.2=aY z) (λg=>g.1) (n+1,q) Q
def j4{S Z:Type}(env:S->Env)(hp:S->aw)(L:Nat->S->Option Z){z:Z}(E3:∀q,L 0 q=bg)(n:Nat)(s0:S)(hs:L n s0=aY z)(h0:Cut K0 ρ H (env s0) (hp s0))
  (Bj:∀K q,L (K+1) q=aY z->l9 c P r N x (M' K0 ds env hp L z K q Q) (env q) (hp q) ds):l9 c P r N (.loop x) Q ρ H ds:=
 zyk (λg:Nat×S=>env g.2) (λg=>hp g.2) (λg=>L g.1 g.2=aY z) (λg=>g.1) (n,s0) hs h0 λg hg=>by
  obtain⟨K,q⟩:=g
  cases K with
  |zero=>rw[E3]at hg;cases hg
  |succ K=>exact Bj K q hg
def xn{S Z:Type}{env:S->Env}{hp:S->aw}{L:Nat->S->Option Z}{z:Z}{Kn:Nat}{q:S}(q':S)(hs:L Kn q'=aY z)(h:Cut K0 ρ H (env q') (hp q')):
  M' K0 ds env hp L z Kn q Q .normal ρ H ds:=zyl (Kn,q') hs (Nat.lt_succ_self _) h
def oq{S Z:Type}{env:S->Env}{hp:S->aw}{L:Nat->S->Option Z}{z:Z}{Kn:Nat}{q:S}(h:Q .ret ρ H ds):M' K0 ds env hp L z Kn q Q .ret ρ H ds:=zym h
def yV{S Z:Type}{env:S->Env}{hp:S->aw}{L:Nat->S->Option Z}{z:Z}{Kn:Nat}{q:S}{id:Nat}(h:Q (.exit id) ρ H ds):M' K0 ds env hp L z Kn q Q (.exit id) ρ H ds:=zs9 h
def yf{fn:Func}{rv:V}{F':aw}(hr:Et fn ρ H P=aY rv)(hs:kO (keys F') H=aY F')(hf:Il rv F' K0=bh):Im P fn K0 rv F' .ret ρ H []:=⟨rfl,hr,hs,hf⟩
end
section
variable{P:bo}{ρ:Env}{dst:Option Tmp}{ty:bK}{pos:String}{aft:Array Edge}{gd:Option (Nat×Bool)}
def yz{t sz n:Nat}{x:bI}{els:List (List V)}(ht:jE P t=bh)(hx:aV ρ x=.vs sz els)(hn:els.length=n):Loc P ⟨dst,.call ⟨.builtin .len,#[x],#[t]⟩,ty,pos,aft,gd⟩ ρ [] (.int .i64 n) []:=by subst hn;refine PV ?_;simp[od,KT,hx,Es,ht]
def AN{t e sz bytes n:Nat}{x y:bI}{k fz L:Nat}{els ys all:List (List V)}{R:aw}(hT:kQ P t=aY (e,sz,bytes))(hx:aV ρ x=.sl sz k L 0 L)(hL:els.length=L)(hy:Src sz R (aV ρ y) ys)
  (h1:∀c∈ys,c.all V.one=bh) (nu:∀c∈ys,c.length=sz) (sf:wj k R=bf) (nF:els++ys=all) (hn:all.length=n) (hlen:n*bytes<=140737488355328) (rF:n<=9223372036854775807):
  Loc P ⟨dst,.call ⟨.builtin .append,#[x,y],#[t,t]⟩,ty,pos,aft,gd⟩ ρ ((k,.row e sz fz els)::R) (.sl sz k n 0 n) ((k,.row e sz fz all)::R):=by subst nF;subst hn;have hl:(els++ys).length=els.length+ys.length:=ae;exact zp2 hT hx hL.symm hy h1 (by rw[<- hl];exact hlen) (by rw[<- hl];exact rF) sf nu
def yR{t e sz kk L n:Nat}{x ix:bI}{k:IntKind}{i:Int}(ht:kP P t=aY (e,sz))(hx:aV ρ x=.sl sz kk L 0 n)(hi:aV ρ ix=.int k i)(h0:0<=i)(h1:i<n):
  Loc P ⟨dst,.indexAddr t x ix,ty,pos,aft,gd⟩ ρ [] (.ptr kk L (i.toNat*sz+0)) []:=by
 have:=zgn (P:=P) (ρ:=ρ) (dst:=dst) (ty:=ty) (pos:=pos) (aft:=aft) (gd:=gd) ht hx hi h0 h1
 rwa [ee,cl]at this
def AO{t et sz fz k L off:Nat}{a x:bI}{els all:List (List V)}{cs c':List V}(i j:Nat)(ha:aV ρ a=.ptr k L off)(hL:L=els.length)(tR:off=i*sz+j)(hc:els[i]?=aY cs)(nW:fz<=i)
  (hp:(aV ρ x).plain=bh) (h1:(aV ρ x).cells.all V.one=bh) (Bx:(aV ρ x).refs=[]) (h_:vJ P t (aV ρ x).cells.length=bh) (tB:cm (j+(aV ρ x).cells.length) sz=bh) (pc:cs.take j++(aV ρ x).cells++cs.drop (j+(aV ρ x).cells.length)=c') (nF:els.set i c'=all):
  Loc P ⟨dst,.store t a x,ty,pos,aft,gd⟩ ρ [(k,.row et sz fz els)] .no [(k,.row et sz fz all)]:=by subst pc;subst nF;exact Wb i j ha hL tR hc nW hp h1 Bx h_ (mi tB)
def zgt{t e sz:Nat}{x:bI}{lo hi:Option bI}{l h:Int}{els all:List (List V)}(ht:kP P t=aY (e,sz))(hx:aV ρ x=.vs sz els)(hl:s5 ρ lo 0 l)(hh:s5 ρ hi els.length h)(h0:0<=l)(h1:l<=h)(h2:h<=els.length)(nF:(els.take h.toNat).drop l.toNat=all):
  Loc P ⟨dst,.slice t x lo hi bg,ty,pos,aft,gd⟩ ρ [] (.vs sz all) []:=by subst nF;exact zky ht hx hl hh h0 h1 h2
def yI{α:Type}[Inhabited α](enc:α->List V){l:List α}{i:Nat}(h:i<l.length):(l.map enc)[i]?=aY (enc (l.getD i default)):=by rw[cz,bA h,bB,bA h];rfl
def JJ{α:Type}(enc:α->List V)(h:∀a,(enc a).all V.one=bh)(l:List α):∀c∈l.map enc,c.all V.one=bh:=λc hc=>by obtain⟨a,_,rfl⟩:=bL.1 hc;exact h a
def JK{α:Type}(enc:α->List V){k:Nat}(h:∀a,(enc a).length=k)(l:List α):∀c∈l.map enc,c.length=k:=λc hc=>by obtain⟨a,_,rfl⟩:=bL.1 hc;exact h a
end
section
variable{P:bo}{ρ:Env}{dst:Option Tmp}{ty:bK}{pos:String}{aft:Array Edge}{gd:Option (Nat×Bool)}{f:FuncId}{l:List bI}{ts:Array bK}{args vs:List V}{F F' R:aw}{r:V}
end
def idx{α:Type}[Inhabited α](l:List α)(i:Int):Option α:=if 0<=i/\i<l.length then aY (l.getD i.toNat default)else bg
def cut{α:Type}(l:List α)(lo hi:Int):Option (List α):=if 0<=lo/\lo<=hi/\hi<=l.length then aY ((l.take hi.toNat).drop lo.toNat)else bg
def bD(p:Prop)[Decidable p]:Option Unit:=if p then aY ()else bg
def yJ{α:Type}[Inhabited α]{l:List α}{i:Int}{x:α}(h:idx l i=aY x):0<=i/\i<l.length/\x=l.getD i.toNat default:=by
 unfold idx at h;split at h
 .rename_i hc;cases h;exact⟨hc.1,hc.2,rfl⟩
 .cases h
def znf{α:Type}{l:List α}{lo hi:Int}{x:List α}(h:cut l lo hi=aY x):0<=lo/\lo<=hi/\hi<=l.length/\x=(l.take hi.toNat).drop lo.toNat:=by
 unfold cut at h;split at h
 .rename_i hc;cases h;exact⟨hc.1,hc.2.1,hc.2.2,rfl⟩
 .cases h
def yY{p:Prop}[Decidable p]{u:Unit}(h:bD p=aY u):p:=by
 unfold bD at h;split at h
 .assumption
 .cases h
def bind_some{α β:Type}{o:Option α}{f:α->Option β}{r:β}(h:o.bind f=aY r):∃a,o=aY a/\f a=aY r:=dp.1 h
def xg{α:Type}{b:Bool}{x y r:α}(h:b=bh)(hs:(bif b then x else y)=r):x=r:=by rw[h]at hs;exact hs
def xh{α:Type}{b:Bool}{x y r:α}(h:b=bf)(hs:(bif b then x else y)=r):y=r:=by rw[h]at hs;exact hs
abbrev aD(n:Int):Int:=IntKind.i64.wrap n
def Bc{α:Type}(sz:Nat)(enc:α->List V)(l:List α):List V:=[.vs sz (l.map enc)]
def encI(n:Int):List V:=[.int .i64 n]
def aak(b:Bool):List V:=[.bool b]
def encS(s:aj):List V:=[.str s]
def Dh(P:bo)(o:Oper)(ρ:Env)(f:FuncId)(vs:List V):Prop:=
 ∀ρr m Z w,(∀x∈o.op.operands,aT (aY m) Z (aV ρ x) (ev ρr x))->∃vals:List bx,zC (aY m) Z vs vals/\∀Rr:bx->bF->Prop,(Calls P f vals.toArray w λen w'=>∃x,en=.returned x/\Rr x w')->CZ P o ρr w Rr
section
variable{P:bo}{ρ:Env}{dst:Option Tmp}{ty:bK}{pos:String}{aft:Array Edge}{gd:Option (Nat×Bool)}{f:FuncId}{l:List bI}{ts:Array bK}{args:List V}{F F' R:aw}{r:V}
def zP{vs:List V}(hf:zb P f)(he:l.map (aV ρ)=vs):Dh P ⟨dst,.call ⟨.value (.func f),l.toArray,ts⟩,ty,pos,aft,gd⟩ ρ f vs:=λρr m Z w e9=>by subst he;exact⟨_,zC.tmps (ρ:=ρ) l λx hx=>e9 x (by simp[Op.operands,Call.operands,hx]),λRr h=>zsv hf h⟩
def ztb{ρr:zS}{w:bF}{x:bI}{l1 l2:List bx}(hx:ev ρr x=.func (.func f) l1.toArray l2.toArray)(hf:zb P f):
  (bP (ev ρr) ⟨dst,.call ⟨.value x,l.toArray,ts⟩,ty,pos,aft,gd⟩).run P w=.ok (.enter f (l1++l.map (ev ρr)++l2).toArray) w:=by
 obtain⟨fn,h1,h2,h3⟩:=hf
 have u4 : ¬ fn.name = "runtime.NumGoroutine" := by simpa using h2
 have pH:¬fn.body=bg:=by intro e;rw[e]at h3;cases h3
 simp[bP,resolve,hx,Deferred.ofValue,invoke,callFunc,program,Sem.run,h1,u4,pH]
def zgv{vs first caps:List V}{x:bI}(hf:zb P f)(hx:aV ρ x=.fn f first caps)(he:first++l.map (aV ρ)++caps=vs):Dh P ⟨dst,.call ⟨.value x,l.toArray,ts⟩,ty,pos,aft,gd⟩ ρ f vs:=λρr m Z w e9=>by subst he;have h:=e9 x (by simp[Op.operands,Call.operands]);rw[hx]at h;obtain⟨l1,l2,e,h1,h2⟩:=h;exact⟨l1++l.map (ev ρr)++l2,(h1.append (zC.tmps (ρ:=ρ) l λx hx=>e9 x (by simp[Op.operands,Call.operands,hx]))).append h2,λRr h=>⟨rfl,.inr (.inr ⟨f,_,w,ztb e hf,h⟩)⟩⟩
def zgw{o:Oper}{vs:List V}(σ:List (Nat×Nat))(hc:Dh P o ρ f vs)(h:mz P f args F r F')(hv:jG R vs (rr (lV σ) args))(hR:k_ R=R)(tD:nodupB ((keys F').map (lV σ))=bh)(mY:Kx args F=bh)(pF:((keys F).all (keys F').contains)=bh)
  (Bt:((keys (JH (lV σ) F')).all λk=>!(wj k R))=bh):
  Loc P o ρ (JH (lV σ) F++R) (r.fM (lV σ)) (JH (lV σ) F'++R):=by
 intro ρr m Z w e9 hs mU;obtain⟨vals,Jt,hex⟩:=hc ρr m Z w e9
 have GP:∀k t sz fz els,R.get k=aY (.row t sz fz els)->Holds m Z w k (.row t sz els.length els):=λk t sz fz els hg=>by
  have l5:=aw.get_mem hg;have h1:=hs.holds _ (cq _ l5)
  have:fz=els.length:=by
   rw[<- hR]at l5
   rcases j7 l5 with⟨k',t',mo,rC,Cv,h2,h3⟩|⟨h2,h3⟩
   .simp only[Prod.mk.injEq,Obj.row.injEq]at h3;obtain⟨_,_,_,e1,e2⟩:=h3;rw[e1,e2]
   .exact aQ rfl (h3 t sz fz els)
  subst this;exact h1
 have TL:=jG.rep GP hv Jt
 have aas:∀p∈JH (lV σ) F',∀q∈R,p.1≠q.1:=λp hp q hq e=>by have:=(bl.1 Bt) p.1 (ax hp);simp only[bX]at this;rw[e,yt.2 (ax hq)]at this;cases this
 refine hex _ (Calls.mono (h.at tD mY pF w m Z _ hs.left TL λk hk pI L=>mU k (by rw[zA];exact bQ _ hk) (λh'=>?_) L) ?_)
 .rw[zA,bJ]at h'
  rcases h' with h'|h'
  .exact pI h'
  .obtain⟨p,hp,e1⟩:=bL.1 hk;obtain⟨q,hq,e2⟩:=bL.1 h';exact aas p hp q hq (e1.trans e2.symm)
 .rintro en w' ⟨x,m',Z',he,gy,hr⟩;exact⟨x,he,m',Z',Step.Bk hs gy aas,hr⟩
def X8{o:Oper}{vs:List V}(hc:Dh P o ρ f vs)(h:mz P f args [] r [])(hv:jG R vs args)(hb:r.bare=bh)(Bx:r.refs=[])(D7:wh args=[]):
  Loc P o ρ R r R:=by
 intro ρr m Z w e9 hs mU;obtain⟨vals,Jt,hex⟩:=hc ρr m Z w e9;have gy:=Step.freeze hs;have aja:zC (aY m) (sQ m Z R w) vs vals:=Jt.up gy.o4 (λg e=>by cases e;exact⟨m,rfl,λ_ _ _ e=>e⟩)
 have GP:∀k t sz fz els,R.get k=aY (.row t sz fz els)->Holds m (sQ m Z R w) w k (.row t sz els.length els):=λk t sz fz els hg=>by
  refine gy.iW.holds (k,.row t sz els.length els) ?_
  have:∀(F:aw),(k,Obj.row t sz fz els)∈F->(k,Obj.row t sz els.length els)∈k_ F:=λF=>by
   induction F with
   |nil=>intro h;cases h
   |cons p F ih =>
    intro h;obtain⟨k',o'⟩:=p
    rcases bu.1 h with h1|h1
    .cases h1;exact ak
    .cases o'<;>exact iO _ (ih h1)
  exact this R (aw.get_mem hg)
 have TL:=jG.rep GP hv aja
 let m0:M:=λ_ _=>bg
 have ai':zC (aY m0) (sQ m Z R w) args vals:=TL.swap λk hk=>by rw[D7]at hk;cases hk
 refine hex _ (Calls.mono (h w m0 (sQ m Z R w) _ ⟨gy.iW.frozen,λp hp=>(by cases hp),cZ,λp hp=>(by cases hp)⟩ ai' λ_ _ _=>rfl) ?_);rintro en w' ⟨x,m',Z',he,EL,hr⟩
 have TK:∀b,b<w.heap.size->w'.heap[b]?=w.heap[b]?:=λb hb=>EL.frame b hb λp hp=>by cases hp
 refine⟨x,he,m,Z,⟨⟨λa y ha=>?_,λp hp=>?_,hs.nodup,hs.p_⟩,λ_ _ _ e=>e,λ_ _ e=>e,EL.os,EL.tape,EL.output,EL.size,λb hb _=>TK b hb,λ_ h=>h,λ_ _=>rfl,λp hp b hb=>.inr ⟨p,hp,hb⟩,λ_ _ h=>.inl h⟩,?_⟩
 .rw[jF (TK _ (xv hs.frozen ha))];exact hs.frozen a y ha
 .exact(hs.holds p hp).keep (λ_ _ _ e=>e) rfl (λ_ _ e=>e) λb hb=>⟨TK b ((hs.holds p hp).gM b hb),λ_ _ e _=>e⟩
 .have h1:aT bg Z' r x:=aT.flat r x Bx hr;exact aT.BU (aT.bare r x hb h1)
def vx{o:Oper}(hc:Dh P o ρ f args)(h:mz P f args [] r [])(D7:wh args=[]):Loc P o ρ [] r []:=by
 intro ρr m Z w e9 hs _;obtain⟨vals,Jt,hex⟩:=hc ρr m Z w e9
 let m0:M:=λ_ _=>bg
 refine hex _ (Calls.mono (h w m0 Z _ ⟨hs.frozen,λp hp=>(by cases hp),cZ,λp hp=>(by cases hp)⟩ (Jt.swap λk hk=>by rw[D7]at hk;cases hk) λ_ _ _=>rfl) ?_);rintro en w' ⟨x,m',Z',he,gy,hr⟩;refine⟨x,he,m,Z',?_,?_⟩
 .exact⟨⟨gy.iW.frozen,λp hp=>(by cases hp),cZ,λp hp=>(by cases hp)⟩,λ_ _ _ e=>e,gy.o4,gy.os,gy.tape,gy.output,gy.size,λb hb _=>gy.frame b hb (λp hp=>(by cases hp)),λ_ h=>h,λ_ _=>rfl,λp hp=>(by cases hp),λa x ha=>(gy.su a x ha).imp id (Or.imp id λ⟨q,hq,_⟩=>(by cases hq))⟩
 .refine hr.swap λk _ L loc e=>?_
  have:=gy.sT k (by simp[keys]);rw[this]at e;cases e
def Wz{o:Oper}(vs:List V)(σ:List (Nat×Nat)){rv:V}{F1 tE:aw}(hc:Dh P o ρ f vs)(h:mz P f args F r F')(hv:jG R vs (rr (lV σ) args))(hR:k_ R=R)(tD:nodupB ((keys F').map (lV σ))=bh)(mY:Kx args F=bh)(pF:((keys F).all (keys F').contains)=bh)
  (Bt:((keys (JH (lV σ) F')).all λk=>!(wj k R))=bh) (h1:JH (lV σ) F++R=F1) (h2:r.fM (lV σ)=rv) (h3:JH (lV σ) F'++R=tE):Loc P o ρ F1 rv tE:=by subst h1;subst h2;subst h3;exact zgw σ hc h hv hR tD mY pF Bt
end
def AP{α:Type}{enc:α->V}{f:α->bx}{m:Option M}{Z:ZM}(h:∀a,aT m Z (enc a) (f a)):∀l:List α,zC m Z (l.map enc) (l.map f)
 |[]=>rfl
 |a::l=>⟨_,_,rfl,h a,AP h l⟩
section
variable{α:Type}[Inhabited α]{enc:α->V}{f:α->bx}{m:M}{Z:ZM}{w:bF}{k e:Nat}{l l':List α}
variable{P:bo}{F:FuncId}
end
section
variable{K0:List Nat}{c:Ctx K0}{P:bo}{r:Option Nat}{N:Nat}{Q:xF}{ρ:Env}{H:aw}{ds:List cr}{all rest:List Oper}{ty:bK}{pos:String}{aft:Array Edge}{gd:Option (Nat×Bool)}{t t':bK}{x y:bI}
end
def zr{α β:Type}[DecidableEq α](a:α):List (α×β)->Option β
 |[]=>bg
 |(k,b)::r=>if a=k then aY b else zr a r
def vW{α β:Type}[DecidableEq α](a:α)(b:β):List (α×β)->List (α×β)
 |[]=>[(a,b)]
 |(k,c)::r=>if a=k then(a,b)::r else(k,c)::vW a b r
def jC{α β:Type}(f:α->V)(g:β->V)(l:List (α×β)):List (V×V):=l.map λp=>(f p.1,g p.2)
def Cg{α:Type}[DecidableEq α](a:α):List α->List MapEntry->Nat->Option (Nat×bx)
 |k::ks,e::es,i=>if a=k then aY (i,e.val)else Cg a ks es (i+1)
 |_,_,_=>bg
structure Di(P:bo)(kt:bK){α:Type}[DecidableEq α](f:α->V)(val:α->bx):Prop where
 Ld:∀m Z a x,aT m Z (f a) x->x=val a
 rep:∀m Z a,aT m Z (f a) (val a)
 check:∀e a w,(Instr.checkKey e 10000 kt (val a)).run P w=.ok () w
 find:∀(a:α)(es:List MapEntry)(ks:List α) w,es.map (·.key)=ks.map val->(Instr.findKey kt (val a) es).run P w=.ok (Cg a ks es 0) w
 bits:∀a,Instr.sameBits 10000 (val a) (val a)=bh
def X9{α:Type}[DecidableEq α]{d:TypeDesc}{val:α->bx}(h:∀a b,Instr.sameNow d (val a) (val b)=aY (decide (a=b)))(a:α):∀(es:List MapEntry)(ks:List α)(i:Nat),es.map (·.key)=ks.map val->Instr.findNow d (val a) es i=aY (Cg a ks es i)
 |[],ks,i,he=>by
  cases ks with
  |nil=>rfl
  |cons=>simp at he
 |e::es,[],i,he=>by simp at he
 |e::es,k::ks,i,he=>by
  simp only[ij,List.cons.injEq]at he;have ih:=X9 h a es ks (i+1) he.2;simp only[Instr.findNow,he.1,h,Cg];by_cases e1:a=k
  .simp[e1]
  .simp[e1,ih]
section
variable{P:bo}
def zng{α:Type}[DecidableEq α]{kt:bK}{d:TypeDesc}{f:α->V}{val:α->bx}(hk:P.underlying kt=aY d)(hd:∀m Z a x,aT m Z (f a) x->x=val a)(hr:∀m Z a,aT m Z (f a) (val a))
  (hc:∀e a w,(Instr.checkKey e 10000 kt (val a)).run P w=.ok () w) (h:∀a b,Instr.sameNow d (val a) (val b)=aY (decide (a=b))) (hb:∀a,Instr.sameBits 10000 (val a) (val a)=bh):Di P kt f val:=⟨hd,hr,hc,λa es ks w he=>by simp[Instr.findKey,run_underlying hk,X9 h a es ks 0 he],hb⟩
def bytes_beq(a b:aj):((⟨a.toArray⟩:ByteArray)==⟨b.toArray⟩)=decide (a=b):=by rw[show((⟨a.toArray⟩:ByteArray)==⟨b.toArray⟩)=(a.toArray==b.toArray) from rfl,Bool.eq_iff_iff];simp
def YS{kt:bK}(hk:P.underlying kt=aY .string):Di P kt V.str (λs=>.string ⟨s.toArray⟩):=
 zng hk (λ_ _ _ _ h=>h) (λ_ _ _=>rfl) (λe a w=>by
  unfold Instr.checkKey
  simp[run_underlying hk]) (λa b=>by simp only[Instr.sameNow,bytes_beq]) λa=>by simp only[Instr.sameBits,bytes_beq];simp
def zgy{kt:bK}{q:IntKind}(hk:P.underlying kt=aY (.int q)):Di P kt (V.int q) (λn=>.int q n):=
 zng hk (λ_ _ _ _ h=>h) (λ_ _ _=>rfl) (λe a w=>by
  unfold Instr.checkKey
  simp[run_underlying hk]) (λa b=>by simp[Instr.sameNow];rfl) λa=>by simp[Instr.sameBits]
def Cn(P:bo)(t:Nat):Option (Nat×Nat):=match P.underlying t with|some (.map k e)=>aY (k,e)|_=>bg
def ztc{t k e:Nat}(h:Cn P t=aY (k,e)):P.underlying t=aY (.map k e):=by
 unfold Cn at h;split at h
 .cases h;assumption
 .cases h
def I0(P:bo)(t:Nat):Option V:=match P.info? t with|some i=>i.zero.map Fq|none=>bg
def zyp{t:Nat}{v:V}{m:Option M}{Z:ZM}{w:bF}(h:I0 P t=aY v):∃z,(zeroValue t).run P w=.ok z w/\aT m Z v z:=by
 unfold I0 at h;split at h
 .rename_i i hi;obtain⟨z,hz,rfl⟩:=ca.1 h;exact⟨z,by simp[zeroValue,typeInfo,hi,hz,Sem.run],zsl z⟩
 .cases h
def Hr(c:Bool)(v:V)(b:Bool):V:=match c with|true=>.iN [v,.bool b]|false=>v
def s4.find{α β:Type}[DecidableEq α]{Z:ZM}{f:α->V}{g:β->V}{val:α->bx}(hd:∀m Z a x,aT m Z (f a) x->x=val a)(a:α):∀{l:List (α×β)}{es:List MapEntry}(i:Nat),s4 Z (jC f g l) es ->
  es.map (·.key)=(l.map (·.1)).map val/\match zr a l with
   |some b=>∃j e,Cg a (l.map (·.1)) es i=aY (i+j,e.val)/\es[j]?=aY e/\e.key=val a/\aT bg Z (g b) e.val/\∀(c:β)(y:bx),aT bg Z (g c) y->s4 Z (jC f g (vW a c l)) (es.modify j λe=>{ e with key:=val a,val:=y })
   |none=>Cg a (l.map (·.1)) es i=bg/\∀(c:β)(y:bx)(n:Nat),aT bg Z (f a) (val a)->aT bg Z (g c) y->s4 Z (jC f g (vW a c l)) (es++[{ key:=val a,val:=y,born:=n }])
 |[],es,i,h=>by
  cases h;exact⟨rfl,rfl,λc y n h1 h2=>⟨_,[],rfl,h1,h2,rfl⟩⟩
 |(k,b)::l,es,i,h=>by
  obtain⟨e,es,rfl,h1,h2,h3⟩:=h;have hk:=hd _ _ _ _ h1;obtain⟨h4,h5⟩:=s4.find hd a (i+1) h3;refine⟨by simp[hk,h4],?_⟩;simp only[zr];by_cases e1:a=k
  .subst e1;simp only[aO];refine⟨0,e,by simp[Cg],rfl,hk,h2,λc y hy=>?_⟩;simp only[vW,aO];exact⟨_,es,rfl,by rw[<- hk];exact h1,hy,h3⟩
  .rw[aN e1]
   cases hm:zr a l with
   |some b' =>
    rw[hm]at h5;obtain⟨j,e',g1,g2,g3,g4,g5⟩:=h5;refine⟨j+1,e',by simp only[ij,Cg,aN e1,g1];congr 2;omega,by simpa using g2,g3,g4,λc y hy=>?_⟩;simp only[vW,aN e1];exact⟨e,_,ae,h1,h2,g5 c y hy⟩
   |none =>rw[hm]at h5;obtain⟨g1,g2⟩:=h5;refine⟨by simp only[ij,Cg,aN e1,g1],λc y n q1 q2=>?_⟩;simp only[vW,aN e1];exact⟨e,_,rfl,h1,h2,g2 c y n q1 q2⟩
variable{ρ:Env}{dst:Option Tmp}{ty:bK}{pos:String}{aft:Array Edge}{gd:Option (Nat×Bool)}
def Vb{α β:Type}[DecidableEq α]{f:α->V}{val:α->bx}{g:β->V}{t kt et k:Nat}{x ix:bI}{l:List (α×β)}(c:Bool){a:α}{z:β}{zv:V}(hT:Cn P t=aY (kt,et))(K:Di P kt f val)(hz:I0 P et=aY zv)
  (O2:∀(m:Option M)(Z:ZM)(y:bx),aT m Z zv y->aT m Z (g z) y) (hx:aV ρ x=.mp k) (hi:aV ρ ix=f a):
  Loc P ⟨dst,.lookup t x ix c,ty,pos,aft,gd⟩ ρ [(k,.map (jC f g l))] (Hr c (g ((zr a l).getD z)) (zr a l).isSome) [(k,.map (jC f g l))]:=by
 intro ρr m Z w e9 hs _;have hX:=e9 x (by simp[Op.operands]);have hI:=K.Ld _ _ _ _ (hi▸e9 ix (by simp[Op.operands]));rw[hx]at hX;obtain⟨m1,loc,e1,e2,hX⟩:=hX;cases e1;obtain⟨b,es,clock,g1,g2,g3,g4,g5,g6,g7⟩:=hs.holds _ (b_.2 rfl);rw[g1]at e2;cases e2;obtain⟨h1,h2⟩:=g3.find K.Ld a 0;obtain⟨adI,Hw,hz2⟩:=zyp (m:=aY m) (Z:=Z) (w:=w) hz;have CA:=K.find a es.toList _ w h1;have hc:=K.check es.isEmpty a w;have hu:=ztc hT
 have key:∃v b',(Instr.lookup t (.map (aY b)) (val a) c).run P w=.ok (if c then .tuple #[v,.bool b']else v) w/\aT (aY m) Z (g ((zr a l).getD z)) v/\b'=(zr a l).isSome:=by
  cases hm:zr a l with
  |some b' =>
   rw[hm]at h2;obtain⟨j,e',q1,q2,q3,q4,q5⟩:=h2;rw[q1]at CA;exact⟨e'.val,bh,by simp[Instr.lookup,run_underlying hu,MapKept.run_getObj_map g2,hc,CA],aT.up (λ_ _ e=>e) (λf e=>by cases e) q4,rfl⟩
  |none =>rw[hm]at h2;rw[h2.1]at CA;exact⟨adI,bf,by simp[Instr.lookup,run_underlying hu,MapKept.run_getObj_map g2,hc,CA,Hw],O2 _ _ _ hz2,rfl⟩
 obtain⟨v,b',mO,hv,hb⟩:=key;refine⟨rfl,.inl ⟨_,w,by simp only[bP,hX,hI,Sem.run_bind,mO,Result.andThen_ok,Sem.run_pure];rfl,m,Z,Step.refl hs,?_⟩⟩
 cases c with
 |true=>exact⟨[v,.bool b'],rfl,v,_,rfl,hv,_,_,rfl,by rw[hb];rfl,rfl⟩
 |false=>exact hv
def jH{α β:Type}[DecidableEq α]{f:α->V}{val:α->bx}{g:β->V}{t kt et k:Nat}{x ix y:bI}{l:List (α×β)}{a:α}{c:β}(hT:Cn P t=aY (kt,et))(K:Di P kt f val)
  (hx:aV ρ x=.mp k) (hi:aV ρ ix=f a) (hy:aV ρ y=g c) (hr:(g c).refs=[]) (hra:(f a).refs=[]):
  Loc P ⟨dst,.mapUpdate t x ix y,ty,pos,aft,gd⟩ ρ [(k,.map (jC f g l))] .no [(k,.map (jC f g (vW a c l)))]:=by
 intro ρr m Z w e9 hs _;have hX:=e9 x (by simp[Op.operands]);have hI0:=e9 ix (by simp[Op.operands]);have hY:=e9 y (by simp[Op.operands]);have hI:=K.Ld _ _ _ _ (hi▸hI0);rw[hx]at hX;rw[hy]at hY;have hY:aT bg Z (g c) (ev ρr y):=aT.flat _ _ hr hY;obtain⟨m1,loc,e1,e2,hX⟩:=hX;cases e1;obtain⟨b,es,clock,g1,g2,g3,g4,g5,g6,g7⟩:=hs.holds _ (b_.2 rfl);rw[g1]at e2;cases e2;obtain⟨h1,h2⟩:=g3.find K.Ld a 0;have CA:=K.find a es.toList _ w h1;have hc:=K.check bf a w;have hu:=ztc hT;have Ox:b<w.heap.size:=(bw.1 g2).1
 have key:∃CI NM,(Instr.mapUpdate t (.map (aY b)) (val a) (ev ρr y)).run P w=.ok () { w with heap:=w.heap.setIfInBounds b (.map CI NM) }/\s4 Z (jC f g (vW a c l)) CI.toList/\(CI.toList.Pairwise λx y=>x.born<y.born)/\(∀e∈CI.toList,e.born<NM):=by
  cases hm:zr a l with
  |some b' =>
   rw[hm]at h2;obtain⟨j,e',q1,q2,q3,q4,q5⟩:=h2;rw[q1]at CA
   have Ek:es[0+j]?=aY e':=by simpa using q2
   have l5:∀e∈(es.toList.modify (0+j) λe=>{ e with key:=val a,val:=ev ρr y }),∃e0∈es.toList,e.born=e0.born:=λe he=>by obtain⟨i,hi,rfl⟩:=dL he;rw[fW];simp only[iq]at hi;refine⟨es.toList[i],dS _,?_⟩;split<;>rfl
   refine⟨es.modify (0+j) λe=>{ e with key:=val a,val:=ev ρr y },clock,?_,?_,?_,?_⟩
   .have agD:es[j]?=aY e':=by simpa using Ek
    simp[Instr.mapUpdate,run_underlying hu,MapKept.run_getObj_map g2,hc,CA,Instr.keyThatStays,agD,q3,K.bits,MapKept.run_setObj_map _ g2]
   .rw[fT];simpa using q5 c _ hY
   .rw[fT,gB];intro i j' hi hj tg;rw[fW,fW];simp only[iq]at hi hj;have:=gB.1 g4 i j' hi hj tg;split<;>split<;>exact this
   .rw[fT];intro e he;obtain⟨e0,h3,h4⟩:=l5 e he;rw[h4];exact g5 e0 h3
  |none =>
   rw[hm]at h2;rw[h2.1]at CA;refine⟨es.push { key:=val a,val:=ev ρr y,born:=clock },clock+1,by simp[Instr.mapUpdate,run_underlying hu,MapKept.run_getObj_map g2,hc,CA,MapKept.run_setObj_map _ g2],?_,?_,?_⟩
   .rw[gH];exact h2.2 c _ _ (K.rep _ _ _) hY
   .rw[gH,eU];exact⟨g4,ae,λp hp q hq=>by simp at hq;subst hq;exact g5 p hp⟩
   .rw[gH];intro e he
    rcases bJ.1 he with he|he
    .have:=g5 e he;omega
    .simp at he;subst he;simp
 obtain⟨CI,NM,mO,k1,k2,k3⟩:=key;refine⟨rfl,.inr (.inl ⟨_,by simp only[bP,hX,hI,Sem.run_bind,mO,Result.andThen_ok,Sem.run_pure];rfl,m,Z,?_,rfl⟩)⟩;refine Step.write (b:=b) hs (by simp[gM,oi,Obj.ver,g1]) (My rfl rfl rfl) rfl rfl rfl ae (λj hj=>by simp[Array.getElem?_setIfInBounds_ne (Ne.symm hj)]) (λa x ha e=>aQ e (g6 a x ha)) ?_;exact⟨b,CI,NM,g1,by simp[Ox],k1,k2,k3,g6,g7⟩
end
structure qt where
 z:ZM
 f:Nat->Prop
instance:CoeFun qt λ_=>Nat->Prop:=⟨qt.f⟩
def rO(J:qt->bF->Prop):Prop:=
 (∀D W W' row,J D W->W.grownBy W' row->(∀b,row=aY b->¬D b)->J D W')/\(∀D W,J D W->∀b,D b->b<W.heap.size)/\∀D W,J D W->∀a x,D.z a=aY x->D a.block
structure HI(D:qt)(W W':bF):Prop where
 size:W.heap.size<=W'.heap.size
 same:∀b,b<W.heap.size->¬D b->W'.heap[b]?=W.heap[b]?
structure vY(D D':qt)(W:bF):Prop where
 f:∀b,D' b->D b∨W.heap.size<=b
 z:∀a x,D.z a=aY x->D'.z a=aY x
def HI.refl(D:qt)(W:bF):HI D W W:=⟨al,λ_ _ _=>rfl⟩
def vY.refl(D:qt)(W:bF):vY D D W:=⟨λ_ h=>.inl h,λ_ _ h=>h⟩
def HI.trans{D D':qt}{A B C:bF}(h:HI D A B)(hg:vY D D' A)(k:HI D' B C):HI D A C:=⟨cY h.size k.size,λb hb hn=>(k.same b (dT hb h.size) λhd=>(hg.f b hd).elim hn ab).trans (h.same b hb hn)⟩
def vY.trans{D D' D2:qt}{A B:bF}(h:vY D D' A)(hs:A.heap.size<=B.heap.size)(k:vY D' D2 B):vY D D2 A:=⟨λb hb=>(k.f b hb).elim (h.f b) λh'=>.inr (cY hs h'),λa x e=>k.z a x (h.z a x e)⟩
def HI.grown{D:qt}{W W':bF}{row:Option Nat}(h:W.grownBy W' row)(hr:∀b,row=aY b->D b):HI D W W':=⟨h.size,λb hb hn=>h.block b hb λe=>hn (hr b e.symm)⟩
def rO.grown{J:qt->bF->Prop}(h:rO J){D:qt}{W W':bF}{row:Option Nat}(hJ:J D W)(hg:W.grownBy W' row)(hr:∀b,row=aY b->¬D b):J D W':=h.1 D W W' row hJ hg hr
def rO.putObj{J:qt->bF->Prop}(h:rO J){D:qt}{W:bF}{l:Nat}(o:Go.Obj)(hJ:J D W)(hl:¬D l):J D (W.putObj l o):=h.grown hJ (oG W l o) (λb e=>by cases e;exact hl)
def rO.alloc{J:qt->bF->Prop}(h:rO J){D:qt}{W:bF}(o:Go.Obj)(hJ:J D W):J D (W.alloc o):=h.grown hJ (World.grownBy_alloc W o bg) (λb e=>by cases e)
def YT{D:qt}{W:bF}{l:Nat}(o:Go.Obj)(hl:D l):HI D W (W.putObj l o):=HI.grown (oG W l o) λb e=>by cases e;exact hl
def X_{D:qt}{W:bF}(o:Go.Obj):HI D W (W.alloc o):=HI.grown (World.grownBy_alloc W o bg) λb e=>by cases e
def XB{α:Type}(P:bo)(gf:Nat)(lb:List bx)(encs:α->List bx)(xs:List α)(Np:ZM->bF->Prop):Prop:=
 ∀(l:Nat)(J Jx:List α->qt->bF->Prop)(W:bF)(D:qt),(∀pre D W1,J pre D W1->Np D.z W1)->(∀pre,rO (J pre))->(∀pre,rO (Jx pre)) ->
  (∀pre x D1 W1,J pre D1 W1->pre++[x] <+: xs->YieldAt Fence.wide 0 P l (encs x).toArray W1 λe W' =>
   ∃D',HI D1 W1 W'/\vY D1 D' W1/\((e=.returned (.bool bh)/\J (pre++[x]) D' W')∨(e=.returned (.bool bf)/\Jx (pre++[x]) D' W'))) ->
  J [] D W ->
  Calls P gf (.func (.yield l) #[] #[]::lb).toArray W λe W'=>(∃v,e=.returned v)/\∃D',HI D W W'/\vY D D' W/\(J xs D' W'∨∃pre,pre <+: xs/\Jx pre D' W')
def zHp(D:qt)(I:qt->bF->Prop)(Ix:Code->qt->bF->Prop)(W:bF):Wy
 |.normal,_,_,W'=>∃D',HI D W W'/\vY D D' W/\I D' W'
 |.ret,_,_,W'=>∃D',HI D W W'/\vY D D' W/\Ix .ret D' W'
 |.exit id,_,_,W'=>∃D',HI D W W'/\vY D D' W/\Ix (.exit id) D' W'
 |_,_,_,_=>False
def Qc(D:qt)(k:Nat):qt:=⟨D.z,λb=>D b∨b=k∨b=k+1⟩
def zp7{D D':qt}{k:Nat}{W:bF}(h:vY D D' W):vY (Qc D k) (Qc D' k) W:=⟨λb hb=>by
 rcases hb with hb|hb
 .exact(h.f b hb).imp .inl id
 .exact .inl (.inr hb),h.z⟩
def HI.sub{D D':qt}{W W':bF}(h:HI D W W')(hd:∀b,D b->D' b):HI D' W W':=⟨h.size,λb hb hn=>h.same b hb λh'=>hn (hd b h')⟩
section
variable{P:bo}{N:Nat}{Q:Wy}{ρ:zS}{ds:List cr}{w:bF}
def znh{α:Type}{g:bI}{ps:List Tmp}{assign body:Code}{gf:Nat}{lb:List bx}{encs:α->List bx}{xs:List α}{Np:ZM->bF->Prop}
  (hg:ev ρ g=.func (.func gf) #[] lb.toArray) (hb:zb P gf) (hit:XB P gf lb encs xs Np) (hps:∀x,(encs x).length=ps.length) (hpN:(ps.all λp=>cm (p+1) N)=bh)
  (I:List α->qt->bF->Prop) (Ix:Code->List α->qt->bF->Prop) (hI:∀pre,rO (I pre)) (E5:∀c pre,rO (Ix c pre)) (NG:∀pre D W,I pre D W->Np D.z W) (D0:qt) (h0:I [] D0 w)
  (l0:α->zS)
  (aji:∀l x W,Wp P (aY l) N assign (andThen (λρ' mL W'=>ρ'=l0 x/\mL=[]/\W'=W) λ_ _ _ _=>False) (Fs ρ (ps.zip (encs x))) [] W)
  (ag6:∀l pre x D W,I pre D W->pre++[x] <+: xs->Wp P (aY l) N body (zHp D (I (pre++[x])) (λc=>Ix c (pre++[x])) W) (l0 x) [] W)
  (Tx:∀K D W,w.heap.size<=K->I xs D W->¬D K->HI D0 w W->vY D0 D w->W.heap[K]?=aY (.deferred (aY []))->Q .normal ρ (lG.mark K::ds) W)
  (afV:∀K D pre W,w.heap.size<=K->pre <+: xs->Ix .ret pre D W->¬D K->HI D0 w W->vY D0 D w->W.heap[K]?=aY (.deferred (aY []))->Q .ret ρ (lG.mark K::ds) W)
  (ait:∀id K D pre W,w.heap.size<=K->pre <+: xs->Ix (.exit id) pre D W->¬D K->HI D0 w W->vY D0 D w->W.heap[K]?=aY (.deferred (aY []))->Q (.exit id) ρ (lG.mark K::ds) W):
  Wp P bg N (.rangeFunc g ps.toArray assign body) Q ρ ds w:=by
 intro a n hf;refine wpIn_rangeFunc ?_;intro fn DV
 obtain⟨k,hk⟩:∃k,w.heap.size=k:=⟨_,rfl⟩
 obtain⟨rec,tS⟩:∃rec:LoopState->Option Code->Loop,rec=λst pe=>{ state:=st,pending:=pe,fn,tmps:=a.tmps,params:=ps.toArray,assign,body,defers:=k }:=⟨_,rfl⟩
 obtain⟨W1,E9⟩:∃W1,(w.alloc (.deferred (aY []))).alloc (.loop (rec .ready bg))=W1:=⟨_,rfl⟩
 have hL1:W1.heap[k+1]?=aY (.loop (rec .ready bg)):=by rw[<- E9,<- hk];have:=World.alloc_heap_new (w.alloc (.deferred (aY []))) (.loop (rec .ready bg));rwa [World.size_alloc]at this
 have hK1:W1.heap[k]?=aY (.deferred (aY [])):=by rw[<- E9,<- hk];exact(Below.heap_alloc _ _ _ ae).trans (World.alloc_heap_new w _)
 have hI1:I [] D0 W1:=by rw[<- E9];exact(hI []).alloc _ ((hI []).alloc _ h0)
 have rR:∀b,D0 b->b<k:=λb hb=>hk▸(hI []).2.1 _ _ h0 b hb
 have Tb:W1.heap.size=k+2:=by rw[<- E9];simp;omega
 have hO1:HI D0 w W1:=by rw[<- E9];exact(X_ _).trans (vY.refl _ _) (X_ _)
 obtain⟨fb,afL,afM,aaC⟩:=hb
 -- what holds between the rounds
 obtain⟨J,hJ⟩:∃J:List α->qt->bF->Prop,J=λpre D W=>∃DI,D=Qc DI k/\I pre DI W/\¬DI k/\¬DI (k+1)/\W.heap[k+1]?=aY (.loop (rec .ready bg))/\W.heap[k]?=aY (.deferred (aY [])):=⟨_,rfl⟩
 obtain⟨Jx,E6⟩:∃Jx:List α->qt->bF->Prop,Jx=λpre D W=>∃DI c,(c=.ret∨∃id,c=.exit id)/\D=Qc DI k/\Ix c pre DI W/\¬DI k/\¬DI (k+1)/\W.heap[k+1]?=aY (.loop (rec .done (aY c)))/\W.heap[k]?=aY (.deferred (aY [])):=⟨_,rfl⟩
 have afS:∀{D D':qt}{W:bF},vY D D' W->k+2<=W.heap.size->¬D k->¬D (k+1)->¬D' k/\¬D' (k+1):=λhg hs h1 h2 =>⟨λh=>(hg.f _ h).elim h1 ab,λh=>(hg.f _ h).elim h2 ab⟩
 refine⟨k+1,[lG.mark k],W1,{ target:=.fn (.func gf) lb.toArray,args:=#[.func (.yield (k+1)) #[] #[]] },W1,gf,
  (.func (.yield (k+1)) #[] #[]::lb).toArray,W1,?_,?_,λ_ _=>trivial,?_,λhx=>by simp[Fw]at hx,?_⟩
 .rw[<- E9,tS,<- hk];exact run_enterLoop_outer _ _ _ _ _
 .have:a.eval g=.func (.func gf) #[] lb.toArray:=by rw[hf.eval];exact hg
  simp only[resolve,rangeCall,this];simp[Deferred.ofValue,Act.eval]
 .have u4 : ¬ fb.name = "runtime.NumGoroutine" := by simpa using afM
  have pH:¬fb.body=bg:=by intro e;rw[e]at aaC;cases aaC
  simp[invoke,callFunc,program,Sem.run,afL,u4,pH]
 .refine JE bg ?_;refine(hit (k+1) J Jx W1 (Qc D0 k) ?_ ?_ ?_ ?_ ?_).mono ?_
  .rw[hJ];rintro pre D W ⟨DI,rfl,h,_⟩;exact NG pre DI W h
  .rw[hJ]
   refine λpre=>⟨?_,?_,?_⟩
   .rintro D A B row ⟨DI,rfl,h1,h2,h3,h4,h5⟩ np hr;refine⟨DI,rfl,(hI pre).grown h1 np λb e=>λh=>hr b e (.inl h),h2,h3,?_,?_⟩
    .exact(np.block _ (bw.1 h4).1 (λe=>hr _ e.symm (.inr (.inr rfl)))).trans h4
    .exact(np.block _ (bw.1 h5).1 (λe=>hr _ e.symm (.inr (.inl rfl)))).trans h5
   .rintro D W ⟨DI,rfl,h1,h2,h3,h4,h5⟩ b hb
    rcases hb with hb|rfl|rfl
    .exact(hI pre).2.1 _ _ h1 b hb
    .exact(bw.1 h5).1
    .exact(bw.1 h4).1
   .rintro D W ⟨DI,rfl,h1,h2,h3,h4,h5⟩ a x hz;exact Or.inl ((hI pre).2.2 _ _ h1 a x hz)
  .rw[E6]
   refine λpre=>⟨?_,?_,?_⟩
   .rintro D A B row ⟨DI,c,hc,rfl,h1,h2,h3,h4,h5⟩ np hr;refine⟨DI,c,hc,rfl,(E5 c pre).grown h1 np λb e=>λh=>hr b e (.inl h),h2,h3,?_,?_⟩
    .exact(np.block _ (bw.1 h4).1 (λe=>hr _ e.symm (.inr (.inr rfl)))).trans h4
    .exact(np.block _ (bw.1 h5).1 (λe=>hr _ e.symm (.inr (.inl rfl)))).trans h5
   .rintro D W ⟨DI,c,hc,rfl,h1,h2,h3,h4,h5⟩ b hb
    rcases hb with hb|rfl|rfl
    .exact(E5 c pre).2.1 _ _ h1 b hb
    .exact(bw.1 h5).1
    .exact(bw.1 h4).1
   .rintro D W ⟨DI,c,hc,rfl,h1,h2,h3,h4,h5⟩ a x hz;exact Or.inl ((E5 c pre).2.2 _ _ h1 a x hz)
  .-- one round
   rw[hJ,E6];rintro pre x D W ⟨DI,rfl,hi,mN,ng,hl,hkk⟩ rA;have ib:k+1<W.heap.size:=(bw.1 hl).1;have hy:=run_yield (P:=P) (args:=(encs x).toArray) hl (by rw[tS];simpa using hps x);rw[tS]at hy;refine⟨fn,_,assign,body,hy,roundIn_of_wpIn trivial ?_⟩
   have lR:pV N [] { tmps:=(ps.toArray.zip (encs x).toArray).foldl (λtmps (t,v)=>tmps.setIfInBounds t v) a.tmps,defers:=[] } (Fs ρ (ps.zip (encs x))):=by
    have:=zmx (a:=a) (N:=N) (ps.zip (encs x)) a.tmps ρ (λp hp=>by
     have h1:=(bl.1 hpN) p.1 (List.of_mem_zip hp).1
     exact mi h1) hf.size hf.get
    refine⟨?_,rfl,λt=>?_⟩
    .simpa using this.1
    .have:=this.2 t;simpa using this
   refine wpIn_mono (aji (k+1) x W _ 0 lR) ?_;rintro e a2 W2 ⟨nO,nV,rS,hq⟩
   cases e with
   |normal =>
    obtain⟨rfl,rfl,rfl⟩:=hq;refine⟨_,run_beginRound hl (by rw[tS]),?_⟩;have Fh:(W2.putObj (k+1) (.loop { rec .ready bg with state:=.busy })).heap[k+1]?=aY (.loop { rec .ready bg with state:=.busy }):=World.putObj_heap_same ib;have my:(W2.putObj (k+1) (.loop { rec .ready bg with state:=.busy })).heap[k]?=aY (.deferred (aY [])):=(World.putObj_heap_other ab).trans hkk;refine wpIn_mono (ag6 (k+1) pre x DI _ ((hI pre).putObj _ hi ng) rA _ 0 rS) ?_
    have fin:∀(jump:Option Code)(W3:bF)(D3:qt),HI DI (W2.putObj (k+1) (.loop { rec .ready bg with state:=.busy })) W3->vY DI D3 (W2.putObj (k+1) (.loop { rec .ready bg with state:=.busy })) ->
      (Instr.endRound (k+1) jump).run P W3=.ok (.bool jump.isNone) (W3.putObj (k+1) (.loop (rec (if jump.isNone then .ready else .done) jump)))/\¬D3 k/\¬D3 (k+1) /\
      (W3.putObj (k+1) (.loop (rec (if jump.isNone then .ready else .done) jump))).heap[k+1]?=aY (.loop (rec (if jump.isNone then .ready else .done) jump)) /\
      (W3.putObj (k+1) (.loop (rec (if jump.isNone then .ready else .done) jump))).heap[k]?=aY (.deferred (aY [])) /\
      HI (Qc DI k) W2 (W3.putObj (k+1) (.loop (rec (if jump.isNone then .ready else .done) jump)))/\vY (Qc DI k) (Qc D3 k) W2:=λjump W3 D3 nt Bu=>by
     have UQ:=(nt.same (k+1) (by simp;omega) ng).trans Fh;have sA:=(nt.same k (by simp;omega) mN).trans my;have hr:=run_endRound (P:=P) jump UQ;have aa7:=afS Bu (by simp;omega) mN ng
     have afP:vY DI D3 W2:=⟨λb hb=>(Bu.f b hb).imp id (λh=>by simpa using h),Bu.z⟩
     rw[tS]at hr ⊢;refine⟨hr,aa7.1,aa7.2,World.putObj_heap_same (bw.1 UQ).1,(World.putObj_heap_other ab).trans sA,?_,zp7 afP⟩;rw[tS]at nt;have l6:Qc DI k (k+1):=Or.inr (Or.inr rfl);exact((YT _ l6).trans (vY.refl _ _) (nt.sub λb h=>(Or.inl h:Qc DI k b))).trans (vY.refl _ _) (YT _ l6)
    rintro e a3 W3 ⟨sv,ds3,UH,hp⟩
    cases e with
    |normal =>
     obtain⟨D3,nt,Bu,GY⟩:=hp;obtain⟨hr,h1,h2,h3,h4,h5,h6⟩:=fin bg W3 D3 nt Bu;exact⟨_,_,hr,Qc D3 k,h5,h6,.inl ⟨rfl,D3,rfl,(hI _).putObj _ GY h2,h1,h2,h3,h4⟩⟩
    |ret =>
     obtain⟨D3,nt,Bu,GY⟩:=hp;obtain⟨hr,h1,h2,h3,h4,h5,h6⟩:=fin (aY .ret) W3 D3 nt Bu;exact⟨_,_,hr,Qc D3 k,h5,h6,.inr ⟨rfl,D3,.ret,.inl rfl,rfl,(E5 _ _).putObj _ GY h2,h1,h2,h3,h4⟩⟩
    |exit id =>
     obtain⟨D3,nt,Bu,GY⟩:=hp;obtain⟨hr,h1,h2,h3,h4,h5,h6⟩:=fin (aY (.exit id)) W3 D3 nt Bu;exact⟨_,_,hr,Qc D3 k,h5,h6,.inr ⟨rfl,D3,.exit id,.inr ⟨id,rfl⟩,rfl,(E5 _ _).putObj _ GY h2,h1,h2,h3,h4⟩⟩
    |goto t=>exact hp.elim
    |panic ch=>exact hp.elim
    |outgrown=>exact hp.elim
   |exit id=>exact hq.elim
   |goto l=>exact hq.elim
   |ret=>exact hq.elim
   |panic c=>exact hq.elim
   |outgrown=>exact hq.elim
  .rw[hJ];exact⟨D0,rfl,hI1,λh=>by have:=rR _ h;omega,λh=>by have:=rR _ h;omega,hL1,hK1⟩
  .-- behind the iterator
   have OG:∀D,pV N (lG.mark D::ds) { a with defers:=[lG.mark D]++a.defers } ρ:=λD=>⟨hf.size,by rw[hf.defs];rfl,hf.get⟩
   rw[hJ,E6];rintro e W2 ⟨⟨v,rfl⟩,D',hO,hG,hh⟩
   have lZ:∀{DI:qt}(o:Go.Obj),D'=Qc DI k->¬DI k->¬DI (k+1)->HI D0 w (W2.putObj (k+1) o)/\vY D0 DI w:=λ{DI} o hD h1 h2=>by
    refine⟨⟨by simp;have:=hO.size;omega,λb hb hn=>?_⟩,λb hb=>?_,λa x e=>by have:=hG.z a x e;rw[hD]at this;exact this⟩
    .rw[World.putObj_heap_other ab,hO.same b ab λh=>?_,hO1.same b hb hn]
     rcases h with h|h|h
     .exact hn h
     .omega
     .omega
    .rcases hG.f b (by rw[hD];exact .inl hb)with h|h
     .rcases h with h|rfl|rfl
      .exact .inl h
      .exact aQ hb h1
      .exact aQ hb h2
     .exact .inr ab
   rcases hh with⟨DI,hD,hi,mN,ng,hl,mu⟩|⟨pre,rA,DI,c,hc,hD,hi,mN,ng,hl,mu⟩
   .refine⟨bg,_,by have:=run_endLoop (P:=P) hl (by rw[tS];simp);rw[tS]at this;exact this,?_⟩;obtain⟨q1,q2⟩:=lZ (.loop { rec .ready bg with state:=.exhausted }) hD mN ng;rw[tS]at q1;exact⟨ρ,_,OG _,Tx _ DI _ (fY hk) ((hI _).putObj _ hi ng) mN q1 q2 ((World.putObj_heap_other ab).trans mu)⟩
   .refine⟨aY c,_,by have:=run_endLoop (P:=P) hl (by rw[tS];simp);rw[tS]at this;exact this,?_⟩;have B2:=(E5 c pre).putObj (.loop { rec .done (aY c)with state:=.exhausted }) hi ng;have EI:(W2.putObj (k+1) (.loop { rec .done (aY c)with state:=.exhausted })).heap[k]?=aY (.deferred (aY [])):=(World.putObj_heap_other ab).trans mu;obtain⟨q1,q2⟩:=lZ (.loop { rec .done (aY c)with state:=.exhausted }) hD mN ng;rw[tS]at B2 EI q1
    rcases hc with rfl|⟨id,rfl⟩
    .exact wpIn_ret ⟨ρ,_,OG _,afV _ DI pre _ (fY hk) rA B2 mN q1 q2 EI⟩
    .exact wpIn_exit ⟨ρ,_,OG _,ait id _ DI pre _ (fY hk) rA B2 mN q1 q2 EI⟩
end
def I1(P:bo){α:Type}(gf:FuncId)(caps:List V)(F:aw)(val:α->bx)(xs:List α):Prop:=
 ∀lb,XB P gf lb (λx=>[val x]) xs λZ W=>∃m,w8 m Z F W/\zC (aY m) Z caps lb
def Na(w0:bF)(m:M)(Z:ZM)(H:aw):qt:=⟨Z,λb=>b<w0.heap.size∨(∃p∈H,gM m p b)∨∃a x,Z a=aY x/\a.block=b⟩
def W4.ND{K0:List Nat}{c:Ctx K0}{m:M}{Z:ZM}{H:aw}{w w':bF}{row:Option Nat}(S:W4 c m Z H w)(hg:w.grownBy w' row)(hr:∀b,row=aY b->c.W0.heap.size<=b/\(∀p∈H,¬gM m p b)/\∀a x,Z a=aY x->a.block≠b):W4 c m Z H w':=by
 have hs:=S.step
 have q_:∀p∈H,∀b,gM m p b->w'.heap[b]?=w.heap[b]?:=λp hp b hb=>by
  obtain⟨ob,h1,h2⟩:=(hs.iW.holds p hp).TI b hb
  exact hg.block b (bw.1 h1).1 λe=>(hr b e.symm).2.1 p hp hb
 have hz:∀a x,Z a=aY x->w'.cell? a=w.cell? a:=λa x ha=>by
  have h2:=World.block_lt_of_cell? w a (hs.iW.frozen a x ha)
  have:w'.heap[a.block]?=w.heap[a.block]?:=hg.block _ h2 λe=>(hr _ e.symm).2.2 a x ha rfl
  simp only[World.cell?,this]
 refine⟨⟨⟨λa x ha=>(hz a x ha).trans (hs.iW.frozen a x ha),λp hp=>(hs.iW.holds p hp).keep (λ_ _ _ e=>e) rfl (λ_ _ e=>e) λb hb=>⟨q_ p hp b hb,λ_ _ e _=>e⟩,hs.iW.nodup,hs.iW.p_⟩,hs.pM,hs.o4,hg.os.trans hs.os,hg.tape.trans hs.tape,hg.output.trans hs.output,cY hs.size hg.size,λb hb hn=>?_,hs.keep,hs.sT,hs.nZ,hs.su⟩,S.pa⟩;rw[hg.block b (dT hb hs.size) λe=>by have:=(hr b e.symm).1;omega];exact hs.frame b hb hn
def W4.bound{K0:List Nat}{c:Ctx K0}{m:M}{Z:ZM}{H:aw}{w w0:bF}(S:W4 c m Z H w)(h:w0.heap.size<=w.heap.size):∀b,Na w0 m Z H b->b<w.heap.size:=λb hb=>by
 rcases hb with hb|⟨p,hp,hb⟩|⟨a,x,ha,rfl⟩
 .omega
 .exact(S.step.iW.holds p hp).gM b hb
 .exact World.block_lt_of_cell? w a (S.step.iW.frozen a x ha)
def WM{S Zt:Type}(K0:List Nat)(hp:S->aw)(Lr:S->Option Zt)(z:Zt)(E:Env)(ds:List cr)(Q:xF):xF
 |.normal,ρ,H,_=>∃q',Lr q'=aY z/\Cut K0 ρ H [] (hp q')
 |.ret,ρ,H,_=>∃H1,Cut K0 ρ H [] H1/\Q .ret E H1 ds
 |.exit id,ρ,H,_=>∃H1,Cut K0 ρ H [] H1/\Q (.exit id) E H1 ds
 |_,_,_,_=>False
def ztf{S Zt:Type}{K0:List Nat}{hp:S->aw}{Lr:S->Option Zt}{z:Zt}{E ρ:Env}{H:aw}{ds mL:List cr}{Q:xF}(q':S)(hs:Lr q'=aY z)(h:Cut K0 ρ H [] (hp q')):WM K0 hp Lr z E ds Q .normal ρ H mL:=⟨q',hs,h⟩
section
variable{K0:List Nat}{c:Ctx K0}{P:bo}{N:Nat}{Q:xF}{ds:List cr}{ty:bK}{pos:String}{aft:Array Edge}
def zyr{α Sg Zt:Type}{g:bI}{t d id:Nat}{body:Code}{gf:FuncId}{caps:List V}{F:aw}{val:α->bx}{xs:List α}(ks:List Nat){enc:α->V}{E:Env}(hp:Sg->aw)(L:List α->Sg->Option Zt){z:Zt}(q0:Sg)
  (hg:aV E g=.fn gf [] caps) (hb:zb P gf) (hit:I1 P gf caps F val xs) (htN:cm (t+1) N=bh) (CN:cm (d+1) N=bh) (aaz:∀m Z x,aT m Z (enc x) (val x))
  (hL:L xs q0=aY z) (hF:∀q,kO ks (hp q)=aY F) (ml:nodupB ks=bh)
  (Bj:∀l x r q (c2:Ctx (keys (hp q))),L (x::r) q=aY z->l9 c2 P (aY l) N body (WM (keys (hp q)) hp (L r) z E ds Q) ((d,enc x)::(t,enc x)::E) (hp q) [])
  (Tx:∀q,L [] q=aY z->Q .normal E (hp q) ds):
  l9 c P bg N (.rangeFunc g #[t] (.region id #[⟨aY d,.assign (.tmp t),ty,pos,aft,bg⟩] bf) body) Q E (hp q0) ds:=by
 intro ρr w mj S hM;obtain⟨m,Z,S,hR⟩:=S;have hG:=hR.ev g;rw[hg]at hG;obtain⟨l1,l2,hx,h1,h2⟩:=hG;cases h1;have hSw:=S.step.size
 have hMw:∀D∈mj.filterMap (λx=>match x.target with|.collected D=>aY D|_=>bg),D<w.heap.size:=λD hD=>by
  obtain⟨Ds,rfl,rR,h3,h4,h6⟩:=hM;simp only[List.filterMap_map,fh,Function.comp]at hD;obtain⟨D',h5,h7⟩:=hD
  cases D' with
  |inl D' =>
   simp only[Sum.elim_inl,lG.mark,Option.some.injEq]at h7;subst h7;exact(bw.1 (h4 _ (fh.2 ⟨_,h5,rfl⟩)).1).1
  |inr d =>
   simp only[Sum.elim_inr,_root_.id]at h7;split at h7
   .rename_i D2 OC;exact aQ OC (h6 d (rR▸fh.2 ⟨_,h5,rfl⟩) D2)
   .cases h7
 have pF:∀{mm:M}{ZZ:ZM}{q:Sg}{W:bF},W4 c mm ZZ (hp q) W->w8 mm ZZ F W:=λ{mm ZZ q W} S=>by have hm:=yX (hF q);refine⟨S.step.iW.frozen,λp ka=>S.step.iW.holds p (hm.2 p ka),by rw[hm.1];exact yB ml,λp ka r hr=>S.step.iW.p_ p (hm.2 p ka) r (hm.2 r hr)⟩
 obtain⟨Inv,tz⟩:∃Inv:M->ZM->aw->qt->bF->Prop,Inv=λmm ZZ H D W=>W4 c mm ZZ H W/\(∀k L loc,m k L=aY loc->mm k L=aY loc)/\(∀a x,Z a=aY x->ZZ a=aY x)/\D=Na w mm ZZ H/\w.heap.size<=W.heap.size/\∀(b:Nat)(ob:Go.Obj),w.heap[b]?=aY ob->Fu ob=bh->W.heap[b]?=aY ob:=⟨_,rfl⟩
 have aa0:∀{mm:M}{ZZ:ZM}{H:aw}{D:qt}{A B:bF}{row:Option Nat},Inv mm ZZ H D A->A.grownBy B row->(∀b,row=aY b->¬D b)->Inv mm ZZ H D B:=by
  rw[tz];rintro mm ZZ H D A B row ⟨S,a1,a2,rfl,a4,a5⟩ np hr;refine⟨S.ND np λb e=>?_,a1,a2,rfl,cY a4 np.size,λb ob hb hl=>?_⟩
  .have hn:=hr b e;refine⟨?_,λp ka hb=>hn (.inr (.inl ⟨p,ka,hb⟩)),λa x ha he=>hn (.inr (.inr ⟨a,x,ha,he⟩))⟩
   have h3:¬b<w.heap.size:=λh=>hn (.inl h)
   have h4:c.W0.heap.size<=w.heap.size:=hSw;omega
  .have ib:=(bw.1 hb).1;rw[np.block b (dT ib a4) λe=>hr b e.symm (.inl ib)];exact a5 b ob hb hl
 have aar:∀{mm:M}{ZZ:ZM}{H:aw}{D:qt}{A:bF},Inv mm ZZ H D A->∀b,D b->b<A.heap.size:=by rw[tz];rintro mm ZZ H D A ⟨S,a1,a2,rfl,a4,a5⟩;exact S.bound a4
 have FX:∀{mm:M}{ZZ:ZM}{H:aw}{D:qt}{W:bF}(K:Nat),Inv mm ZZ H D W->w.heap.size<=K->W.heap[K]?=aY (.deferred (aY []))->wm c (lG.mark K::mj) W:=by
  rw[tz];rintro mm ZZ H D W K ⟨S',a1,a2,rfl,a4,a5⟩ hK v_;obtain⟨Ds,rfl,rR,h3,h4,h6⟩:=hM;have hc:=S.step.size;refine⟨.inl K::Ds,rfl,rR,show(K::Ds.filterMap Sum.getLeft?).Nodup from List.nodup_cons.2 ⟨λh=>?_,h3⟩,λD (hD:D∈K::Ds.filterMap Sum.getLeft?)=>?_,h6⟩
  .have:=(bw.1 (h4 _ h).1).1;omega
  .rcases bu.1 hD with rfl|hD
   .exact⟨v_,ab⟩
   .exact⟨a5 _ _ (h4 D hD).1 rfl,(h4 D hD).2⟩
 have Nt:∀{mm:M}{ZZ:ZM}{H:aw}{D:qt}{W:bF},Inv mm ZZ H D W->rM mm ZZ E ρr:=by rw[tz];rintro mm ZZ H D W ⟨S',a1,a2,_⟩;exact hR.up a2 a1
 refine znh (lb:=l2) (encs:=λx=>[val x]) (ps:=[t]) hx hb (hit l2) (λ_=>rfl) (by simp[htN])
  (λpre D W=>∃q mm ZZ,Inv mm ZZ (hp q) D W/\L (xs.drop pre.length) q=aY z)
  (λco _ D W=>∃H1 mm ZZ e,Inv mm ZZ H1 D W/\Q e E H1 ds/\((co=.ret/\e=.ret)∨∃id,co=.exit id/\e=.exit id))
  (λpre=>⟨?_,?_,?_⟩) (λco pre=>⟨?_,?_,?_⟩) ?_ (Na w m Z (hp q0)) ⟨q0,m,Z,?_,by simpa using hL⟩ (λx=>l3 (l3 ρr t (val x)) d (val x)) ?_ ?_ ?_ ?_ ?_
 .rintro D A B row ⟨q,mm,ZZ,h3,h4⟩ np hr;exact⟨q,mm,ZZ,aa0 h3 np hr,h4⟩
 .rintro D A ⟨q,mm,ZZ,h3,h4⟩;exact aar h3
 .rintro D A ⟨q,mm,ZZ,h3,h4⟩ a x hz;rw[tz]at h3;obtain⟨_,_,_,rfl,_⟩:=h3;exact Or.inr (Or.inr ⟨a,x,hz,rfl⟩)
 .rintro D A B row ⟨H1,mm,ZZ,e,h3,h4⟩ np hr;exact⟨H1,mm,ZZ,e,aa0 h3 np hr,h4⟩
 .rintro D A ⟨H1,mm,ZZ,e,h3,h4⟩;exact aar h3
 .rintro D A ⟨H1,mm,ZZ,e,h3,h4⟩ a x hz;rw[tz]at h3;obtain⟨_,_,_,rfl,_⟩:=h3;exact Or.inr (Or.inr ⟨a,x,hz,rfl⟩)
 .rintro pre D A ⟨q,mm,ZZ,h3,h4⟩;rw[tz]at h3;obtain⟨g1,g2,g3,rfl,g4,g5⟩:=h3;exact⟨mm,pF g1,h2.up g3 λf e=>by cases e;exact⟨mm,rfl,g2⟩⟩
 .rw[tz];exact⟨S,λ_ _ _ e=>e,λ_ _ e=>e,rfl,al,λ_ _ e _=>e⟩
 .intro l x W;refine vt (l:=[_]) ?_;refine wk d (val x) rfl CN rfl rfl (w':=W) (by simp[bP,ev,Fs,l3]) ?_;exact vI ⟨rfl,rfl,rfl⟩
 .rintro l pre x D W ⟨q,mm,ZZ,h3,h4⟩ rA
  have Gi:xs.drop pre.length=x::xs.drop (pre++[x]).length:=by obtain⟨L8,rfl⟩:=rA;simp
  rw[Gi]at h4;have hRx:=Nt h3;have pH:=h3;rw[tz]at pH;obtain⟨S',a1,a2,hD,a4,a5⟩:=pH;have hw:=Bj l x _ q ⟨[],W,mm,ZZ,hp q,rfl,S'.pa⟩ h4 _ W [] ⟨mm,ZZ,⟨Step.refl S'.step.iW,S'.pa⟩,(hRx.put t (aaz _ _ x)).put d (aaz _ _ x)⟩ (wm.nil rfl)
  have tA:∀{m':M}{Z':ZM}{H1:aw}{W':bF},W4 (⟨[],W,mm,ZZ,hp q,rfl,S'.pa⟩:Ctx (keys (hp q))) m' Z' H1 W'->∃D',HI D W W'/\vY D D' W/\Inv m' Z' H1 D' W':=λ{m' Z' H1 W'} S2=>by
   refine⟨Na w m' Z' H1,⟨S2.step.size,λb hb hn=>S2.step.frame b hb λp ka e=>hn (by rw[hD];exact .inr (.inl ⟨p,ka,e⟩))⟩,⟨λb hb=>?_,λa x e=>by rw[hD]at e;exact S2.step.o4 a x e⟩,?_⟩
   .rw[hD]
    rcases hb with hb|⟨p,ka,hb⟩|⟨a,y,ha,rfl⟩
    .exact .inl (.inl hb)
    .rcases S2.step.nZ p ka b hb with h|⟨r,hr,e⟩
     .exact .inr h
     .exact .inl (.inr (.inl ⟨r,hr,e⟩))
    .rcases S2.step.su a y ha with h|h|⟨r,hr,e⟩
     .exact .inl (.inr (.inr ⟨a,y,h,rfl⟩))
     .exact .inr h
     .exact .inl (.inr (.inl ⟨r,hr,e⟩))
   .rw[tz];exact⟨⟨S'.step.trans S2.step,S2.pa⟩,λk L loc e=>S2.step.pM _ _ _ (a1 k L loc e),λa y e=>S2.step.o4 _ _ (a2 a y e),rfl,cY a4 S2.step.size,λb ob hb hl=>S2.step.lp S'.step.iW (a5 b ob hb hl) hl⟩
  refine YF hw λe nO nV W' ⟨ET,Hv,S2,_,hq⟩=>?_
  cases e with
  |normal =>
   obtain⟨q',CU,Jc⟩:=hq;obtain⟨m',Z',S3,_⟩:=Jc _ _ _ S2;obtain⟨D',g1,g2,g3⟩:=tA S3;exact⟨D',g1,g2,q',m',Z',g3,CU⟩
  |ret =>
   obtain⟨H1,Jc,CU⟩:=hq;obtain⟨m',Z',S3,_⟩:=Jc _ _ _ S2;obtain⟨D',g1,g2,g3⟩:=tA S3;exact⟨D',g1,g2,H1,m',Z',.ret,g3,CU,.inl ⟨rfl,rfl⟩⟩
  |exit id =>
   obtain⟨H1,Jc,CU⟩:=hq;obtain⟨m',Z',S3,_⟩:=Jc _ _ _ S2;obtain⟨D',g1,g2,g3⟩:=tA S3;exact⟨D',g1,g2,H1,m',Z',.exit id,g3,CU,.inr ⟨id,rfl,rfl⟩⟩
  |goto l=>exact hq.elim
  |panic ch=>exact hq.elim
  |outgrown=>exact hq.elim
 .rintro K D W hK ⟨q,mm,ZZ,h3,h4⟩ _ _ _ v_;have pH:=h3;rw[tz]at pH;exact⟨E,hp q,⟨mm,ZZ,pH.1,Nt h3⟩,FX K h3 hK v_,Tx q (by simpa using h4)⟩
 .rintro K D pre W hK _ ⟨H1,mm,ZZ,e,h3,hq,⟨_,rfl⟩|⟨id,h,_⟩⟩ _ _ _ v_
  .have pH:=h3;rw[tz]at pH;exact⟨E,H1,⟨mm,ZZ,pH.1,Nt h3⟩,FX K h3 hK v_,hq⟩
  .cases h
 .rintro id K D pre W hK _ ⟨H1,mm,ZZ,e,h3,hq,⟨h,_⟩|⟨id',h,rfl⟩⟩ _ _ _ v_
  .cases h
  .cases h;have pH:=h3;rw[tz]at pH;exact⟨E,H1,⟨mm,ZZ,pH.1,Nt h3⟩,FX K h3 hK v_,hq⟩
end
def zgz{α:Type}(f:Nat->α)(sz:Nat):∀n,(dn (n*sz)).map (λj=>f (j % sz))=(bp n ((dn sz).map f)).flatten
 |0=>ae
 |n+1=>by
  rw[dh,List.range_add,cX,zgz f sz n,List.replicate_succ',eB,cU]
  congr 1
  simp only[cN,List.flatten_nil,cL]
  refine fa λj hj=>?_
  have hj:=List.mem_range.1 hj;simp only[Function.comp];rw[gS,Nat.add_mul_mod_self_right,Nat.mod_eq_of_lt hj]
def zni{m:Option M}{Z:ZM}{zc:Array bx}{n:Nat}(h0:0<zc.size):zC m Z (bp n (zc.toList.map s3)).flatten (madeCells zc (n*zc.size)).toList:=by
 have e:(madeCells zc (n*zc.size)).toList=(bp n zc.toList).flatten:=by
  have h1:(dn zc.size).map (λj=>zc[j]!)=zc.toList:=by
   apply List.ext_getElem
   .simp
   .intro i h1 h2;simp at h1;simp[h1]
  rw[<- h1,<- zgz];simp[madeCells]
 rw[e,<- fg,<- List.map_flatten];exact o6 _
def zC.abl{Z:ZM}{cs cs2:List V}(hw:∀(Z:ZM)(l:List bx),zC bg Z cs l->zC bg Z cs2 l):∀(n:Nat)(l:List bx),zC bg Z (bp n cs).flatten l->zC bg Z (bp n cs2).flatten l
 |0,l,h=>h
 |n+1,l,h=>by rw[fV,cN]at h ⊢;have h1:=h.take cs.length;have h2:=h.drop cs.length;rw[dz]at h1;rw[lf]at h2;rw[<- ek cs.length l];exact zC.append (hw _ _ h1) (zC.abl hw n _ h2)
section
variable{P:bo}{ρ:Env}{dst:Option Tmp}{ty:bK}{pos:String}{aft:Array Edge}{gd:Option (Nat×Bool)}
def zeb{t d e sz bytes n:Nat}{x y:bI}{k k2:IntKind}{cs cs2:List V}(hT:kQ P t=aY (e,sz,bytes))(hz:zeroV P e=aY cs)(hx:aV ρ x=.int k n)(hy:aV ρ y=.int k2 n)(hlen:n*bytes<=281474976710656)(rF:n<=9223372036854775807)
  (hw:∀(Z:ZM)(l:List bx),zC bg Z cs l->zC bg Z cs2 l) (Fh:cs2.length=cs.length):
  Loc P ⟨dst,.makeSlice t x y,ty,pos,aft,gd⟩ ρ [] (.sl sz d n 0 n) [(d,.row e sz 0 (bp n cs2))]:=by
 intro ρr m Z w e9 hs lR
 have hX:ev ρr x=.int k n:=by have:=e9 x (by simp[Op.operands]);rw[hx]at this;exact this
 have hY:ev ρr y=.int k2 n:=by have:=e9 y (by simp[Op.operands]);rw[hy]at this;exact this
 obtain⟨i,z,hu,hi,GZ,h_,hb,h0,E3⟩:=kS hT
 have nD:cs=z.cells.toList.map s3:=by simp only[zeroV,hi,GZ,Option.some.injEq]at hz;exact hz.symm
 subst nD;have mO:=run_make (P:=P) (w:=w) t e i z hu hi GZ k k2 (n:Int) (n:Int) ab ab (by rw[hb,iF];omega) ab;have e1:((n:Int).toNat)=n:=ab;rw[e1]at mO
 have NA:z.cells.size=i.size:=by rw[h0,h_]
 have mY:cs2.length=i.size:=by rw[Fh];simp[NA]
 have sI:(bp n cs2).length=n:=ae
 obtain⟨m',h2,h3⟩:=Step.new (m:=m) (Z:=Z) (w:=w) (k:=d) (o:=.row e sz 0 (bp n cs2)) (.cells (madeCells z.cells (n*i.size)) e) n hs.frozen (λL=>lR d (by simp[keys]) (by simp[keys]) L) λm' g1 g2 g3=>by
  by_cases pg:n=0
  .subst pg;have CV:(Obj.row e sz 0 (bp 0 cs2)).ver=0:=rfl;rw[CV]at g1;exact .inl ⟨E3,rfl,rfl,⟨_,g1⟩,λL l e=>by have:=g2 L l e;rw[CV]at this;omega⟩
  have rb:(Obj.row e sz 0 (bp n cs2)).ver=n:=sI;rw[rb]at g1;have tT:=zni (m:=bg) (Z:=Z) (zc:=z.cells) (n:=n) ab;rw[NA]at tT;have tT:=zC.abl hw n _ tT;refine .inr ⟨w.heap.size,n,madeCells z.cells (n*i.size),(0,0),by rw[sI];exact g1,ab,World.alloc_heap_new w _,by rw[sI];exact fv _,by simp only[maxLen];omega,by rw[size_madeCells,h_],ab,?_,?_,ae,ae,λa x ha e=>by have:=xv hs.frozen ha;omega,λL l e=>by have:=g2 L l e;rw[rb]at this;rw[sI];omega,λoff x ho=>ab⟩
  .rw[sI,<- h_,du (by simp[size_madeCells])];exact tT
  .intro c hc;rw[List.eq_of_mem_replicate hc,mY,h_]
 have rb:(Obj.row e sz 0 (bp n cs2)).ver=n:=sI;rw[rb]at h3;refine⟨rfl,.inl ⟨.slice (aY ⟨w.heap.size,0,bg⟩) n n,w.alloc (.cells (madeCells z.cells (n*i.size)) e),?_,m',Z,h2,m',_,rfl,h3,ae,by simp only[maxLen];omega,.inl ae⟩⟩;simp only[bP,hX,hY,Sem.run_bind,mO,Result.andThen_ok,Sem.run_pure]
def oK{t d e sz bytes L:Nat}{q:Int}{x y:bI}{k k2:IntKind}{cs cs2:List V}{all:List (List V)}(hT:kQ P t=aY (e,sz,bytes))(hz:zeroV P e=aY cs)(hx:aV ρ x=.int k q)(hy:aV ρ y=.int k2 q)(Fh:bm cs2.length cs.length=bh)(h0:0<=q)(hlen:q*bytes<=281474976710656)(rF:q<=9223372036854775807)(nF:bp q.toNat cs2=all)(hL:L=q.toNat)(hw:∀(Z:ZM)(l:List bx),zC bg Z cs l->zC bg Z cs2 l):
  Loc P ⟨dst,.makeSlice t x y,ty,pos,aft,gd⟩ ρ [] (.sl sz d L 0 L) [(d,.row e sz 0 all)]:=by
 subst nF hL;have e1:q=((q.toNat:Nat):Int):=ab
 exact zeb hT hz (by rw[<- e1];exact hx) (by rw[<- e1];exact hy) (by
   have:((q.toNat*bytes:Nat):Int)<=281474976710656:=by rw[iX,<- e1];exact hlen
   omega) ab hw (eb Fh)
end
def zg0{Z:ZM}:∀(n:Nat)(l:List bx),zC bg Z (bp n [V.gg]).flatten l->l=bp n (Value.slice bg 0 0)
 |0,l,h=>by
  have:l=[]:=h;subst this;rfl
 |n+1,l,h=>by rw[fV,cN]at h;obtain⟨x,xs,rfl,h2,h3⟩:=h;have h2:x=.slice bg 0 0:=h2;subst h2;rw[zg0 n xs h3,fV]
section
variable{P:bo}{ρ:Env}{dst:Option Tmp}{ty:bK}{pos:String}{aft:Array Edge}{gd:Option (Nat×Bool)}
def zg1{t d e e2 sz2 bytes n:Nat}{x y:bI}{k k2:IntKind}(hT:kQ P t=aY (e,1,bytes))(hz:zeroV P e=aY [.gg])(hx:aV ρ x=.int k n)(hy:aV ρ y=.int k2 n)(hlen:n*bytes<=281474976710656)(rF:n<=9223372036854775807)(Fl:0<sz2):
  Loc P ⟨dst,.makeSlice t x y,ty,pos,aft,gd⟩ ρ [] (.sl 1 d 0 0 n) [(d,.nest e e2 sz2 bg (bp n []))]:=by
 intro ρr m Z w e9 hs lR
 have hX:ev ρr x=.int k n:=by have:=e9 x (by simp[Op.operands]);rw[hx]at this;exact this
 have hY:ev ρr y=.int k2 n:=by have:=e9 y (by simp[Op.operands]);rw[hy]at this;exact this
 obtain⟨i,z,hu,hi,GZ,h_,hb,h0,E3⟩:=kS hT
 have nD:[V.gg]=z.cells.toList.map s3:=by simp only[zeroV,hi,GZ,Option.some.injEq]at hz;exact hz.symm
 have mO:=run_make (P:=P) (w:=w) t e i z hu hi GZ k k2 (n:Int) (n:Int) ab ab (by rw[hb,iF];omega) ab;have e1:((n:Int).toNat)=n:=ab;rw[e1]at mO
 have NA:z.cells.size=i.size:=by rw[h0,h_]
 have UI:i.size=1:=h_
 obtain⟨m',h2,h3⟩:=Step.new (m:=m) (Z:=Z) (w:=w) (k:=d) (o:=.nest e e2 sz2 bg (bp n [])) (.cells (madeCells z.cells (n*i.size)) e) n hs.frozen (λL=>lR d (by simp[keys]) (by simp[keys]) L) λm' g1 g2 g3=>by
  have rb:(Obj.nest e e2 sz2 bg (bp n [])).ver=0:=rfl;rw[rb]at g1;have g2:∀L l,m' d L=aY l->L=0:=g2
  show xD (m' d) Z _ e e2 sz2 bg (bp n [])
  refine .inr ⟨Fl,?_⟩;by_cases pg:n=0
  .subst pg;exact .inl ⟨rfl,⟨_,g1⟩,g2⟩
  have tT:=zni (m:=bg) (Z:=Z) (zc:=z.cells) (n:=n) ab;rw[NA,<- nD]at tT;have Gk:=zg0 n _ tT
  refine .inr ⟨w.heap.size,n,madeCells z.cells (n*i.size),(0,0),g1,ab,World.alloc_heap_new w _,rfl,by rw[size_madeCells,UI,gE],ae,by simp only[maxLen];omega,
   λa x ha e=>by (have:=xv hs.frozen ha;omega),λj l hl=>?_,λj1 j2 c1 c2 g q1 q2 _ _ _ _=>by rw[g2 _ _ q1,g2 _ _ q2],λL loc q=>.inl (g2 L loc q)⟩
  have hj:j<n:=by have:=(bq.1 hl).1;simpa using this
  have hl:l=[]:=by rw[dY,aO hj]at hl;exact(Option.some.inj hl).symm
  subst hl;refine⟨.slice bg 0 0,.inl ⟨rfl,rfl,?_⟩,λ_=>?_⟩
  .cases hq:m' d (code j 0)with
   |none=>rfl
   |some q=>have:=g2 _ _ hq;have:=K5 j 0;omega
  .rw[<- Array.getElem?_toList,Gk,dY,aO hj]
 have rb:(Obj.nest e e2 sz2 bg (bp n [])).ver=0:=rfl;rw[rb]at h3;refine⟨rfl,.inl ⟨.slice (aY ⟨w.heap.size,0,bg⟩) n n,w.alloc (.cells (madeCells z.cells (n*i.size)) e),?_,m',Z,h2,m',_,rfl,h3,ae,by simp only[maxLen];omega,.inl ae⟩⟩;simp only[bP,hX,hY,Sem.run_bind,mO,Result.andThen_ok,Sem.run_pure]
def CN(sz k i:Nat)(l:List (List V)):V:=match l with|[]=>.gg|_=>.sl sz k (code i l.length) 0 l.length
def zC3{m:M}{Z:ZM}{w:bF}{e sz k i:Nat}{l:List (List V)}{h:bx}(hI:RV (m k) Z w e sz i l (aY h)):aT (aY m) Z (CN sz k i l) h:=by
 rcases hI with⟨rfl,e1,_⟩|⟨b,cap,cur,fr,e1,e2,e3,_,_,e6,e7,_⟩
 .cases e1;rfl
 .cases e1
  cases l with
  |nil=>simp at e3
  |cons a l=>exact⟨m,_,rfl,e2,by simpa using e6,e7,.inl ae⟩
def zg2{t et e2 sz2 k i:Nat}{pd:Option Nat}{a:bI}{ls:List (List (List V))}{l:List (List V)}(ha:aV ρ a=.ptr k 0 i)(hl:ls[i]?=aY l)(hpd:pd≠aY i)(hv:nr P t [V.gg] 0=aY .gg):
  Loc P ⟨dst,.load t a,ty,pos,aft,gd⟩ ρ [(k,.nest et e2 sz2 pd ls)] (CN sz2 k i l) [(k,.nest et e2 sz2 pd ls)]:=by
 intro ρr m Z w e9 hs _;have hX:=e9 a (by simp[Op.operands]);rw[ha]at hX;obtain⟨f,loc,e1,Lf,e3⟩:=hX;cases e1;have hh:xD (m k) Z w et e2 sz2 pd ls:=hs.holds _ (b_.2 rfl)
 obtain⟨rfl,_⟩|⟨_,⟨rfl,_,_⟩|⟨b,cap,cur,fr,h1,h2,h3,h4,h5,h6,h7,h8,h9,_⟩⟩:=hh
 .simp at hl
 .simp at hl
 rw[h1]at Lf;cases Lf;obtain⟨hd,hI,hc⟩:=h9 i l hl
 have pj:w.cell? ⟨b,i,bg⟩=aY hd:=by rw[cell_of_row w b i cur et fr h3];exact hc hpd
 refine⟨rfl,.inl ?_⟩;unfold nr at hv;split at hv
 .rename_i nk;exact⟨hd,w,xu (xO nk) e3 pj,m,Z,Step.refl hs,zC3 hI⟩
 .rename_i n nk;split at hv
  .simp at hv
  .cases hv
 .cases hv
end
section
variable{m:M}{Z:ZM}{w w':bF}
def Step.TV{k t e sz i nb cap':Nat}{ls:List (List (List V))}{l all:List (List V)}{cur':Array bx}{fr':Nat×Nat}(hs:w8 m Z [(k,.nest t e sz bg ls)] w)(hl:ls[i]?=aY l)(ib:l.length<all.length)
  (G2:w.heap.size<=nb∨∃c0,m k (code i l.length)=aY (nb,c0)/\c0≠0) (Jn:w.heap.size<=w'.heap.size) (hos:w'.os=w.os) (htp:w'.tape=w.tape) (hou:w'.output=w.output)
  (hold:∀b,b<w.heap.size->b≠nb->w'.heap[b]?=w.heap[b]?) (mU:w'.heap[nb]?=aY (.cells cur' e fr')) (lR:fr'.2=0) (EG:all.length<=cap') (tf:cap'<=maxLen) (nD:cur'.size=cap'*sz)
  (hr:zC bg Z all.flatten (cur'.toList.take (all.length*sz))) (hk:∀x∈all,x.length=sz):
  ∃m',Step m Z [(k,.nest t e sz bg ls)] w m' Z [(k,.nest t e sz (aY i) (ls.set i all))] w'/\m' k (code i all.length)=aY (nb,cap'):=by
 have hh:xD (m k) Z w t e sz bg ls:=hs.holds _ (b_.2 rfl)
 have ny:∀b,Ep (m k) ls b->b<w.heap.size:=λb hb=>by obtain⟨_,_,_,h⟩:=xD.own hh hb;exact(bw.1 h).1
 obtain⟨rfl,_⟩|⟨h0,⟨rfl,_,_⟩|⟨b,cap,cur,fr,h1,h2,h3,h4,h5,h6,h7,h8,h9,pW,pX⟩⟩:=hh
 .simp at hl
 .simp at hl
 let m':M:=λk' L=>if k'=k/\L=code i all.length then aY (nb,cap')else m k' L
 have sg:m' k (code i all.length)=aY (nb,cap'):=by simp[m']
 have B5:∀L,L≠code i all.length->m' k L=m k L:=λL h=>by simp[m',h]
 have NH:m k (code i all.length)=bg:=by
  cases hq:m k (code i all.length)with
  |none=>rfl
  |some q =>
   rcases pX _ _ hq with h|⟨i',n,l',g1,g2,g3⟩
   .have:=K5 i all.length;omega
   .obtain⟨rfl,rfl⟩:=JF g3;rw[hl]at g1;cases g1;omega
 have y7:∀k' L loc,m k' L=aY loc->m' k' L=aY loc:=λk' L loc e=>by
  by_cases hc:k'=k/\L=code i all.length
  .obtain⟨rfl,rfl⟩:=hc;rw[NH]at e;cases e
  .simp only[m',aN hc];exact e
 have hi:i<ls.length:=(bq.1 hl).1
 have Ny:∀j l',(ls.set i all)[j]?=aY l'->(j=i/\l'=all)∨(j≠i/\ls[j]?=aY l'):=λj l' h=>by
  rw[dH]at h;split at h
  .rename_i tg;subst tg;simp only[hi,if_true,Option.some.injEq]at h;exact .inl ⟨rfl,h.symm⟩
  .rename_i tg;exact .inr ⟨λe=>tg e.symm,h⟩
 have aaH:code i all.length≠0:=by have:=K5 i all.length;omega
 -- what is owned before, but the row that grows, is not the new block
 have Iq:∀j g c,(j=0∨∃i' l',i'≠i/\ls[i']?=aY l'/\j=code i' l'.length)->m k j=aY (g,c)->c≠0->g<w.heap.size/\g≠nb:=λj g c hj hg hc=>by
  have rU:j=0∨∃i l,ls[i]?=aY l/\j=code i l.length:=hj.imp_right λ⟨i',l',_,h,e⟩=>⟨i',l',h,e⟩
  have EJ:=ny g ⟨j,c,hg,hc,rU⟩;refine⟨EJ,λe=>?_⟩;subst e
  rcases G2 with h|⟨c0,h,nQ⟩
  .omega
  .have:=pW _ _ _ _ _ hg h rU (.inr ⟨i,l,hl,rfl⟩) hc nQ
   rcases hj with rfl|⟨i',l',lD,_,rfl⟩
   .have:=K5 i l.length;omega
   .exact lD (JF this).1
 have CB:∀j,(j=0∨∃i' l',(ls.set i all)[i']?=aY l'/\j=code i' l'.length)->j=code i all.length∨(j≠code i all.length/\(j=0∨∃i' l',i'≠i/\ls[i']?=aY l'/\j=code i' l'.length)):=λj hj=>by
  rcases hj with rfl|⟨i',l',h,rfl⟩
  .exact .inr ⟨aaH.symm,.inl rfl⟩
  .rcases Ny _ _ h with⟨rfl,rfl⟩|⟨lD,h⟩
   .exact .inl rfl
   .exact .inr ⟨λe=>lD (JF e).1,.inr ⟨i',l',lD,h,rfl⟩⟩
 have Uz:∀a x,Z a=aY x->a.block<w.heap.size/\a.block≠nb:=λa x ha=>by
  have EJ:=xv hs.frozen ha;refine⟨EJ,λe=>?_⟩
  rcases G2 with h|⟨c0,h,nQ⟩
  .omega
  .obtain⟨hd,hI,_⟩:=h9 i l hl
   rcases hI with⟨rfl,_,e4⟩|⟨b',cp,cu,f',_,g2,_,_,_,_,_,_,_,_,g11⟩
   .rw[dw,e4]at h;cases h
   .rw[g2]at h;cases h;exact g11 a x ha e
 have hlen:(ls.set i all).length=ls.length:=ae;have rR:=Iq 0 b cap (.inl rfl) h1 ab;refine⟨m',⟨⟨λa x ha=>?_,λp hp=>?_,by simp[keys],λp hp q hq _ _ _=>?_⟩,y7,λ_ _ e=>e,hos,htp,hou,Jn,λj hj hn=>hold j hj λe=>?_,λj hj=>by simpa[keys]using hj,λj hj=>?_,λp hp b' hb=>?_,λa x ha=>.inl ha⟩,sg⟩
 .obtain⟨q1,q2⟩:=Uz a x ha;rw[jF (hold _ q1 q2)];exact hs.frozen a x ha
 .simp only[b_]at hp;subst hp
  show xD (m' k) Z w' t e sz (aY i) (ls.set i all)
  refine .inr ⟨h0,.inr ⟨b,cap,cur,fr,by rw[B5 0 aaH.symm];exact h1,h2,(hold b rR.1 rR.2).trans h3,h4,h5,by rw[hlen];exact h6,h7,h8,λj lj hj=>?_,λj1 j2 c1 c2 g q1 q2 q3 q4 q5 q6=>?_,λL loc hL=>?_⟩⟩
  .rcases Ny _ _ hj with⟨rfl,rfl⟩|⟨lD,hj⟩
   .exact⟨_,.inr ⟨nb,cap',cur',fr',rfl,sg,ab,mU,lR,EG,tf,nD,hr,hk,λa x ha=>(Uz a x ha).2⟩,λh=>aQ rfl h⟩
   .obtain⟨hd,hI,hc⟩:=h9 j lj hj;refine⟨hd,?_,λ_=>hc ae⟩
    rcases hI with⟨e1,e2,e3⟩|⟨b',cp,cu,f',g1,g2,g3,g4,g5⟩
    .exact .inl ⟨e1,e2,by rw[B5 _ λe=>lD (JF e).1];exact e3⟩
    .have OB:cp≠0:=by have:=g5.2.1;omega
     have hq:=Iq _ b' cp (.inr ⟨j,lj,lD,hj,rfl⟩) g2 OB;exact .inr ⟨b',cp,cu,f',g1,by rw[B5 _ λe=>lD (JF e).1];exact g2,g3,(hold b' hq.1 hq.2).trans g4,g5⟩
  .rcases CB _ q3 with r1|⟨r1,LX⟩<;>rcases CB _ q4 with r2|⟨r2,Vz⟩
   .rw[r1,r2]
   .rw[r1,sg]at q1;cases q1;rw[B5 _ r2]at q2;exact aQ rfl (Iq _ _ _ Vz q2 q6).2
   .rw[r2,sg]at q2;cases q2;rw[B5 _ r1]at q1;exact aQ rfl (Iq _ _ _ LX q1 q5).2
   .rw[B5 _ r1]at q1;rw[B5 _ r2]at q2;exact pW _ _ _ _ _ q1 q2 (LX.imp_right λ⟨a,b,_,c,d⟩=>⟨a,b,c,d⟩) (Vz.imp_right λ⟨a,b,_,c,d⟩=>⟨a,b,c,d⟩) q5 q6
  .by_cases hc:L=code i all.length
   .exact .inr ⟨i,all.length,all,by rw[dH];simp[hi],al,hc⟩
   .rw[B5 L hc]at hL
    rcases pX _ _ hL with h|⟨i',n,l',g1,g2,g3⟩
    .exact .inl h
    .by_cases rj:i'=i
     .subst rj;rw[hl]at g1;cases g1;exact .inr ⟨i',n,all,by rw[dH];simp[hi],ab,g3⟩
     .exact .inr ⟨i',n,l',by rw[dH,aN (λe=>rj e.symm)];exact g1,g2,g3⟩
 .simp only[b_]at hp hq;subst hp;subst hq;rfl
 .subst e
  rcases G2 with h|⟨c0,h,nQ⟩
  .omega
  .exact hn _ (b_.2 rfl) ⟨_,c0,h,nQ,.inr ⟨i,l,hl,rfl⟩⟩
 .funext L
  have:j≠k:=by simpa[keys]using hj
  simp[m',this]
 .simp only[b_]at hp;subst hp;obtain⟨j,c,q1,q2,q3⟩:=hb
  rcases CB _ q3 with r1|⟨r1,LX⟩
  .rw[r1,sg]at q1;cases q1
   rcases G2 with h|⟨c0,h,nQ⟩
   .exact .inl h
   .exact .inr ⟨_,b_.2 rfl,_,c0,h,nQ,.inr ⟨i,l,hl,rfl⟩⟩
  .rw[B5 _ r1]at q1;exact .inr ⟨_,b_.2 rfl,j,c,q1,q2,LX.imp_right λ⟨a,b,_,c,d⟩=>⟨a,b,c,d⟩⟩
end
section
variable{P:bo}{ρ:Env}{dst:Option Tmp}{ty:bK}{pos:String}{aft:Array Edge}{gd:Option (Nat×Bool)}
def zat{t et e sz bytes k i:Nat}{x y:bI}{ls:List (List (List V))}{l ys:List (List V)}{R:aw}(hT:kQ P t=aY (e,sz,bytes))(hx:aV ρ x=CN sz k i l)(hl:ls[i]?=aY l)(hy:Src sz R (aV ρ y) ys)
  (h1:∀c∈ys,c.all V.one=bh) (rl:ys≠[]) (hlen:(l.length+ys.length)*bytes<=140737488355328) (rF:l.length+ys.length<=9223372036854775807) (sf:wj k R=bf) (nu:∀c∈ys,c.length=sz):
  Loc P ⟨dst,.call ⟨.builtin .append,#[x,y],#[t,t]⟩,ty,pos,aft,gd⟩ ρ ((k,.nest et e sz bg ls)::R) (.sl sz k (code i (l++ys).length) 0 (l++ys).length) ((k,.nest et e sz (aY i) (ls.set i (l++ys)))::R):=by
 intro ρr m Z w e9 hs mU;obtain⟨ti,z,hu,hi,hz,Dn,CQ,Ca,h0⟩:=kS hT;subst Dn;subst CQ;have hX:=e9 x (by simp[Op.operands,Call.operands]);have hY:=e9 y (by simp[Op.operands,Call.operands]);rw[hx]at hX;have rG:w8 m Z [(k,.nest et e ti.size bg ls)] w:=w8.left (F:=[(k,.nest et e ti.size bg ls)]) (G:=R) hs;have B8:w8 m Z R w:=w8.left (F:=R) (G:=[(k,.nest et e ti.size bg ls)]) (hs.perm (dx (l₁:=[(k,Obj.nest et e ti.size bg ls)]) (l₂:=R)));obtain⟨A,c,td,U8,hA,EO⟩:=hy.read h0 B8 hY
 have lR:∀{m' Z' w'},Step m Z [(k,.nest et e ti.size bg ls)] w m' Z' [(k,.nest et e ti.size (aY i) (ls.set i (l++ys)))] w'->Step m Z ((k,.nest et e ti.size bg ls)::R) w m' Z' ((k,.nest et e ti.size (aY i) (ls.set i (l++ys)))::R) w':=λh =>
  Step.Bk (F:=[(k,.nest et e ti.size bg ls)]) (G:=R) (F':=[(k,.nest et e ti.size (aY i) (ls.set i (l++ys)))]) hs h λp hp q hq e'=>by simp only[b_]at hp;subst hp;have e':k=q.1:=e';rw[yt.2 (by rw[e'];exact ax hq)]at sf;cases sf
 have fin:∀{v w'},(Builtin.append_ #[t,t] ty #[ev ρr x,ev ρr y]).run P w=.ok v w'->(bP (ev ρr) ⟨dst,.call ⟨.builtin .append,#[x,y],#[t,t]⟩,ty,pos,aft,gd⟩).run P w=.ok (.value v) w':=λh=>by simp[bP,resolve,invoke,builtin,h]
 have pU:(l++ys).length=l.length+ys.length:=ae;have pg:0<ys.length:=eC.2 rl
 obtain⟨a,rfl⟩:∃a,A=aY a:=by
  cases A with
  |none=>exact aQ (hA rfl) rl
  |some a=>exact⟨a,rfl⟩
 obtain⟨news,mN,ng⟩:=EO a rfl
 have mv:news.length=ys.length*ti.size:=by rw[mN.length,xw nu]
 have Bh:∀u∈news,u.oneCell'=bh:=Q9 mN (bl.2 λv hv=>by
  obtain⟨c,hc,Ea⟩:=fI.1 hv
  exact(bl.1 (h1 c hc)) v Ea)
 have Cy:l.length+ys.length<=maxLen:=by simp only[maxLen];omega
 have hh:xD (m k) Z w et e ti.size bg ls:=rG.holds _ (b_.2 rfl);have hhR:xD (m k) Z w et e ti.size bg ls:=hh
 obtain⟨rfl,_⟩|⟨_,⟨rfl,_,_⟩|⟨b0,BS,afp,fr0,_,_,_,_,_,_,_,_,h9,_,_⟩⟩:=hh
 .simp at hl
 .simp at hl
 obtain⟨hd,hI,mY⟩:=h9 i l hl
 have Tb:∀w1:bF,w1.heap=w.heap->∀o,(w1.alloc o).heap.size=w.heap.size+1:=λw1 h o=>by simp[h]
 rcases hI with⟨rfl,hq,tK⟩|⟨b,cap,cur,fr,hq,g1,ads,g2,GC,g3,g4,g5,g7,g8,g11⟩
 .-- the inner row is nil
  cases hq;have hX:ev ρr x=.slice bg 0 0:=hX;have np:=grownCap_ge w ys.length 0 e;have sy:=grownCap_le_maxLen w ys.length 0 e (by simpa using Cy);have hr:=run_append_nil (P:=P) w t ty e ti z hu hi hz a ys.length c news mv ng pg ab (by have:=hlen;simp only[dw,cl]at this;omega)
  obtain⟨m',gy,pR⟩:=Step.TV (w':=w.drew.alloc (.cells (news.toArray++Builtin.zeroCells z.cells (grownCap w ys.length 0 e-ys.length)) e)) (nb:=w.heap.size) (cap':=grownCap w ys.length 0 e) (cur':=news.toArray++Builtin.zeroCells z.cells (grownCap w ys.length 0 e-ys.length)) (fr':=(0,0)) (all:=[]++ys) rG hl (by simpa using pg) (.inl al)
   (by rw[Tb w.drew rfl];omega) rfl rfl rfl (λj hj _=>Below.heap_alloc w.drew _ j hj) (World.alloc_heap_new w.drew _) rfl (by simpa using np) sy
   (by simp only[eP,cS,size_zeroCells,Ca,mv,<- da];congr 1;omega)
   (by
    have:(news.toArray++Builtin.zeroCells z.cells (grownCap w ys.length 0 e-ys.length)).toList.take (([]++ys:List (List V)).length*ti.size)=news:=by simp only[eE,cw,<- mv];exact dz
    rw[this];simpa using mN) (by simpa using nu)
  exact⟨rfl,.inl ⟨_,_,fin (by rw[hX,td];exact hr),m',Z,lR gy,m',_,rfl,pR,by simpa using np,sy,.inl ae⟩⟩
 .cases hq
  have y5:l≠[]:=by rintro rfl;simp at ads
  have hX:aT (aY m) Z (.sl ti.size k (code i l.length) 0 l.length) (ev ρr x):=by
   cases l with
   |nil=>exact aQ rfl y5
   |cons=>exact hX
  obtain⟨f,loc,e1,e2,e3,e4,e5⟩:=hX;cases e1;rw[g1]at e2;cases e2
  have e5:ev ρr x=.slice (aY ⟨b,0,bg⟩) l.length cap:=by
   rcases e5 with e5|⟨e5,_⟩|⟨e5,_⟩
   .simpa using e5
   .simp only at e5;omega
   .omega
  have afz:b<w.heap.size:=(bw.1 g2).1
  have mY:cur.toList.length=cap*ti.size:=by simpa using g5
  have B1:=xw g8;by_cases Bi:l.length+ys.length<=cap
  .have tB:l.length*ti.size+news.length<=cur.size:=by rw[mv,g5,<- da];exact ck _ Bi
   have hr:=run_append_roomF (P:=P) w t ty e ti hu hi b l.length cap cur fr g2 ab a ys.length c news mv ng Bh Bi tB
   have ib:l.length*ti.size<=cur.toList.length:=by rw[mY];exact ck _ g3
   obtain⟨m',gy,pR⟩:=Step.TV (w':=w.setRow b (cur.toList.take (l.length*ti.size)++news++cur.toList.drop (l.length*ti.size+news.length)).toArray) (nb:=b) (cap':=cap) (cur':=(cur.toList.take (l.length*ti.size)++news++cur.toList.drop (l.length*ti.size+news.length)).toArray) (fr':=fr) (all:=l++ys) rG hl (by simp;omega) (.inr ⟨cap,g1,ab⟩)
    ae rfl rfl rfl (λj hj lD=>setRow_other w b j _ lD) (setRow_heap w b cur _ e fr g2) GC ab g4
    (by simp only[cS,la,bY,cF];(have:cur.size=cur.toList.length:=ae);omega)
    (by
     have e6:((l++ys).length*ti.size)=(cur.toList.take (l.length*ti.size)++news).length:=by
      have h7:(cur.toList.take (l.length*ti.size)).length=l.length*ti.size:=by rw[bY];omega
      rw[pU,la (a:=cur.toList.take (l.length*ti.size)),h7,mv,da]
     rw[e6,xP];simp only[];rw[dz]
     exact g7.append mN)
    (λc hc=>by
     rcases bJ.1 hc with hc|hc
     .exact g8 c hc
     .exact nu c hc)
   exact⟨rfl,.inl ⟨_,_,fin (by rw[e5,td];exact hr),m',Z,lR gy,m',_,rfl,pR,by simp only[pU];omega,g4,.inl (by simp[pU])⟩⟩
  .have np:=grownCap_ge w (l.length+ys.length) cap e;have sy:=grownCap_le_maxLen w (l.length+ys.length) cap e Cy
   have pE:(cur.toList.take (l.length*ti.size)).length=l.length*ti.size:=by rw[bY,mY];exact eH (ck _ g3)
   have hr:=run_append_grow (P:=P) w t ty e ti z hu hi hz ⟨b,0,bg⟩ l.length cap (cur.toList.take (l.length*ti.size)) pE (λj v h=>by
    rw[Addr.add_lit,cl,cell_of_row w b j cur e fr g2];rw[cj]at h;split at h
    .simpa using h
    .cases h) a ys.length c news mv ng ab ab (growslice_fits ab hlen)
   obtain⟨m',gy,pR⟩:=Step.TV (w':=w.drew.alloc (.cells ((cur.toList.take (l.length*ti.size)).toArray++news.toArray++Builtin.zeroCells z.cells (grownCap w (l.length+ys.length) cap e-(l.length+ys.length))) e)) (nb:=w.heap.size) (cap':=grownCap w (l.length+ys.length) cap e) (cur':=(cur.toList.take (l.length*ti.size)).toArray++news.toArray++Builtin.zeroCells z.cells (grownCap w (l.length+ys.length) cap e-(l.length+ys.length))) (fr':=(0,0)) (all:=l++ys) rG hl (by simp;omega) (.inl al)
    (by rw[Tb w.drew rfl];omega) rfl rfl rfl (λj hj _=>Below.heap_alloc w.drew _ j hj) (World.alloc_heap_new w.drew _) rfl ab sy
    (by simp only[eP,cS,size_zeroCells,Ca,mv,pE,<- da];congr 1;omega)
    (by
     have e6:((l++ys).length*ti.size)=(cur.toList.take (l.length*ti.size)++news).length:=by rw[pU,la (a:=cur.toList.take (l.length*ti.size)),pE,mv,da]
     rw[e6,xP];simp only[eE];rw[dz]
     exact g7.append mN)
    (λc hc=>by
     rcases bJ.1 hc with hc|hc
     .exact g8 c hc
     .exact nu c hc)
   exact⟨rfl,.inl ⟨_,_,fin (by rw[e5,td];exact hr),m',Z,lR gy,m',_,rfl,pR,by simp only[pU];omega,sy,.inl (by simp[pU])⟩⟩
def zec{t et e sz k i:Nat}{a x:bI}{ls:List (List (List V))}{l:List (List V)}(ha:aV ρ a=.ptr k 0 i)(hl:ls[i]?=aY l)(h0:0<l.length)(hx:aV ρ x=.sl sz k (code i l.length) 0 l.length)(h_:vJ P t 1=bh):
  Loc P ⟨dst,.store t a x,ty,pos,aft,gd⟩ ρ [(k,.nest et e sz (aY i) ls)] .no [(k,.nest et e sz bg ls)]:=by
 intro ρr m Z w e9 hs _;have hX:=e9 a (by simp[Op.operands]);rw[ha]at hX;obtain⟨f,loc,e1,e2,e3⟩:=hX;cases e1;have hY:=e9 x (by simp[Op.operands]);rw[hx]at hY;have hh:xD (m k) Z w et e sz (aY i) ls:=hs.holds _ (b_.2 rfl)
 obtain⟨rfl,_⟩|⟨tk,⟨rfl,_,_⟩|⟨b,cap,cur,fr,h1,h2,h3,h4,h5,h6,h7,h8,h9,pW,pX⟩⟩:=hh
 .simp at hl
 .simp at hl
 rw[h1]at e2;cases e2;have hi:i<ls.length:=(bq.1 hl).1;obtain⟨hd,hI,_⟩:=h9 i l hl
 have hhd:ev ρr x=hd:=by
  rcases hI with⟨rfl,_⟩|⟨b',cp,cu,f',q1,q2,q3,_,_,q6,_⟩
  .simp at h0
  .obtain⟨f,loc,r1,r2,r3,r4,r5⟩:=hY;cases r1;rw[q2]at r2;cases r2;cases q1
   rcases r5 with r5|⟨r5,_⟩|⟨r5,_⟩
   .simpa using r5
   .simp only at r5;omega
   .omega
 have S9:hd.oneCell'=bh:=by
  rcases hI with⟨_,e,_⟩|⟨b',cp,cu,f',e,_⟩<;>cases e<;>rfl
 have Gk:hd.cells=#[hd]:=by
  rcases hI with⟨_,e,_⟩|⟨b',cp,cu,f',e,_⟩<;>cases e<;>rfl
 unfold vJ at h_;split at h_
 .rename_i ii rj;have DX:=eb h_;have gy:=run_storeCells_atF P b i et fr [hd] 0 cur w h3 ab (by simp;omega) (by simpa using S9);simp only[dK,List.length_singleton]at gy;refine⟨rfl,.inr (.inl ⟨w.setRow b (cur.toList.take i++[hd]++cur.toList.drop (i+1)).toArray,?_,m,Z,?_,rfl⟩)⟩
  .have EL:(storeCells ⟨b,i,bg⟩ [hd]).run P w=.ok () (w.setRow b (cur.toList.take i++hd::cur.toList.drop (i+1)).toArray):=by simpa using gy
   simp[bP,Instr.storeAt,e3,Instr.sureAddr,storeVar,sizeOf,typeInfo,rj,hhd,Gk,DX,EL]
  .have Ny:(cur.toList.take i++[hd]++cur.toList.drop (i+1)).toArray=cur.setIfInBounds i hd:=by
    apply Array.ext';rw[Array.toList_setIfInBounds]
    have B2:i<cur.toList.length:=by simpa using(by omega:i<cur.size)
    rw[fw,aO B2];simp
   rw[Ny];refine Step.write (b:=b) hs (show Ep (m k) ls b from⟨0,cap,h1,ab,.inl rfl⟩) (λb2 h=>h) rfl rfl rfl ae (λq hq=>setRow_other w b q _ hq) (λaa y w_ e'=>aQ e' (h8 aa y w_)) ?_
   show xD (m k) Z _ et e sz bg ls
   refine .inr ⟨tk,.inr ⟨b,cap,_,fr,h1,h2,setRow_heap w b cur _ et fr h3,h4,by simpa using h5,h6,h7,h8,λj lj hj=>?_,pW,pX⟩⟩;obtain⟨mA,pD,pc⟩:=h9 j lj hj
   have TB:RV (m k) Z (w.setRow b (cur.setIfInBounds i hd)) e sz j lj (aY mA):=by
    rcases pD with hh|⟨b',cp,cu,f',q1,q2,q3,q4,q5⟩
    .exact .inl hh
    .refine .inr ⟨b',cp,cu,f',q1,q2,q3,(setRow_other w b b' _ λe=>?_).trans q4,q5⟩;subst e;have:=pW _ _ _ _ _ h1 q2 (.inl rfl) (.inr ⟨j,lj,hj,rfl⟩) ab (by have:=q5.2.1;omega);have:=K5 j lj.length;omega
   refine⟨mA,TB,λ_=>?_⟩;rw[Array.getElem?_setIfInBounds];split
   .rename_i tg;subst tg
    have:lj=l:=by rw[hl]at hj;exact(Option.some.inj hj).symm
    subst this;rw[aO ab]
    congr 1
    rcases hI with⟨rfl,_⟩|⟨b',cp,cu,f',q1,q2,q3,_⟩
    .simp at h0
    .rcases pD with⟨rfl,_⟩|⟨b2,cp2,cu2,f2,r1,r2,r3,_⟩
     .simp at h0
     .rw[q2]at r2;cases r2;cases q1;cases r1;rfl
   .rename_i tg;exact pc (by simpa using tg)
 .cases h_
end
section
variable{K0:List Nat}{ρ:Env}{H:aw}
def Rl{k t:Nat}{cs cs':List V}(R:aw)(ks:List Nat)(hg:H.get k=aY (.box t cs))(hR:kO ks H=aY R)(nW:k_ R=R)(hv:jG R cs cs'){H1:aw}(pY:(k,.box t cs')::js [k] H=H1):Cut K0 ρ H ρ H1:=λc ρr w S=>by
 subst pY;obtain⟨m,Z,S,hr⟩:=S;have hp:=j6 (ks:=[k]) (F:=[(k,.box t cs)]) S.step.iW.nodup ae (Q8 hg);have S1:Step c.m0 c.Z0 c.F0 c.W0 m Z ((k,.box t cs)::js [k] H) w:=S.step.NK hp
 have TH:∀l,zC (aY m) Z cs l->zC (aY m) Z cs' l:=λl hl=>hv.rep (F:=R) (w:=w) (λk t' sz fz els hg=>by
  have l5:=aw.get_mem hg;have h1:=S.step.iW.holds _ ((yX hR).2 _ l5)
  have:fz=els.length:=by
   rw[<- nW]at l5
   rcases j7 l5 with⟨k',VE,mo,rC,Cv,h2,h3⟩|⟨h2,h3⟩
   .simp only[Prod.mk.injEq,Obj.row.injEq]at h3;obtain⟨_,_,_,e1,e2⟩:=h3;rw[e1,e2]
   .exact aQ rfl (h3 t' sz fz els)
  subst this
  exact h1) hl
 have q_:∀p∈((k,.box t cs')::js [k] H:aw),∃q∈((k,.box t cs)::js [k] H:aw),q.1=p.1/\gM m q=gM m p:=λp hp=>by
  rcases bu.1 hp with rfl|hp
  .exact⟨(k,.box t cs),ak,rfl,rfl⟩
  .exact⟨p,iO _ hp,rfl,rfl⟩
 have hk:keys ((k,.box t cs')::js [k] H)=keys ((k,.box t cs)::js [k] H):=rfl;refine⟨m,Z,⟨⟨⟨S1.iW.frozen,λp hp=>?_,by rw[hk];exact S1.iW.nodup,λp hp q hq b h1 h2=>?_⟩,S1.pM,S1.o4,S1.os,S1.tape,S1.output,S1.size,S1.frame,λa ha=>by rw[hk];exact S1.keep a ha,λa ha=>S1.sT a (by rw[<- hk];exact ha),λp hp b hb=>?_,S1.su⟩,λa ha=>S.pa a λh=>ha ?_⟩,hr⟩
 .rcases bu.1 hp with rfl|hp
  .obtain⟨b,cur,g1,g2,g3,g4,g5⟩:=S1.iW.holds (k,.box t cs) ak;exact⟨b,cur,g1,g2,TH _ g3,g4,g5⟩
  .exact S1.iW.holds p (iO _ hp)
 .obtain⟨p',ka,e1,e2⟩:=q_ p hp;obtain⟨q',mZ,e3,e4⟩:=q_ q hq;rw[<- e1,<- e3];exact S1.iW.p_ p' ka q' mZ b (by rw[e2];exact h1) (by rw[e4];exact h2)
 .obtain⟨p',ka,e1,e2⟩:=q_ p hp;exact S1.nZ p' ka b (by rw[e2];exact hb)
 .rw[hk];exact(hp.map _).mem_iff.1 h
end
def Bo(a b:List V):Prop:=∀(Z:ZM)(l:List bx),zC bg Z a l->zC bg Z b l
def zHr:Bo [] []:=λ_ _ h=>h
def Step.abc{m m':M}{Z Z':ZM}{F:aw}{w w':bF}{d:Nat}{o o':Obj}(h:Step m Z F w m' Z' [(d,o)] w')(hb:gM m' (d,o')=gM m' (d,o))(hh:Holds m' Z' w' d o->Holds m' Z' w' d o'):Step m Z F w m' Z' [(d,o')] w':=by
 refine⟨⟨h.iW.frozen,λp hp=>?_,h.iW.nodup,λp hp q hq _ _ _=>?_⟩,h.pM,h.o4,h.os,h.tape,h.output,h.size,h.frame,h.keep,h.sT,λp hp b mf=>?_,h.su⟩
 .simp only[b_]at hp;subst hp;exact hh (h.iW.holds _ (b_.2 rfl))
 .simp only[b_]at hp hq;subst hp;subst hq;rfl
 .simp only[b_]at hp;subst hp;exact h.nZ (d,o) (b_.2 rfl) b (by rw[<- hb];exact mf)
section
variable{P:bo}{ρ:Env}{dst:Option Tmp}{ty:bK}{pos:String}{aft:Array Edge}{gd:Option (Nat×Bool)}
def ac5{t d e sz n:Nat}{parts:List (Nat×bI)}{els Ns all:List (List V)}{fl fl2:List V}(hT:kP P t=aY (e,sz))(h_:cm (n*sz) 16777216=bh)(h:Ey n sz (parts.map λp=>(p.1,aV ρ p.2))=aY els)
  (h1:els.flatten=fl) (h2:Ns.flatten=fl2) (hw:Bo fl fl2) (hl:bm Ns.length els.length=bh) (hc:Ns.all (λe=>bm e.length sz)=bh) (ha:Ns=all):
  Loc P ⟨dst,.buildSlice t n parts.toArray,ty,pos,aft,gd⟩ ρ [] (.sl sz d n 0 n) [(d,.row e sz 0 all)]:=by
 subst ha;have hL:=Kh (dst:=dst) (ty:=ty) (pos:=pos) (aft:=aft) (gd:=gd) (d:=d) hT h_ h;have hl:=eb hl;intro ρr m Z w e9 hs lR
 refine(hL ρr m Z w e9 hs (λk hk mu L=>lR k (by simpa[keys]using hk) mu L)).mono λx w' hx=>?_
 obtain⟨m',Z',st,hr⟩:=hx;refine⟨m',Z',st.abc (by funext b;simp only[gM,oi,Obj.ver];rw[hl]) λhh=>?_,hr⟩
 rcases hh with⟨g1,g2,g3,g4,g5⟩|⟨b,cap,cur,fr,g1,g2,g3,g4,g5,g6,g7,g8,g9,g10,g11,g12,g13,g14⟩
 .exact .inl ⟨g1,by rw[g2]at hl;exact cy hl,g3,g4,g5⟩
 .refine .inr ⟨b,cap,cur,fr,by rw[hl];exact g1,g2,g3,by rw[hl];exact g4,g5,g6,g7,?_,λe he=>eb ((bl.1 hc) e he),g10,by rw[hl];exact g11,g12,by rw[hl];exact g13,g14⟩;rw[hl,h2];rw[h1]at g8;exact hw _ _ g8
end
def Ch(sz:Nat)(ls:List (List (List V))):List (List V):=ls.map λl=>[.vs sz l]
inductive NV(k n sz:Nat)(ls:List (List (List V))):List V->List V->Prop
 |nil:NV k n sz ls [] []
 |same {v:V} {a b:List V} (h:NV k n sz ls a b):NV k n sz ls (v::a) (v::b)
 |nest {a b:List V} {els:List (List V)} (hn:n=ls.length) (he:Ch sz ls=els) (h:NV k n sz ls a b):NV k n sz ls (.sl 1 k 0 0 n::a) (.vs 1 els::b)
section
variable{m:M}{Z:ZM}{w:bF}
open Classical in
noncomputable def Vc(mk:Nat->Option (Nat×Nat))(ls:List (List (List V)))(Z:ZM)(w:bF):ZM:=λa=>if a.spot=bg/\Ep mk ls a.block then w.cell? a else Z a
def ztg{t e sz:Nat}{ls:List (List (List V))}{k:Nat}(hf:∀a x,Z a=aY x->w.cell? a=aY x)(h:xD (m k) Z w t e sz bg ls){x:bx}(hx:aT (aY m) Z (.sl 1 k 0 0 ls.length) x):aT bg (Vc (m k) ls Z w) (.vs 1 (Ch sz ls)) x:=by
 have hup:∀a x,Z a=aY x->Vc (m k) ls Z w a=aY x:=λa x ha=>by
  unfold Vc;split
  .exact hf a x ha
  .exact ha
 obtain⟨f,loc,e1,e2,e3,e4,e5⟩:=hx;cases e1
 have US:(Ch sz ls).length=ls.length:=by simp[Ch]
 by_cases OM:ls=[]
 .subst OM
  rcases e5 with e5|⟨_,A,e5⟩|⟨e5,_⟩
  .exact⟨_,_,e5,by simp[Ch],ab,.inl rfl⟩
  .exact⟨_,_,e5,by simp[Ch],by simp[maxLen],.inl rfl⟩
  .omega
 obtain⟨rfl,_⟩|⟨_,⟨rfl,_,_⟩|⟨b,cap,cur,fr,h1,h2,h3,h4,h5,h6,h7,h8,h9,pW,pX⟩⟩:=h
 .exact aQ rfl OM
 .exact aQ rfl OM
 rw[h1]at e2;cases e2
 have e5:x=.slice (aY ⟨b,0,bg⟩) ls.length cap:=by
  rcases e5 with e5|⟨e5,_⟩|⟨e5,_⟩
  .simpa using e5
  .simp only at e5;omega
  .omega
 refine⟨_,_,by rw[US];exact e5,by rw[US];omega,h7,.inr ⟨_,rfl,xq.po λi cs hi=>?_⟩⟩;simp only[Ch,cz,ca]at hi;obtain⟨l,hl,rfl⟩:=hi;refine⟨rfl,qV.po λj v hj=>?_⟩
 have Lw:j=0:=by have:=(bq.1 hj).1;simp at this;omega
 subst Lw;simp only[List.getElem?_cons_zero,Option.some.injEq]at hj;subst hj;obtain⟨hd,hI,hc⟩:=h9 i l hl
 have pj:w.cell? ⟨b,i,bg⟩=aY hd:=by rw[cell_of_row w b i cur t fr h3];exact hc ae
 refine⟨hd,?_,?_⟩
 .rw[Addr.add_lit,Addr.add_lit,cl,cl,gE,cl,dK];unfold Vc;rw[aO ⟨rfl,0,cap,h1,ab,.inl rfl⟩];exact pj
 .rcases hI with⟨rfl,e,_⟩|⟨b',cp,cu,f',q1,q2,q3,q4,ajL,q5,q6,q7,q8,q9,Ej⟩
  .cases e;exact⟨bg,0,rfl,al,cH _,.inl rfl⟩
  .cases q1;refine⟨_,_,rfl,q5,q6,.inr ⟨_,rfl,xq.po λi' cs hi=>⟨q9 cs (bW hi),qV.po λj v hj=>?_⟩⟩⟩;have pf:i'<l.length:=(bq.1 hi).1
   have DY:j<sz:=by have:=(bq.1 hj).1;rw[q9 cs (bW hi)]at this;exact this
   have ib:i'*sz+j<l.length*sz:=by have:(i'+1)*sz<=l.length*sz:=ck sz pf;rw[dh]at this;omega
   obtain⟨x,g1,g2⟩:=q8.get (jt q9 hi hj);rw[cj,aO ib]at g1;refine⟨x,?_,g2.up hup (λf e=>by cases e)⟩;rw[cl,cl,JG,Addr.add_lit,cl];unfold Vc;rw[aO ⟨rfl,_,cp,q2,ab,.inr ⟨i,l,hl,rfl⟩⟩,cell_of_row w b' _ cu e f' q4];simpa using g1
def NV.rep{t e sz k n:Nat}{ls:List (List (List V))}(hf:∀a x,Z a=aY x->w.cell? a=aY x)(h:xD (m k) Z w t e sz bg ls):∀{a b:List V},NV k n sz ls a b->∀{xs:List bx},zC (aY m) Z a xs->zC (aY m) (Vc (m k) ls Z w) b xs
 |_,_,.nil,xs,hx=>hx
 |_,_,.same hr,xs,hx=>by
  obtain⟨x,Ib,rfl,h1,h2⟩:=hx;refine⟨x,Ib,rfl,h1.up (λa x ha=>?_) (λf e=>⟨f,e,λ_ _ _ q=>q⟩),NV.rep hf h hr h2⟩;unfold Vc;split
  .exact hf a x ha
  .exact ha
 |_,_,.nest hn he hr,xs,hx=>by subst hn;subst he;obtain⟨x,Ib,rfl,h1,h2⟩:=hx;exact⟨x,Ib,rfl,(ztg hf h h1).up (λ_ _ q=>q) (λf e=>by cases e),NV.rep hf h hr h2⟩
def Step.abk{k t e sz n kb tb:Nat}{ls:List (List (List V))}{cs cs':List V}(hs:w8 m Z [(k,.nest t e sz bg ls),(kb,.box tb cs)] w)(hv:NV k n sz ls cs cs'):
  Step m Z [(k,.nest t e sz bg ls),(kb,.box tb cs)] w m (Vc (m k) ls Z w) [(k,.nest t e sz (aY 0) []),(kb,.box tb cs')] w:=by
 have hh:xD (m k) Z w t e sz bg ls:=hs.holds _ ak;have hb:Holds m Z w kb (.box tb cs):=hs.holds _ (iO _ (b_.2 rfl))
 have lD:k≠kb:=by have:=hs.nodup;simp[keys]at this;exact this
 have hzu:∀a x,Z a=aY x->Vc (m k) ls Z w a=aY x:=λa x ha=>by
  unfold Vc;split
  .exact hs.frozen a x ha
  .exact ha
 have U_:∀a x,Vc (m k) ls Z w a=aY x->Z a=aY x∨Ep (m k) ls a.block:=λa x ha=>by
  unfold Vc at ha;split at ha
  .rename_i h;exact .inr h.2
  .exact .inl ha
 have air:∀b,gM m (k,.nest t e sz (aY 0) []) b->gM m (k,.nest t e sz bg ls) b:=λb h=>by
  obtain⟨j,c,e1,e2,rfl|⟨i,l,e3,_⟩⟩:=h
  .exact⟨0,c,e1,e2,.inl rfl⟩
  .simp at e3
 have hold:∀p∈([(k,.nest t e sz (aY 0) []),(kb,.box tb cs')]:aw),∃q∈([(k,.nest t e sz bg ls),(kb,.box tb cs)]:aw),q.1=p.1/\∀b,gM m p b->gM m q b:=λp hp=>by
  rcases bu.1 hp with rfl|hp
  .exact⟨_,ak,rfl,air⟩
  .rw[b_.1 hp];exact⟨_,iO _ (b_.2 rfl),rfl,λb h=>h⟩
 refine⟨⟨λa x ha=>?_,λp hp=>?_,by simpa[keys]using lD,λp hp q hq b h1 h2=>?_⟩,λ_ _ _ e=>e,hzu,rfl,rfl,rfl,al,λ_ _ _=>rfl,λ_ h=>h,λ_ _=>rfl,λp hp b mf=>?_,λa x ha=>?_⟩
 .unfold Vc at ha;split at ha
  .exact ha
  .exact hs.frozen a x ha
 .rcases bu.1 hp with rfl|hp
  .exact .inl ⟨rfl,rfl,λb c e1 e2=>xD.own hh ⟨0,c,e1,e2,.inl rfl⟩⟩
  .rw[b_.1 hp];obtain⟨b,cur,g1,g2,g3,g4,g5⟩:=hb;refine⟨b,cur,g1,g2,hv.rep hs.frozen hh g3,λa x ha e'=>?_,g5⟩
   rcases U_ a x ha with ha|ha
   .exact g4 a x ha e'
   .exact lD (hs.p_ (k,.nest t e sz bg ls) ak (kb,.box tb cs) (iO _ (b_.2 rfl)) b (by rw[<- e'];exact ha) (by simp[gM,oi,Obj.ver,g1]))
 .obtain⟨p',ka,e1,e2⟩:=hold p hp;obtain⟨q',mZ,e3,e4⟩:=hold q hq;rw[<- e1,<- e3];exact hs.p_ p' ka q' mZ b (e2 b h1) (e4 b h2)
 .obtain⟨p',ka,_,e2⟩:=hold p hp;exact .inr ⟨p',ka,e2 b mf⟩
 .exact(U_ a x ha).imp_right λh=>.inr ⟨_,ak,h⟩
end
section
variable{K0:List Nat}{ρ:Env}{H:aw}
def zys{k t e sz n kb tb:Nat}{ls:List (List (List V))}{cs cs':List V}(hF:kO [k,kb] H=aY [(k,.nest t e sz bg ls),(kb,.box tb cs)])(ml:nodupB [k,kb]=bh)(hv:NV k n sz ls cs cs'){H1:aw}(pY:[(k,.nest t e sz (aY 0) []),(kb,.box tb cs')]++js [k,kb] H=H1):Cut K0 ρ H ρ H1:=λc ρr w S=>by
 subst pY
 exact Kc.step ml hF (oI λp hp=>by
  rcases bu.1 hp with rfl|hp
  .exact ak
  .rw[b_.1 hp];exact iO _ (b_.2 rfl)) (λm Z hs _ hR=>⟨m,_,Step.abk hs hv,hR.up (Step.abk hs hv).o4 λ_ _ _ e=>e⟩) S
end
def Hs{α:Type}(f:α->List V)(p:List (List α)):List (List (List V)):=p.map λl=>l.map f
def znj{α:Type}(f:α->List V)(p:List (List α)):p.length=(Hs f p).length:=(bM ..).symm
def znk{α:Type}(f:α->List V){p:List (List α)}{i:Nat}(h:i<p.length):(Hs f p)[i]?=aY ((p.getD i default).map f):=by rw[Hs,cz,bA h,bB,bA h];rfl
def znl{α:Type}(f:α->List V)(p:List (List α))(i:Nat)(l:List α):Hs f (p.set i l)=(Hs f p).set i (l.map f):=by rw[Hs,iE];rfl
def zp9{α:Type}(f:α->List V)(sz:Nat)(p:List (List α)):Ch sz (Hs f p)=p.map (Bc sz f):=by rw[Ch,Hs,cU];rfl
section
variable{P:bo}{ρ:Env}{dst:Option Tmp}{ty:bK}{pos:String}{aft:Array Edge}{gd:Option (Nat×Bool)}{α:Type}
def zee(f:α->List V){t d e e2 sz2 bytes L:Nat}{q:Int}{x y:bI}{k k2:IntKind}(hT:kQ P t=aY (e,1,bytes))(hz:zeroV P e=aY [.gg])(hx:aV ρ x=.int k q)(hy:aV ρ y=.int k2 q)(h0:0<=q)(hlen:q*bytes<=281474976710656)(rF:q<=9223372036854775807)(hL:L=q.toNat)(Fl:cm 1 sz2=bh):
  Loc P ⟨dst,.makeSlice t x y,ty,pos,aft,gd⟩ ρ [] (.sl 1 d 0 0 L) [(d,.nest e e2 sz2 bg (Hs f (bp q.toNat [])))]:=by
 subst hL;have e1:q=((q.toNat:Nat):Int):=ab
 have Lf:Hs f (bp q.toNat [])=bp q.toNat []:=by simp[Hs]
 rw[Lf]
 have hb:q.toNat*bytes<=281474976710656:=by
  have h:((q.toNat*bytes:Nat):Int)<=281474976710656:=by rw[iX,<- e1];exact hlen
  omega
 exact zg1 hT hz (by rw[<- e1];exact hx) (by rw[<- e1];exact hy) hb ab (mi Fl)
def zef(f:α->List V){t et e2 sz2 k i:Nat}{a:bI}{p:List (List α)}{l:List α}(ha:aV ρ a=.ptr k 0 (i*1+0))(hi:i<p.length)(hl:p.getD i default=l)(hv:nr P t [V.gg] 0=aY .gg):
  Loc P ⟨dst,.load t a,ty,pos,aft,gd⟩ ρ [(k,.nest et e2 sz2 bg (Hs f p))] (CN sz2 k i (l.map f)) [(k,.nest et e2 sz2 bg (Hs f p))]:=by subst hl;rw[gE,dK]at ha;exact zg2 ha (znk f hi) ae hv
def ac6(f:α->List V){t et e sz bytes k i n:Nat}{x y:bI}{p:List (List α)}{l ys:List α}{R:aw}(hT:kQ P t=aY (e,sz,bytes))(hx:aV ρ x=CN sz k i (l.map f))(hi:i<p.length)(hl:p.getD i default=l)(hy:Src sz R (aV ρ y) (ys.map f))
  (h1:∀c∈ys.map f,c.all V.one=bh) (nu:∀c∈ys.map f,c.length=sz) (rl:cO ys=bf) (sf:wj k R=bf) (hn:(l++ys).length=n) (hlen:n*bytes<=140737488355328) (rF:n<=9223372036854775807):
  Loc P ⟨dst,.call ⟨.builtin .append,#[x,y],#[t,t]⟩,ty,pos,aft,gd⟩ ρ ((k,.nest et e sz bg (Hs f p))::R) (.sl sz k (code i n) 0 n) ((k,.nest et e sz (aY i) (Hs f (p.set i (l++ys))))::R):=by
 subst hl;subst hn
 have lD:ys.map f≠[]:=by
  cases ys with
  |nil=>cases rl
  |cons=>simp
 have:=zat (P:=P) (ρ:=ρ) (dst:=dst) (ty:=ty) (pos:=pos) (aft:=aft) (gd:=gd) (et:=et) hT hx (znk f hi) hy h1 lD (by simpa using hlen) (by simpa using rF) sf nu;rw[<- cX,bM,<- znl]at this;exact this
def zau(f:α->List V){t et e sz k i n:Nat}{a x:bI}{p:List (List α)}{l:List α}(ha:aV ρ a=.ptr k 0 (i*1+0))(hi:i<p.length)(hx:aV ρ x=.sl sz k (code i n) 0 n)(hn:l.length=n)(h0:0<n)(h_:vJ P t 1=bh):
  Loc P ⟨dst,.store t a x,ty,pos,aft,gd⟩ ρ [(k,.nest et e sz (aY i) (Hs f (p.set i l)))] .no [(k,.nest et e sz bg (Hs f (p.set i l)))]:=by
 rw[gE,dK]at ha;subst hn
 have hg:(Hs f (p.set i l))[i]?=aY (l.map f):=by rw[znl,dH,aO rfl,aO (by rw[<- znj];exact hi)]
 exact zec ha hg (by simpa using h0) (by rw[hx,bM]) h_
end
def agE(hd:Bool)(sz n b cap off:Nat)(x:bx):Prop:=match hd with
 |true=>off+n<=cap/\cap<=maxLen/\(x=.slice (aY ⟨b,off*sz,bg⟩) n (cap-off)∨(cap<=off/\∃A,x=.slice A n 0))
 |false=>x=.pointer (aY ⟨b,off*sz+n,bg⟩)
def qv(hd:Bool)(sz ver n:Nat):Mb where
 rep mk x:=∃b cap off,mk (2*ver+2)=aY (b,cap)/\(∃b',mk (2*ver+3)=aY (b',off))/\agE hd sz n b cap off x
 mono mk mk' x h:=λ⟨b,cap,off,h1,⟨b',h2⟩,h3⟩=>⟨b,cap,off,h _ _ h1,⟨b',h _ _ h2⟩,h3⟩
 one mk x:=by
  rintro⟨b,cap,off,_,_,h⟩
  cases hd with
  |true=>obtain⟨_,_,rfl|⟨_,A,rfl⟩⟩:=h<;>exact⟨rfl,rfl⟩
  |false=>cases h;exact⟨rfl,rfl⟩
def afm(mk:Nat->Option (Nat×Nat))(Z:ZM)(w:bF)(t sz ver:Nat)(els:List (List V)):Prop:=
 0<sz/\∃(b cap off:Nat)(cur:Array bx)(fr:Nat×Nat),mk (2*ver+2)=aY (b,cap)/\(∃b',mk (2*ver+3)=aY (b',off))/\0<cap/\off+els.length<=cap/\cap<=maxLen/\w.heap[b]?=aY (.cells cur t fr)/\fr.2=0/\cur.size=cap*sz /\
  zC bg Z els.flatten ((cur.toList.drop (off*sz)).take (els.length*sz))/\(∀e∈els,e.length=sz)/\(∀a x,Z a=aY x->a.block≠b)/\∀L loc,mk L=aY loc->L<=2*ver+3
def mn(t sz ver:Nat)(els:List (List V)):Ic where
 holds mk Z w:=afm mk Z w t sz ver els
 nZ mk b:=∃c,mk (2*ver+2)=aY (b,c)/\c≠0
 some_ mk b:=λ⟨c,h1,h2⟩=>⟨_,c,h1,h2⟩
 own mk Z w b:=by rintro⟨_,b',cap,off,cur,fr,h1,_,_,_,_,h2,_⟩ ⟨c,h3,_⟩;rw[h1]at h3;cases h3;exact⟨_,h2,rfl⟩
 keep mk Z Z' w w':=by rintro⟨h0,b',cap,off,cur,fr,h1,h2,h3,h4,h5,h6,h7,h8,h9,pW,pX,tG⟩ hZ hw;obtain⟨OY,Hw⟩:=hw b' ⟨cap,h1,ab⟩;exact⟨h0,b',cap,off,cur,fr,h1,h2,h3,h4,h5,OY.trans h6,h7,h8,h9.up hZ (λf e=>by cases e),pW,λa x ha e=>pX a x (Hw a x ha e) e,tG⟩
section
variable{m:M}{Z:ZM}{w w':bF}
def Step.mn{k t sz ver b cap off:Nat}{o:Obj}{els:List (List V)}{cur:Array bx}{fr:Nat×Nat}(hs:w8 m Z [(k,o)] w)(rb:∀L loc,m k L=aY loc->L<=2*ver+1)
  (aiw:∀j,j<w.heap.size->¬gM m (k,o) j->w'.heap[j]?=w.heap[j]?) (h1:w'.os=w.os) (h2:w'.tape=w.tape) (h3:w'.output=w.output) (h_:w.heap.size<=w'.heap.size)
  (hb:w'.heap[b]?=aY (.cells cur t fr)) (hbo:w.heap.size<=b∨gM m (k,o) b) (hz:∀a x,Z a=aY x->w'.cell? a=aY x) (h0:0<sz) (nQ:0<cap) (tR:off+els.length<=cap) (tf:cap<=maxLen) (lR:fr.2=0) (nD:cur.size=cap*sz)
  (hr:zC bg Z els.flatten ((cur.toList.drop (off*sz)).take (els.length*sz))) (hk:∀e∈els,e.length=sz) (Hx:∀a x,Z a=aY x->a.block≠b):
  ∃m',Step m Z [(k,o)] w m' Z [(k,.gen (EV.mn t sz ver els))] w'/\m' k (2*ver+2)=aY (b,cap)/\m' k (2*ver+3)=aY (b,off):=by
 let m':M:=λk' L=>if k'=k/\L=2*ver+2 then aY (b,cap)else if k'=k/\L=2*ver+3 then aY (b,off)else m k' L
 have e1:m' k (2*ver+2)=aY (b,cap):=by simp[m']
 have e2:m' k (2*ver+3)=aY (b,off):=by simp[m']
 have e3:∀k' L loc,m k' L=aY loc->m' k' L=aY loc:=λk' L loc e=>by
  by_cases mu:k'=k
  .subst mu;have:=rb _ _ e;simp only[m'];rw[aN ab,aN ab];exact e
  .simp[m',mu,e]
 refine⟨m',⟨⟨hz,λp hp=>?_,by simp[keys],λp hp q hq _ _ _=>?_⟩,e3,λ_ _ e=>e,h1,h2,h3,h_,λj hj hn=>aiw j hj (hn _ (b_.2 rfl)),λj hj=>by simpa[keys]using hj,λj hj=>?_,λp hp b2 pZ=>?_,λa x ha=>.inl ha⟩,e1,e2⟩
 .simp only[b_]at hp;subst hp;refine⟨h0,b,cap,off,cur,fr,e1,⟨b,e2⟩,nQ,tR,tf,hb,lR,nD,hr,hk,Hx,λL loc e=>?_⟩;simp only[m']at e;split at e
  .omega
  .split at e
   .omega
   .have:=rb _ _ e;omega
 .simp only[b_]at hp hq;subst hp;subst hq;rfl
 .funext L
  have:j≠k:=by simpa[keys]using hj
  simp[m',this]
 .simp only[b_]at hp;subst hp;obtain⟨c,q1,_⟩:=pZ;rw[e1]at q1;cases q1
  rcases hbo with h|h
  .exact .inl h
  .exact .inr ⟨_,b_.2 rfl,h⟩
def Step.toQue{k t sz:Nat}{els:List (List V)}(hs:w8 m Z [(k,.row t sz 0 els)] w)(lD:0<els.length):
  ∃m' b cap,Step m Z [(k,.row t sz 0 els)] w m' Z [(k,.gen (EV.mn t sz els.length els))] w/\m k els.length=aY (b,cap)/\cap<=maxLen/\els.length<=cap/\m' k (2*els.length+2)=aY (b,cap)/\m' k (2*els.length+3)=aY (b,0):=by
 rcases hs.holds _ (b_.2 rfl)with⟨_,h1,_⟩|⟨b,cap,cur,fr,g1,g0,g2,g3,g4,g5,g6,g7,g8,g9,g10,g11,g12,g13⟩
 .subst h1;simp at lD
 have g1:m k els.length=aY (b,cap):=g1
 have mX:gM m (k,.row t sz 0 els) b:=by have:cap≠0:=ab;simp[gM,oi,Obj.ver,g1,this]
 obtain⟨m',gy,e1,e2⟩:=Step.mn (w':=w) (ver:=els.length) (b:=b) (cap:=cap) (off:=0) (els:=els) (cur:=cur) (fr:=fr) (t:=t) (sz:=sz) hs (λL loc e=>by have:=g12 L loc e;omega) (λ_ _ _=>rfl) rfl rfl rfl al g2 (.inr mX) hs.frozen g6 g0 ab g4 (by simpa using g9) g5
  (by simpa using g7) g8 (λa x ha e=>by have:=g11 a x ha e;simp at this)
 exact⟨m',b,cap,gy,g1,g4,g3,e1,e2⟩
end
section
variable{K0:List Nat}{ρ:Env}{H:aw}
def zC4(t k:Nat){e sz n:Nat}{els:List (List V)}(hF:kO [k] H=aY [(k,.row e sz 0 els)])(ht:ρ.get t=.sl sz k n 0 n)(hn:n=els.length)(h0:0<els.length){H1:aw}(pY:[(k,.gen (mn e sz n els))]++js [k] H=H1):
  Cut K0 ρ H ((t,.gv k (qv bh sz n n))::ρ) H1:=λc ρr w S=>by
 subst pY;subst hn;refine Kc.step (by simp[nodupB]) hF (oI λp hp=>by rw[b_.1 hp];exact b_.2 rfl) (λm Z hs _ hR=>?_) S;obtain⟨m',b,cap,gy,g1,g2,g3,e1,e2⟩:=Step.toQue hs h0;refine⟨m',Z,gy,λu=>?_⟩
 show aT (aY m') Z (bif bm u t then _ else ρ.get u) (ρr u)
 cases hb:bm u t with
 |false=>exact(hR u).up gy.o4 λf e=>by cases e;exact⟨m',rfl,gy.pM⟩
 |true =>
  have:=eb hb;subst this;have hr:=hR u;rw[ht]at hr;obtain⟨f,loc,q1,q2,q3,q4,q5⟩:=hr;cases q1;rw[g1]at q2;cases q2;refine⟨m',rfl,b,cap,0,e1,⟨b,e2⟩,ab,g2,?_⟩
  rcases q5 with q5|⟨q5,_⟩|⟨q5,_⟩
  .exact .inl q5
  .simp only at q5;omega
  .omega
end
section
variable{P:bo}{ρ:Env}{dst:Option Tmp}{ty:bK}{pos:String}{aft:Array Edge}{gd:Option (Nat×Bool)}
def W9{m:M}{Z:ZM}{k sz ver n:Nat}{x:bx}(h:aT (aY m) Z (.gv k (qv bh sz ver n)) x):∃b cap off,m k (2*ver+2)=aY (b,cap)/\(∃b',m k (2*ver+3)=aY (b',off))/\off+n<=cap/\cap<=maxLen/\(x=.slice (aY ⟨b,off*sz,bg⟩) n (cap-off)∨(cap<=off/\n=0/\∃A,x=.slice A n 0)):=by obtain⟨f,e1,b,cap,off,e2,e3,e4,e5,e6⟩:=h;cases e1;exact⟨b,cap,off,e2,e3,e4,e5,e6.imp_right λ⟨h1,h2⟩=>⟨h1,ab,h2⟩⟩
def zyt{t k sz ver n:Nat}{x:bI}(ht:jE P t=bh)(hx:aV ρ x=.gv k (qv bh sz ver n)):Loc P ⟨dst,.call ⟨.builtin .len,#[x],#[t]⟩,ty,pos,aft,gd⟩ ρ [] (.int .i64 n) []:=by
 intro ρr m Z w e9 hs _;have hX:=e9 x (by simp[Op.operands,Call.operands]);rw[hx]at hX;obtain⟨b,cap,off,_,_,_,_,h⟩:=W9 hX
 obtain⟨A,c,hv⟩:∃A c,ev ρr x=.slice A n c:=by
  rcases h with h|⟨_,_,A,h⟩
  .exact⟨_,_,h⟩
  .exact⟨_,_,h⟩
 unfold jE at ht;split at ht
 .rename_i e hu;exact⟨rfl,.inl ⟨_,w,oF hu hv,m,Z,Step.refl hs,rfl⟩⟩
 .cases ht
def zqa{t e sz kk ver n:Nat}{x ix:bI}{k:IntKind}{i:Int}(ht:kP P t=aY (e,sz))(hx:aV ρ x=.gv kk (qv bh sz ver n))(hi:aV ρ ix=.int k i)(h0:0<=i)(h1:i<n):
  Loc P ⟨dst,.indexAddr t x ix,ty,pos,aft,gd⟩ ρ [] (.gv kk (qv bf sz ver (i.toNat*sz))) []:=by
 intro ρr m Z w e9 hs _;have hX:=e9 x (by simp[Op.operands]);have hI:=e9 ix (by simp[Op.operands]);rw[hx]at hX;rw[hi]at hI;have hI:ev ρr ix=.int k i:=hI;obtain⟨b,cap,off,e1,e2,e3,e4,e5⟩:=W9 hX
 have e5:ev ρr x=.slice (aY ⟨b,off*sz,bg⟩) n (cap-off):=by
  rcases e5 with e5|⟨_,e5,_⟩
  .exact e5
  .omega
 unfold kP at ht;split at ht
 .rename_i e' hu;split at ht
  .rename_i ii rj;split at ht
   .simp only[Option.some.injEq,Prod.mk.injEq]at ht;obtain⟨rfl,h_⟩:=ht;refine⟨rfl,.inl ⟨.pointer (aY ⟨b,off*sz+i.toNat*sz,bg⟩),w,?_,m,Z,Step.refl hs,m,rfl,b,cap,off,e1,e2,rfl⟩⟩;have h7:¬((n:Int)<=i):=ab;simp[bP,Instr.indexAt,run_underlying hu,asIntOf,e5,hI,sizeOf,typeInfo,rj,h_,h0,h7,Addr.add_lit]
   .cases ht
  .cases ht
 .cases ht
def zyu{t e et sz k ver n:Nat}{x lo:bI}{els rest:List (List V)}{kk:IntKind}(ht:kP P t=aY (e,sz))(hx:aV ρ x=.gv k (qv bh sz ver n))(hl:aV ρ lo=.int kk 1)(hn:n=els.length)(h0:1<=n)(hr:els.drop 1=rest):
  Loc P ⟨dst,.slice t x (aY lo) bg bg,ty,pos,aft,gd⟩ ρ [(k,.gen (mn et sz ver els))] (.gv k (qv bh sz (ver+1) (n-1))) [(k,.gen (mn et sz (ver+1) rest))]:=by
 intro ρr m Z w e9 hs _;subst hr;have hX:=e9 x (by simp[Op.operands]);rw[hx]at hX;obtain⟨b,cap,off,e1,⟨b',e2⟩,e3,e4,e5⟩:=W9 hX
 have e5:ev ρr x=.slice (aY ⟨b,off*sz,bg⟩) n (cap-off):=by
  rcases e5 with e5|⟨_,e5,_⟩
  .exact e5
  .omega
 obtain⟨g0,b1,I',Jh,cur,fr,g1,⟨b2,g2⟩,g3,g4,g5,g6,g7,g8,g9,g10,g11,g12⟩:=hs.holds _ (b_.2 rfl);have g1:m k (2*ver+2)=aY (b1,I'):=g1;rw[g1]at e1;cases e1;have g2:m k (2*ver+3)=aY (b2,Jh):=g2;rw[g2]at e2;cases e2
 have mX:gM m (k,.gen (mn et sz ver els)) b:=⟨cap,g1,ab⟩
 obtain⟨m',gy,q1,q2⟩:=Step.mn (w':=w) (ver:=ver+1) (b:=b) (cap:=cap) (off:=off+1) (els:=els.drop 1) (cur:=cur) (fr:=fr) (t:=et) (sz:=sz) hs (λL loc e=>by have:=g12 L loc e;omega) (λ_ _ _=>rfl) rfl rfl rfl al g6 (.inr mX) hs.frozen g0 g3
  (by rw[cF];omega) g5 g7 g8 (by
   have h:=(zC.drop sz g9)
   have B1:(els.drop 1).flatten=els.flatten.drop sz:=by
    cases els with
    |nil=>simp
    |cons a l=>have:=g10 a ak;simp[<- this]
   rw[B1]
   have:(dN sz (dF (els.length*sz) (dN (off*sz) cur.toList)))=dF ((els.drop 1).length*sz) (dN ((off+1)*sz) cur.toList):=by rw[fD,ej,cF,Nat.sub_mul,eT,da,eT]
   rw[<- this];exact h) (λc hc=>g10 c (fQ hc)) g11
 have SS:(Instr.sliceBounds bh n (cap-off) ((aY lo).map (ev ρr)) (none.map (ev ρr)) bg).run P w=.ok ((1:Int).toNat,(n:Int).toNat,cap-off) w:=JI (P:=P) (w:=w) (isS:=bh) (cap:=cap-off) (lo:=aY lo) (hi:=bg) (l:=1) (h:=n) ⟨kk,hl⟩ rfl (λy hy=>e9 y (by cases hy;simp[Op.operands])) (λy hy=>by cases hy) ab ab ab ab;unfold kP at ht;split at ht
 .rename_i e' hu;split at ht
  .rename_i ii rj;split at ht
   .simp only[Option.some.injEq,Prod.mk.injEq]at ht;obtain⟨rfl,h_⟩:=ht
    have mO:(bP (ev ρr) ⟨dst,.slice t x (aY lo) bg bg,ty,pos,aft,gd⟩).run P w=.ok (.value (.slice (if cap-off=1 then aY ⟨b,off*sz,bg⟩else aY ⟨b,off*sz+sz,bg⟩) (n-1) (cap-off-1))) w:=by have aa2:=SS;simp only[de,Option.map_none]at aa2;simp[bP,Instr.sliceAt,Instr.slice,run_underlying hu,e5,aa2,sizeOf,typeInfo,rj,h_,Addr.add_lit]
    refine⟨rfl,.inl ⟨_,w,mO,m',Z,gy,m',rfl,b,cap,off+1,q1,⟨b,q2⟩,ab,g5,?_⟩⟩;by_cases hc:cap-off=1
    .rw[aO hc];exact .inr ⟨ab,aY ⟨b,off*sz,bg⟩,by rw[show cap-off-1=0 by omega]⟩
    .rw[aN hc];exact .inl (by rw[da,eT,Nat.sub_sub])
   .cases ht
  .cases ht
 .cases ht
end
section
variable{P:bo}
def acK(w:bF)(t ty e:bK)(i:TypeInfo)(ht:P.underlying t=aY (.slice e))(hi:P.info? e=aY i)
  (g o Dq Tn:Nat) (cur:Array bx) (fz:Nat×Nat) (hg:w.heap[g]?=aY (.cells cur e fz)) (nW:fz.2<=o+Dq*i.size)
  (a:Addr) (m c:Nat) (news:List bx) (hl:news.length=m*i.size) (EO:∀j u,news[j]?=aY u->w.cell? (a.add j)=aY u) (h1:∀u∈news,u.oneCell'=bh)
  (Bi:Dq+m<=Tn) (tB:o+Dq*i.size+news.length<=cur.size):
  (Builtin.append_ #[t,t] ty #[.slice (aY ⟨g,o,bg⟩) Dq Tn,.slice (aY a) m c]).run P w =
   .ok (.slice (aY ⟨g,o,bg⟩) (Dq+m) Tn) (w.setRow g (cur.toList.take (o+Dq*i.size)++news++cur.toList.drop (o+Dq*i.size+news.length)).toArray):=by have hf:=run_firstCells_some (P:=P) w i.size m a m c news hl EO;have gy:=run_storeCells_atF P g (o+Dq*i.size) e fz news 0 cur w hg (by simpa using nW) (by simpa using tB) h1;simp only[dK]at gy;simp[Builtin.append_,run_underlying ht,sizeOf,typeInfo,hi,Builtin.lenOf,Bi,hf,Addr.add_lit,gy]
end
section
variable{P:bo}{ρ:Env}{dst:Option Tmp}{ty:bK}{pos:String}{aft:Array Edge}{gd:Option (Nat×Bool)}
def zth{t et sz k ver n:Nat}{a:bI}{els:List (List V)}{cs:List V}{v:V}(i:Nat)(ha:aV ρ a=.gv k (qv bf sz ver n))(hn:n=i*sz)(hc:els[i]?=aY cs)(hv:nr P t cs 0=aY v):
  Loc P ⟨dst,.load t a,ty,pos,aft,gd⟩ ρ [(k,.gen (mn et sz ver els))] v [(k,.gen (mn et sz ver els))]:=by
 intro ρr m Z w e9 hs _;have hX:=e9 a (by simp[Op.operands]);rw[ha]at hX;subst hn;obtain⟨f,e0,b,cap,off,e1,⟨b',e2⟩,e3⟩:=hX;cases e0;obtain⟨g0,b1,I',Jh,cur,fr,g1,⟨b2,g2⟩,g3,g4,g5,g6,g7,g8,g9,g10,g11,g12⟩:=hs.holds _ (b_.2 rfl);have g1:m k (2*ver+2)=aY (b1,I'):=g1;rw[g1]at e1;cases e1;have g2:m k (2*ver+3)=aY (b2,Jh):=g2;rw[g2]at e2;cases e2;have e3:ev ρr a=.pointer (aY ⟨b,off*sz+i*sz,bg⟩):=e3;generalize hB:off*sz+i*sz=B at e3
 have pj:∀q,w.cell? ⟨b,q,bg⟩=cur[q]?:=λq=>cell_of_row w b q cur et fr g6
 have ib:=(bq.1 hc).1
 have g3:∀j v,cs[j]?=aY v->∃x,cur[B+j]?=aY x/\aT bg Z v x:=λj v hj=>by
  obtain⟨x,h1,h2⟩:=g9.get (jt g10 hc hj);rw[cj]at h1;split at h1
  .rw[cW]at h1;refine⟨x,?_,h2⟩;rw[<- hB,ff];simpa using h1
  .cases h1
 refine⟨rfl,.inl ?_⟩;unfold nr at hv;split at hv
 .rename_i nk;split at hv
  .rename_i v' D_;split at hv
   .cases hv;obtain⟨u,h4,h5⟩:=g3 _ _ D_;exact⟨u,w,xu (xO nk) e3 (by rw[pj];exact h4),m,Z,Step.refl hs,h5.BU⟩
   .cases hv
  .cases hv
 .rename_i n nk;split at hv
  .rename_i hk;have hk:=mi hk;cases hv
   let us:List bx:=(dn n).map λq=>(cur[B+(0+q)]?).getD Go.undef
   have hex:∀q,q<n->∃u v,cs[0+q]?=aY v/\cur[B+(0+q)]?=aY u/\aT bg Z v u:=λq hq=>by have Fb:cs[0+q]?=aY (cs[0+q]' ab):=bA ab;obtain⟨u,h1,h2⟩:=g3 _ _ Fb;exact⟨u,_,Fb,h1,h2⟩
   have ra:∀q,q<n->us[q]?=cur[B+(0+q)]?:=λq hq=>by obtain⟨u,v,_,h2,_⟩:=hex q hq;simp only[us,cz,List.getElem?_range hq,de,h2,dB]
   refine⟨.agg us.toArray,w,w9 us (ve nk) e3 (by simp[us]) λq u hq=>?_,m,Z,Step.refl hs,us,rfl,?_⟩
   .have zz:q<n:=by have:=(bq.1 hq).1;simpa[us]using this
    rw[Addr.add_lit,pj,show B+q=B+(0+q) by omega,<- ra q zz];exact hq
   .refine zC.po (by simp[us];omega) λq v u hv hu=>?_
    have zz:q<n:=by have:=(bq.1 hu).1;simpa[us]using this
    rw[cj,aO zz,cW]at hv;obtain⟨u',v',h1,h2,h3⟩:=hex q zz;rw[hv]at h1;cases h1;rw[ra q zz,h2]at hu;cases hu;exact h3.BU
  .cases hv
 .cases hv
def zk1{t e sz bytes k ver n n':Nat}{x y:bI}{els ys all:List (List V)}{R:aw}(hT:kQ P t=aY (e,sz,bytes))(hx:aV ρ x=.gv k (qv bh sz ver n))(hn:els.length=n)(hy:Src sz R (aV ρ y) ys)
  (h1:∀c∈ys,c.all V.one=bh) (nu:∀c∈ys,c.length=sz) (rl:cO ys=bf) (sf:wj k R=bf) (nF:els++ys=all) (CS:all.length=n') (hlen:n'*bytes<=140737488355328) (rF:n'<=9223372036854775807):
  Loc P ⟨dst,.call ⟨.builtin .append,#[x,y],#[t,t]⟩,ty,pos,aft,gd⟩ ρ ((k,.gen (mn e sz ver els))::R) (.gv k (qv bh sz (ver+1) n')) ((k,.gen (mn e sz (ver+1) all))::R):=by
 intro ρr m Z w e9 hs mU;subst nF;subst hn;subst CS
 have rl:ys≠[]:=by rintro rfl;cases rl
 obtain⟨i,z,hu,hi,hz,Dn,CQ,Ca,h0⟩:=kS hT;subst Dn;subst CQ;have hX:=e9 x (by simp[Op.operands,Call.operands]);have hY:=e9 y (by simp[Op.operands,Call.operands]);rw[hx]at hX;have rG:w8 m Z [(k,.gen (mn e i.size ver els))] w:=w8.left (F:=[(k,.gen (mn e i.size ver els))]) (G:=R) hs;have B8:w8 m Z R w:=w8.left (F:=R) (G:=[(k,.gen (mn e i.size ver els))]) (hs.perm (dx (l₁:=[(k,Obj.gen (mn e i.size ver els))]) (l₂:=R)));obtain⟨A,c,td,U8,hA,EO⟩:=hy.read h0 B8 hY
 have lR:∀{m' Z' w'},Step m Z [(k,.gen (mn e i.size ver els))] w m' Z' [(k,.gen (mn e i.size (ver+1) (els++ys)))] w'->Step m Z ((k,.gen (mn e i.size ver els))::R) w m' Z' ((k,.gen (mn e i.size (ver+1) (els++ys)))::R) w':=λh =>
  Step.Bk (F:=[(k,.gen (mn e i.size ver els))]) (G:=R) (F':=[(k,.gen (mn e i.size (ver+1) (els++ys)))]) hs h λp hp q hq e'=>by simp only[b_]at hp;subst hp;have e':k=q.1:=e';rw[yt.2 (by rw[e'];exact ax hq)]at sf;cases sf
 have fin:∀{v w'},(Builtin.append_ #[t,t] ty #[ev ρr x,ev ρr y]).run P w=.ok v w'->(bP (ev ρr) ⟨dst,.call ⟨.builtin .append,#[x,y],#[t,t]⟩,ty,pos,aft,gd⟩).run P w=.ok (.value v) w':=λh=>by simp[bP,resolve,invoke,builtin,h]
 have pU:(els++ys).length=els.length+ys.length:=ae;rw[pU]at hlen rF;have pg:0<ys.length:=eC.2 rl
 obtain⟨a,rfl⟩:∃a,A=aY a:=by
  cases A with
  |none=>exact aQ (hA rfl) rl
  |some a=>exact⟨a,rfl⟩
 obtain⟨news,mN,ng⟩:=EO a rfl
 have mv:news.length=ys.length*i.size:=by rw[mN.length,xw nu]
 have Bh:∀u∈news,u.oneCell'=bh:=Q9 mN (bl.2 λv hv=>by
  obtain⟨c,hc,Ea⟩:=fI.1 hv
  exact(bl.1 (h1 c hc)) v Ea)
 have Cy:els.length+ys.length<=maxLen:=by simp only[maxLen];omega
 obtain⟨b,cap,off,e1,⟨b',e2⟩,e3,e4,e5⟩:=W9 hX;obtain⟨g0,b1,I',Jh,cur,fr,g1,⟨b2,g2⟩,g3,g4,g5,g6,g7,g8,g9,g10,g11,g12⟩:=rG.holds _ (b_.2 rfl);have g1:m k (2*ver+2)=aY (b1,I'):=g1;rw[g1]at e1;cases e1;have g2:m k (2*ver+3)=aY (b2,Jh):=g2;rw[g2]at e2;cases e2
 have mX:gM m (k,.gen (mn e i.size ver els)) b:=⟨cap,g1,ab⟩
 have rb:∀L loc,m k L=aY loc->L<=2*(ver+1)+1:=λL loc e=>by have:=g12 L loc e;omega
 have aa6:∀c∈els++ys,c.length=i.size:=λc hc=>by
  rcases bJ.1 hc with hc|hc
  .exact g10 c hc
  .exact nu c hc
 have mY:cur.toList.length=cap*i.size:=by simpa using g8
 have Gg:∀a x,Z a=aY x->a.block<w.heap.size:=λa x ha=>xv hs.frozen ha
 -- a new block
 have grown:∀(EN:List bx)(BS:Nat),zC bg Z els.flatten EN->BS<els.length+ys.length ->
   (Builtin.append_ #[t,t] ty #[ev ρr x,.slice (aY a) ys.length c]).run P w=.ok (.slice (aY ⟨w.heap.size,0,bg⟩) (els.length+ys.length) (grownCap w (els.length+ys.length) BS e)) (w.drew.alloc (.cells (EN.toArray++news.toArray++Builtin.zeroCells z.cells (grownCap w (els.length+ys.length) BS e-(els.length+ys.length))) e)) ->
   CZ P ⟨dst,.call ⟨.builtin .append,#[x,y],#[t,t]⟩,ty,pos,aft,gd⟩ ρr w λx w'=>∃m' Z',Step m Z ((k,.gen (mn e i.size ver els))::R) w m' Z' ((k,.gen (mn e i.size (ver+1) (els++ys)))::R) w'/\aT (aY m') Z' (.gv k (qv bh i.size (ver+1) (els++ys).length)) x:=λEN BS ho nQ hr=>by
  have sY:EN.length=els.length*i.size:=by rw[ho.length,xw g10]
  have np:=grownCap_ge w (els.length+ys.length) BS e;have sy:=grownCap_le_maxLen w (els.length+ys.length) BS e Cy
  obtain⟨m',gy,q1,q2⟩:=Step.mn (m:=m) (Z:=Z) (w:=w) (w':=w.drew.alloc (.cells (EN.toArray++news.toArray++Builtin.zeroCells z.cells (grownCap w (els.length+ys.length) BS e-(els.length+ys.length))) e)) (ver:=ver+1) (b:=w.heap.size) (cap:=grownCap w (els.length+ys.length) BS e) (off:=0) (els:=els++ys) (cur:=EN.toArray++news.toArray++Builtin.zeroCells z.cells (grownCap w (els.length+ys.length) BS e-(els.length+ys.length))) (fr:=(0,0)) (t:=e) (sz:=i.size) rG rb
   (λj hj _=>Below.heap_alloc w.drew _ j hj) rfl rfl rfl ae (World.alloc_heap_new w.drew _) (.inl al) (λaa xx ha=>by rw[jF (w:=w) (Below.heap_alloc w.drew _ _ (Gg aa xx ha))];exact hs.frozen aa xx ha) h0 ab (by rw[pU];omega) sy rfl
   (by simp only[eP,cS,size_zeroCells,Ca,mv,sY,<- da];congr 1;omega)
   (by
    have e6:((els++ys).length*i.size)=(EN++news).length:=by rw[pU,la,sY,mv,da]
    rw[e6,xP,ee,dW];simp only[eE];rw[dz]
    exact ho.append mN) aa6 (λaa xx ha=>by have:=Gg aa xx ha;omega)
  exact⟨rfl,.inl ⟨_,_,fin (by rw[td];exact hr),m',Z,lR gy,m',rfl,_,_,0,q1,⟨_,q2⟩,by rw[pU];omega,sy,.inl ae⟩⟩
 rcases e5 with e5|⟨nQ,y5,A',e5⟩
 .by_cases Bi:els.length+ys.length<=cap-off
  .have Nz:(off+(els.length+ys.length))*i.size<=cap*i.size:=ck _ ab;rw[da,da]at Nz
   have tB:off*i.size+els.length*i.size+news.length<=cur.size:=by rw[mv,g8];omega
   have hr:=acK (P:=P) w t ty e i hu hi b (off*i.size) els.length (cap-off) cur fr g6 ab a ys.length c news mv ng Bh Bi tB;have Gh:cur.size=cur.toList.length:=ae
   have pE:(cur.toList.take (off*i.size+els.length*i.size)).length=off*i.size+els.length*i.size:=by rw[bY];omega
   obtain⟨m',gy,q1,q2⟩:=Step.mn (m:=m) (Z:=Z) (w:=w) (w':=w.setRow b (cur.toList.take (off*i.size+els.length*i.size)++news++cur.toList.drop (off*i.size+els.length*i.size+news.length)).toArray) (ver:=ver+1) (b:=b) (cap:=cap) (off:=off) (els:=els++ys) (cur:=(cur.toList.take (off*i.size+els.length*i.size)++news++cur.toList.drop (off*i.size+els.length*i.size+news.length)).toArray) (fr:=fr) (t:=e) (sz:=i.size) rG rb
    (λj hj lD=>setRow_other w b j _ λh=>lD (h▸mX)) rfl rfl rfl ae (setRow_heap w b cur _ e fr g6) (.inr mX) (λaa xx ha=>by rw[jF (setRow_other w b _ _ (g11 aa xx ha))];exact hs.frozen aa xx ha) h0 g3 (by rw[pU];omega) g5 g7
    (by simp only[cS,la,pE,cF];omega)
    (by
     have e6:((els++ys).length*i.size)=((cur.toList.drop (off*i.size)).take (els.length*i.size)++news).length:=by rw[pU,la,mv,da,bY,cF];omega
     have e7:(cur.toList.take (off*i.size+els.length*i.size)++news++cur.toList.drop (off*i.size+els.length*i.size+news.length)).drop (off*i.size)=(cur.toList.drop (off*i.size)).take (els.length*i.size)++news++cur.toList.drop (off*i.size+els.length*i.size+news.length):=by
      rw[dV (by rw[la,pE];omega),dV (by rw[pE];omega),fD]
      congr 3;omega
     rw[e6,xP];simp only[];rw[e7,dz]
     exact g9.append mN) aa6 g11
   exact⟨rfl,.inl ⟨_,_,fin (by rw[e5,td];exact hr),m',Z,lR gy,m',rfl,b,cap,off,q1,⟨_,q2⟩,by rw[pU];omega,e4,.inl (by rw[pU])⟩⟩
  .refine grown ((cur.toList.drop (off*i.size)).take (els.length*i.size)) (cap-off) g9 ab ?_;have Nz:(off+els.length)*i.size<=cap*i.size:=ck _ g4;rw[da]at Nz;rw[e5]
   exact run_append_grow (P:=P) w t ty e i z hu hi hz ⟨b,off*i.size,bg⟩ els.length (cap-off) ((cur.toList.drop (off*i.size)).take (els.length*i.size)) (by rw[bY,cF];omega) (λj v h=>by
    rw[Addr.add_lit,cell_of_row w b _ cur e fr g6];rw[cj]at h;split at h
    .rw[cW]at h;simpa using h
    .cases h) a ys.length c news mv ng ab ab (growslice_fits ab hlen)
 .have Lu:els=[]:=cy y5;subst Lu;refine grown [] 0 rfl (by simpa using pg) ?_;rw[e5];have hr:=run_append_nil (P:=P) w t ty e i z hu hi hz a ys.length c news mv ng pg ab (by simp only[dw,cl]at hlen;omega)
  cases A' with
  |none=>simpa using hr
  |some a' =>
   have tj:=run_append_grow (P:=P) w t ty e i z hu hi hz a' 0 0 [] ae (λj v h=>by simp at h) a ys.length c news mv ng ab (by simp only[dw,cl]at rF;omega) (growslice_fits ab (by simpa using hlen));simpa using tj
end
def sw{α:Type}(l:List α)(o:Nat)(ys:List α):List α:=l.take o++ys++l.drop (o+ys.length)
def XX{α:Type}{l ys:List α}{o:Nat}(h:o+ys.length<=l.length):(sw l o ys).length=l.length:=by simp[sw];omega
def zC5{α:Type}(l:List α)(o:Nat):sw l o []=l:=by simp[sw]
def zti{α β:Type}(f:α->β)(l:List α)(o:Nat)(ys:List α):(sw l o ys).map f=sw (l.map f) o (ys.map f):=by simp[sw]
def sF{α:Type}(l:List α)(o:Nat)(ys:List α):List α:=(sw l o ys).take l.length
def zX{α:Type}{l ys:List α}{o:Nat}:(sF l o ys).length=l.length:=by simp[sF,sw];omega
def ztj{α:Type}{l ys:List α}{o:Nat}(h:o+ys.length<=l.length):sF l o ys=sw l o ys:=by rw[sF,du];rw[XX h];exact fv _
def ou{sz:Nat}:∀{els:List (List V)},(∀e∈els,e.length=sz)->∀o,(els.take o).flatten=els.flatten.take (o*sz)
 |[],_,o=>ae
 |a::l,h,0=>ae
 |a::l,h,o+1=>by have ha:=h a ak;rw[List.take_succ_cons,cN,cN,ou (λe he=>h e (iO _ he)) o,da,eT,gS,<- ha,List.take_length_add_append]
def HK{sz:Nat}:∀{els:List (List V)},(∀e∈els,e.length=sz)->∀o,(els.drop o).flatten=els.flatten.drop (o*sz)
 |[],_,o=>ae
 |a::l,h,0=>ae
 |a::l,h,o+1=>by have ha:=h a ak;rw[List.drop_succ_cons,cN,HK (λe he=>h e (iO _ he)) o,da,eT,gS,<- ha,List.drop_length_add_append]
def Rd(w:bF)(Z:ZM)(y:bx)(ys:List (List V)):Prop:=
 ∃A cc,y=.slice A ys.length cc/\(0<ys.length->∃a,A=aY a/\∃news:List bx,zC bg Z ys.flatten news/\∀j u,news[j]?=aY u->w.cell? (a.add j)=aY u)
section
variable{P:bo}{m:M}{Z:ZM}{w:bF}
def znm{k e sz bytes t t2 ty L o n c:Nat}{els ys:List (List V)}{X Y:bx}(hT:kQ P t=aY (e,sz,bytes))(hs:w8 m Z [(k,.row e sz 0 els)] w)(hX:aT (aY m) Z (.sl sz k L o n) X)(hL:L=els.length)(D6:o+n<=L)(hY:Rd w Z Y ys)(h1:∀c∈ys,c.all V.one=bh)
  (nu:∀c∈ys,c.length=sz) (hc:c=min ys.length n):∃w',(Builtin.copy_ #[t,t2] ty #[X,Y]).run P w=.ok (.int .i64 c) w'/\Step m Z [(k,.row e sz 0 els)] w m Z [(k,.row e sz 0 (sw els o (ys.take c)))] w':=by
 obtain⟨i,z,hu,hi,hz,Dn,CQ,Ca,h0⟩:=kS hT;subst Dn;subst CQ;subst hL;obtain⟨f,loc,e1,e2,e3,e4,e5⟩:=hX;cases e1;obtain⟨A,cc,rfl,hA⟩:=hY
 obtain⟨B,cB,Ow⟩:∃B cB,X=.slice B n cB:=by
  rcases e5 with e5|⟨e5,A',e6⟩|⟨_,e5,A',c',e6,_⟩
  .exact⟨_,_,e5⟩
  .exact⟨A',0,by rw[e6];congr 1;omega⟩
  .exact⟨A',c',by rw[e6,e5]⟩
 have ib:(ys.take c).length=c:=by rw[bY];omega
 by_cases nQ:c=0
 .refine⟨w,?_,by rw[nQ,List.take_zero,zC5];exact Step.refl hs⟩;have Dp:Nat.min ys.length n=0:=hc.symm.trans nQ
  have hf:(Builtin.firstCells i.size 0 (.slice A ys.length cc)).run P w=.ok #[] w:=by
   cases A with
   |none=>simp[Builtin.firstCells]
   |some a=>simp[Builtin.firstCells,loadCells,loadCellsFrom]
  rw[Ow,nQ]
  cases B with
  |none=>simp[Builtin.copy_,run_underlying hu,sizeOf,typeInfo,hi,Builtin.lenOf,Dp,hf,goInt]
  |some b=>simp[Builtin.copy_,run_underlying hu,sizeOf,typeInfo,hi,Builtin.lenOf,Dp,hf,storeCells,goInt]
 have pg:0<n:=ab;have hy0:0<ys.length:=ab;obtain⟨a,rfl,news,mN,ng⟩:=hA hy0
 rcases hs.holds _ (b_.2 rfl)with⟨_,g1,_⟩|⟨b,cap,cur,fr,g1,g0,g2,g3,g4,g5,g6,g7,g8,g9,g10,g11,g12,g13⟩
 .subst g1;simp at D6;omega
 have g1:m k els.length=aY (b,cap):=g1;rw[g1]at e2;cases e2
 have e5:X=.slice (aY ⟨b,o*i.size,bg⟩) n (cap-o):=by
  rcases e5 with e5|⟨e5,_⟩|⟨_,e5,_⟩
  .exact e5
  .simp only at e5;omega
  .omega
 have mv:news.length=ys.length*i.size:=by rw[mN.length,xw nu]
 have Dp:Nat.min ys.length n=c:=hc.symm;have hcy:c<=ys.length:=ab;have hcn:c<=n:=ab;have nD:c*i.size<=ys.length*i.size:=ck _ hcy
 have Fi:(news.take (c*i.size)).length=c*i.size:=by rw[bY,mv];omega
 have hf:=run_firstCells_some (P:=P) w i.size c a ys.length cc (news.take (c*i.size)) Fi (λj v hj=>by
  rw[cj]at hj;split at hj
  .exact ng j v hj
  .cases hj)
 have Bh:∀u∈news,u.oneCell'=bh:=Q9 mN (bl.2 λv hv=>by
  obtain⟨c,hc,Ea⟩:=fI.1 hv
  exact(bl.1 (h1 c hc)) v Ea)
 have Nz:(o+c)*i.size<=els.length*i.size:=ck _ ab;have ajU:els.length*i.size<=cap*i.size:=ck _ g3;have afu:(o+c)*i.size=o*i.size+c*i.size:=da ..;have gy:=run_storeCells_atF P b (o*i.size) e fr (news.take (c*i.size)) 0 cur w g2 (by simp at g9;omega) (by rw[Fi,g5];omega) (λv hv=>Bh v (eW hv));simp only[dK,Fi]at gy;refine⟨w.setRow b (cur.toList.take (o*i.size)++news.take (c*i.size)++cur.toList.drop (o*i.size+c*i.size)).toArray,?_,?_⟩
 .rw[e5];simp[Builtin.copy_,run_underlying hu,sizeOf,typeInfo,hi,Builtin.lenOf,Dp,hf,gy,goInt]
 .have mX:gM m (k,.row e i.size 0 els) b:=by have:cap≠0:=ab;simp[gM,oi,Obj.ver,g1,this]
  have Jk:(sw els o (ys.take c)).length=els.length:=XX (by rw[ib];omega)
  have mY:cur.toList.length=cap*i.size:=by simpa using g5
  have tK:∀a x,Z a=aY x->a.block≠b:=λa x ha e=>by have:=g11 a x ha e;simp at this
  refine Step.write (b:=b) hs mX (λb2 h=>My (by simp only[Obj.ver];exact Jk) rfl rfl b2 h) rfl rfl rfl ae (λj hj=>setRow_other w b j _ hj) (λa x ha e=>aQ e (tK a x ha)) ?_;refine .inr ⟨b,cap,_,fr,by rw[Jk];exact g1,g0,setRow_heap w b cur _ e fr g2,by rw[Jk];exact g3,g4,?_,g6,?_,?_,g9,ab,λa x ha e=>aQ e (tK a x ha),by rw[Jk];exact g12,λoff x h=>by simp at h⟩
  .simp only[cS,la,bY,cF,mv];omega
  .rw[Jk]
   have B1:(sw els o (ys.take c)).flatten=els.flatten.take (o*i.size)++ys.flatten.take (c*i.size)++els.flatten.drop ((o+c)*i.size):=by rw[sw,eB,eB,ou g8,ou nu,ib,HK g8]
   rw[B1]
   have hcu:(cur.toList.take (o*i.size)++news.take (c*i.size)++cur.toList.drop (o*i.size+c*i.size)).toArray.toList.take (els.length*i.size)=(cur.toList.take (els.length*i.size)).take (o*i.size)++news.take (c*i.size)++(cur.toList.take (els.length*i.size)).drop ((o+c)*i.size):=by
    simp only[]
    have UP:(cur.toList.take (o*i.size)++news.take (c*i.size)).length=o*i.size+c*i.size:=by rw[la,Fi,bY];omega
    rw[List.take_append,du (by rw[UP];omega),UP,List.take_take,fD,afu]
    congr 2
    rw[eH ab]
   rw[hcu];exact((g7.take _).append (mN.take _)).append (g7.drop _)
  .intro c' pc;rw[sw,tF]at pc
   rcases bJ.1 pc with h|h
   .exact g8 _ (eW h)
   .rcases bJ.1 h with h|h
    .exact nu _ (eW h)
    .exact g8 _ (fQ h)
def Src.rd{R:aw}{sz:Nat}{y:V}{ys:List (List V)}{x:bx}(h:Src sz R y ys)(h0:0<sz)(hs:w8 m Z R w)(hx:aT (aY m) Z y x):Rd w Z x ys:=by
 obtain⟨A,c,e1,_,e2,e3⟩:=h.read h0 hs hx;refine⟨A,c,e1,λhp=>?_⟩
 cases A with
 |none=>rw[e2 rfl]at hp;simp at hp
 |some a=>exact⟨a,rfl,e3 a rfl⟩
def zC6{k e sz fz L o n:Nat}{els:List (List V)}{x:bx}(hs:w8 m Z [(k,.row e sz fz els)] w)(hx:aT (aY m) Z (.sl sz k L o n) x)(hL:L=els.length)(D6:o+n<=L):Rd w Z x ((els.drop o).take n):=by
 subst hL;obtain⟨f,loc,e1,e2,e3,e4,e5⟩:=hx;cases e1
 have hlen:((els.drop o).take n).length=n:=by rw[bY,cF];omega
 by_cases hn:n=0
 .subst hn
  rcases e5 with e5|⟨e5,A',e6⟩|⟨_,e5,A',c',e6,_⟩
  .exact⟨_,_,by rw[hlen];exact e5,λh=>ab⟩
  .exact⟨_,_,by rw[hlen];exact e6,λh=>ab⟩
  .exact⟨_,_,by rw[hlen];exact e6,λh=>ab⟩
 rcases hs.holds _ (b_.2 rfl)with⟨_,g1,_⟩|⟨b,cap,cur,fr,g1,g0,g2,g3,g4,g5,g6,g7,g8,g9,g10,g11,g12,g13⟩
 .subst g1;simp at D6;omega
 have g1:m k els.length=aY (b,cap):=g1;rw[g1]at e2;cases e2
 have e5:x=.slice (aY ⟨b,o*sz,bg⟩) n (cap-o):=by
  rcases e5 with e5|⟨e5,_⟩|⟨_,e5,_⟩
  .exact e5
  .simp only at e5;omega
  .omega
 refine⟨_,_,by rw[hlen];exact e5,λ_=>⟨_,rfl,(((cur.toList.take (els.length*sz)).drop (o*sz)).take (n*sz)),?_,λj u hj=>?_⟩⟩
 .have h8:∀e∈els.drop o,e.length=sz:=λe he=>g8 e (fQ he)
  rw[ou h8,HK g8];exact(g7.drop _).take _
 .rw[Addr.add_lit,cell_of_row w b _ cur e fr g2];rw[cj]at hj;split at hj
  .rw[cW,cj]at hj;split at hj
   .simpa using hj
   .cases hj
  .cases hj
end
section
variable{P:bo}{ρ:Env}{dst:Option Tmp}{ty:bK}{pos:String}{aft:Array Edge}{gd:Option (Nat×Bool)}{α:Type}
def ztk(f:α->List V){t t2 e sz bytes k L o n c:Nat}{x y:bI}{q ys all:List α}{R:aw}(hT:kQ P t=aY (e,sz,bytes))(hx:aV ρ x=.sl sz k L o n)(hL:q.length=L)(D6:o+n<=L)(hy:Src sz R (aV ρ y) (ys.map f))(h1:∀a,(f a).all V.one=bh)(nu:∀a,(f a).length=sz)(sf:wj k R=bf)
  (hc:c=min ys.length n) (nF:sF q o (ys.take c)=all):
  Loc P ⟨dst,.call ⟨.builtin .copy,#[x,y],#[t,t2]⟩,ty,pos,aft,gd⟩ ρ ((k,.row e sz 0 (q.map f))::R) (.int .i64 c) ((k,.row e sz 0 (all.map f))::R):=by
 intro ρr m Z w e9 hs mU;rw[ztj (by rw[bY];omega)]at nF;subst nF;have hX:=e9 x (by simp[Op.operands,Call.operands]);have hY:=e9 y (by simp[Op.operands,Call.operands]);rw[hx]at hX;obtain⟨i,z,hu,hi,hz,Dn,CQ,Ca,h0⟩:=kS hT;have rG:w8 m Z [(k,.row e sz 0 (q.map f))] w:=w8.left (F:=[(k,.row e sz 0 (q.map f))]) (G:=R) hs;have B8:w8 m Z R w:=w8.left (F:=R) (G:=[(k,.row e sz 0 (q.map f))]) (hs.perm (dx (l₁:=[(k,Obj.row e sz 0 (q.map f))]) (l₂:=R)));obtain⟨w',hr,gy⟩:=znm (t2:=t2) (ty:=ty) (c:=c) hT rG hX (by rw[bM];exact hL.symm) D6 (hy.rd h0 B8 hY) (JJ f h1 ys) (JK f nu ys) (by rw[bM];exact hc);rw[<- ef,<- zti]at gy
 exact⟨rfl,.inl ⟨_,w',by simp[bP,resolve,invoke,builtin,hr],m,Z,Step.Bk (F:=[(k,.row e sz 0 (q.map f))]) (G:=R) (F':=[(k,.row e sz 0 ((sw q o (ys.take c)).map f))]) hs gy (λp hp r LD e'=>by
  simp only[b_]at hp;subst hp;have e':k=r.1:=e'
  rw[yt.2 (by rw[e'];exact ax LD)]at sf;cases sf),rfl⟩⟩
def zeg(f:α->List V){t t2 e sz bytes k L o n o2 n2 c:Nat}{x y:bI}{q all:List α}(hT:kQ P t=aY (e,sz,bytes))(hx:aV ρ x=.sl sz k L o n)(hy:aV ρ y=.sl sz k L o2 n2)(hL:q.length=L)(D6:o+n<=L)(afU:o2+n2<=L)(h1:∀a,(f a).all V.one=bh)(nu:∀a,(f a).length=sz)
  (hc:c=min n2 n) (nF:sF q o (((q.drop o2).take n2).take c)=all):
  Loc P ⟨dst,.call ⟨.builtin .copy,#[x,y],#[t,t2]⟩,ty,pos,aft,gd⟩ ρ [(k,.row e sz 0 (q.map f))] (.int .i64 c) [(k,.row e sz 0 (all.map f))]:=by
 intro ρr m Z w e9 hs mU;rw[ztj (by rw[bY,bY,cF];omega)]at nF;subst nF;have hX:=e9 x (by simp[Op.operands,Call.operands]);have hY:=e9 y (by simp[Op.operands,Call.operands]);rw[hx]at hX;rw[hy]at hY
 have hlen:((q.drop o2).take n2).length=n2:=by rw[bY,cF];omega
 have G7:=zC6 hs hY (by rw[bM];exact hL.symm) afU;rw[<- eA,<- ef]at G7;obtain⟨w',hr,gy⟩:=znm (t2:=t2) (ty:=ty) (c:=c) hT hs hX (by rw[bM];exact hL.symm) D6 G7 (JJ f h1 _) (JK f nu _) (by rw[bM,hlen];exact hc);rw[<- ef,<- zti]at gy;exact⟨rfl,.inl ⟨_,w',by simp[bP,resolve,invoke,builtin,hr],m,Z,gy,rfl⟩⟩
def AQ{t e sz k L n:Nat}{x:bI}{lo hi:Option bI}{l h:Int}(ht:kP P t=aY (e,sz))(hx:aV ρ x=.sl sz k L 0 n)(hl:s5 ρ lo 0 l)(hh:s5 ρ hi n h)(h0:0<=l)(h1:l<=h)(h2:h<=n):
  Loc P ⟨dst,.slice t x lo hi bg,ty,pos,aft,gd⟩ ρ [] (.sl sz k L l.toNat (h.toNat-l.toNat)) []:=by
 have:=zgp (P:=P) (ρ:=ρ) (dst:=dst) (ty:=ty) (pos:=pos) (aft:=aft) (gd:=gd) ht hx hl hh h0 h1 h2
 rwa [cl]at this
def ztl(f:α->List V){t e et sz k ver n n':Nat}{x lo:bI}{p:List α}{kk:IntKind}(ht:kP P t=aY (e,sz))(hx:aV ρ x=.gv k (qv bh sz ver n))(hl:aV ρ lo=.int kk 1)(hn:p.length=n)(h0:1<=n)(CS:(p.drop 1).length=n'):
  Loc P ⟨dst,.slice t x (aY lo) bg bg,ty,pos,aft,gd⟩ ρ [(k,.gen (mn et sz ver (p.map f)))] (.gv k (qv bh sz (ver+1) n')) [(k,.gen (mn et sz (ver+1) ((p.drop 1).map f)))]:=by subst hn;subst CS;have:=zyu (P:=P) (ρ:=ρ) (dst:=dst) (ty:=ty) (pos:=pos) (aft:=aft) (gd:=gd) (et:=et) (els:=p.map f) ht hx hl (bM ..).symm h0 rfl;rw[<- eA]at this;rw[cF];exact this
def nzP(sz:Nat)(els:List (List V)):aac where
 rep Z x:=(els=[]/\x=.slice bg 0 0)∨(els≠[]/\aT bg Z (.vs sz els) x)
 mono Z Z' x hZ h:=h.imp id λ⟨h1,h2⟩=>⟨h1,h2.up hZ λf e=>by cases e⟩
 one Z x h:=by
  rcases h with⟨_,rfl⟩|⟨_,A,c,rfl,_⟩<;>exact⟨rfl,rfl⟩
def nz(sz:Nat)(els:List (List V)):V:=.pv (nzP sz els)
def aiJ{sz:Nat}{els:List (List V)}(m:Option M)(Z:ZM)(x:bx)(h:aT m Z (nz sz els) x):aT m Z (.vs sz els) x:=by
 rcases h with⟨h1,h2⟩|⟨_,h⟩
 .subst h1;exact⟨bg,0,h2,al,cH _,.inl rfl⟩
 .exact h
def aiI{sz:Nat}{els:List (List V)}(h:cO els=bf)(m:Option M)(Z:ZM)(x:bx)(hx:aT m Z (.vs sz els) x):aT m Z (nz sz els) x:=.inr ⟨(by rintro rfl;cases h),hx⟩
def zHs{sz:Nat}{f:α->List V}{l:List α}(h:cO l=bf):∀(m:Option M)(Z:ZM)(x:bx),aT m Z (.vs sz (l.map f)) x->aT m Z (nz sz (l.map f)) x:=aiI (by cases l with
 |nil=>cases h
 |cons a l=>rfl)
def WN{sz:Nat}{els:List (List V)}(h:els=[])(m:Option M)(Z:ZM)(x:bx)(hx:aT m Z .gg x):aT m Z (nz sz els) x:=.inl ⟨h,hx⟩
def au.nz{F:aw}(sz:Nat)(els:List (List V)):au F (nz sz els) (.vs sz els):=.Ji aiJ
def znn{m:M}{Z:ZM}{sz:Nat}{els:List (List V)}{x:bx}(h:aT (aY m) Z (EV.nz sz els) x):∃A c,x=.slice A els.length c/\A.isNone=cO els:=by
 rcases h with⟨rfl,rfl⟩|⟨h1,A,c,rfl,_,_,h4|⟨a,rfl,_⟩⟩
 .exact⟨_,_,rfl,rfl⟩
 .exact aQ h4 h1
 .refine⟨_,_,rfl,?_⟩
  cases els with
  |nil=>exact aQ rfl h1
  |cons=>rfl
def Ya{t sz n:Nat}{x:bI}{els:List (List V)}(ht:jE P t=bh)(hx:aV ρ x=nz sz els)(hn:els.length=n):Loc P ⟨dst,.call ⟨.builtin .len,#[x],#[t]⟩,ty,pos,aft,gd⟩ ρ [] (.int .i64 n) []:=by
 subst hn;intro ρr m Z w e9 hs _;have hX:=e9 x (by simp[Op.operands,Call.operands]);rw[hx]at hX;obtain⟨A,c,hv,_⟩:=znn hX;unfold jE at ht;split at ht
 .rename_i e hu;exact⟨rfl,.inl ⟨_,w,oF hu hv,m,Z,Step.refl hs,rfl⟩⟩
 .cases ht
def zno{m:M}{Z:ZM}{w:bF}{ρr:zS}{t t' sz:Nat}{x y:bI}{els:List (List V)}{d:Nat}(ht:BK P t .gg=bh)(hX:aT (aY m) Z (EV.nz sz els) (ev ρr x))(hY:aT (aY m) Z .gg (ev ρr y)):
  (bP (ev ρr) ⟨aY d,.binOp .eql t x y t',ty,pos,aft,gd⟩).run P w=.ok (.value (.bool (cO els))) w/\(bP (ev ρr) ⟨aY d,.binOp .neq t x y t',ty,pos,aft,gd⟩).run P w=.ok (.value (.bool (!List.isEmpty els))) w:=by
 obtain⟨A,c,hv,he⟩:=znn hX;have hY:ev ρr y=.slice bg 0 0:=hY
 have D9:∃e,P.underlying t=aY (.slice e):=by
  simp only[BK]at ht;split at ht
  .exact⟨_,by assumption⟩
  .cases ht
 obtain⟨e,D9⟩:=D9
 have hq:∀k,(Op.equalIn (k+1) t (.slice A els.length c) (.slice bg 0 0)).run P w=.ok A.isNone w:=λk=>by cases A<;>simp[Op.equalIn,run_underlying D9]
 rw[<- he];exact Mx (dst:=aY d) (t':=t') (ty:=ty) (pos:=pos) (aft:=aft) (gd:=gd) (b:=A.isNone) hv hY rfl rfl (hq 9999)
def XY{d t t' sz:Nat}{x y:bI}{els:List (List V)}{b:Bool}(ht:BK P t .gg=bh)(hx:aV ρ x=nz sz els)(hy:aV ρ y=.gg)(hb:cO els=b):Loc P ⟨aY d,.binOp .eql t x y t',ty,pos,aft,gd⟩ ρ [] (.bool b) []:=by subst hb;intro ρr m Z w e9 hs _;have hX:=e9 x (by simp[Op.operands]);have hY:=e9 y (by simp[Op.operands]);rw[hx]at hX;rw[hy]at hY;exact⟨rfl,.inl ⟨_,w,(zno (t':=t') ht hX hY).1,m,Z,Step.refl hs,rfl⟩⟩
def zk2{d t t' sz:Nat}{x y:bI}{els:List (List V)}{b:Bool}(ht:BK P t .gg=bh)(hx:aV ρ x=nz sz els)(hy:aV ρ y=.gg)(hb:(!List.isEmpty els)=b):Loc P ⟨aY d,.binOp .neq t x y t',ty,pos,aft,gd⟩ ρ [] (.bool b) []:=by subst hb;intro ρr m Z w e9 hs _;have hX:=e9 x (by simp[Op.operands]);have hY:=e9 y (by simp[Op.operands]);rw[hx]at hX;rw[hy]at hY;exact⟨rfl,.inl ⟨_,w,(zno (t':=t') ht hX hY).2,m,Z,Step.refl hs,rfl⟩⟩
end
section
variable{P:bo}{ρ:Env}{o:Oper}{v:V}
def ztm{Fa R F2 F1:aw}(h2:Fa++k_ R=F2)(hl:Loc P o ρ F2 v F1):Loc P o ρ (Fa++R) v F1:=by
 subst h2;intro ρr m Z w e9 hs mU;have B8:w8 m Z R w:=w8.left (F:=R) (G:=Fa) (hs.perm dx)
 have gy:Step m Z (R++Fa) w m (sQ m Z R w) (k_ R++Fa) w:=Step.Bk (hs.perm dx) (Step.freeze B8) λp hp q hq e=>by
  have h1:p.1∈keys R:=by rw[<- wU];exact ax hp
  obtain⟨p',ka,e'⟩:=bL.1 h1;exact Kf hs.nodup hq ka (by rw[e'];exact e.symm)
 have gy:=(gy.aiM dx).NK (dx (l₁:=k_ R) (l₂:=Fa));refine(hl ρr m _ w (λx hx=>(e9 x hx).up gy.o4 λf e=>by cases e;exact⟨m,rfl,gy.pM⟩) gy.iW (λk hk hn=>mU k hk λh=>hn ?_)).mono ?_
 .rw[zA]at h ⊢;rw[wU];exact h
 .rintro x w' ⟨m',Z',st,hr⟩;exact⟨m',Z',gy.trans st,hr⟩
end
section
variable{K0:List Nat}{ρ:Env}{H:aw}
def zqb(kb j d e sz:Nat){t:Nat}{cs cs':List V}(h_:cm 1 sz=bh)(hF:kO [kb] H=aY [(kb,.box t cs)])(hj:cs[j]?=aY .gg)(nD:cs.set j (.sl sz d 0 0 0)=cs')(hd:wj d H=bf){H1:aw}(pY:(d,.row e sz 0 [])::(kb,.box t cs')::js [kb] H=H1):
  Cut K0 ρ H ρ H1:=λc ρr w S=>by
 subst pY;subst nD
 have mA:d ∉ keys H:=λh=>by rw[yt.2 h]at hd;cases hd
 have th:kb∈keys H:=by have:=(yX hF).2 _ (b_.2 rfl);exact ax this
 have lD:d≠kb:=λe=>mA (e▸th)
 have:=Kc.step (c:=c) (ρ:=ρ) (H:=H) (F:=[(kb,.box t cs)]) (F':=[(d,.row e sz 0 []),(kb,.box t (cs.set j (.sl sz d 0 0 0)))]) (ks:=[kb]) (ρ':=ρ) (ρr:=ρr) (w:=w) (by simp[nodupB]) hF (by simp[o7,mA,lD]) (λm Z hs mU hR=>by
  have CB:∀L,m d L=bg:=λL=>mU d (by simp[keys]) (by simp[keys];exact lD) L
  let m':M:=λk' L=>if k'=d/\L=0 then aY (0,0)else m k' L
  have h1:m' d 0=aY (0,0):=by simp[m']
  have h2:∀k L loc,m k L=aY loc->m' k L=aY loc:=λk L loc e=>by
   by_cases hc:k=d/\L=0
   .obtain⟨rfl,rfl⟩:=hc;rw[CB]at e;cases e
   .simp only[m',aN hc];exact e
  have h3:∀k,k≠d->m' k=m k:=λk hk=>by funext L;simp[m',hk]
  obtain⟨b,cur,g1,g2,g3,g4,g5⟩:=hs.holds _ (b_.2 rfl)
  have DS:∀b',gM m' (d,.row e sz 0 []) b'->False:=λb' h=>by simp[gM,oi,Obj.ver,h1]at h
  have pZ:∀b',gM m' (kb,.box t (cs.set j (.sl sz d 0 0 0))) b'->gM m (kb,.box t cs) b':=λb' h=>by simp only[gM,oi,Obj.ver,h3 kb (Ne.symm lD)]at h ⊢;exact h
  refine⟨m',Z,⟨⟨hs.frozen,λp hp=>?_,by simp[keys];exact lD,λp hp q hq b' q1 q2=>?_⟩,h2,λ_ _ e=>e,rfl,rfl,rfl,al,λ_ _ _=>rfl,λk hk=>?_,λk hk=>?_,λp hp b' hb=>?_,λ_ _ e=>.inl e⟩,λu=>(hR u).up (λ_ _ e=>e) (λf e=>by cases e;exact⟨m',rfl,h2⟩)⟩
  .simp only[bu,eg,or_false]at hp
   rcases hp with rfl|rfl
   .refine .inl ⟨mi h_,rfl,rfl,⟨0,h1⟩,λL loc e=>?_⟩;simp only[m']at e;split at e
    .rename_i hc;omega
    .rw[CB]at e;cases e
   .have N':=g3.up (Z':=Z) (m':=aY m') (λ_ _ e=>e) (λf e=>by cases e;exact⟨m',rfl,h2⟩);refine⟨b,cur,by rw[h3 kb (Ne.symm lD)];exact g1,g2,?_,g4,by rw[h3 kb (Ne.symm lD)];exact g5⟩;obtain⟨x,OZ,Eb⟩:=N'.get hj;have Eb:x=.slice bg 0 0:=Eb
    refine zC.po (by rw[cb];exact N'.length) λi v y hv hy=>?_
    by_cases tg:j=i
    .subst tg;have DY:=(bq.1 hj).1;rw[dH,aO rfl,aO DY]at hv;cases hv;rw[OZ]at hy;cases hy;exact⟨m',_,rfl,h1,al,cH _,.inr (.inl ⟨rfl,bg,Eb⟩)⟩
    .rw[fP tg]at hv;obtain⟨z,hz,hr⟩:=N'.get hv;rw[hy]at hz;cases hz;exact hr
  .simp only[bu,eg,or_false]at hp hq
   rcases hp with rfl|rfl<;>rcases hq with rfl|rfl
   .rfl
   .exact(DS _ q1).elim
   .exact(DS _ q2).elim
   .rfl
  .simp only[keys,ij,dC,b_]at hk;subst hk;simp[keys]
  .simp only[keys,ij,dC,bu,eg,or_false,not_or]at hk;exact h3 k hk.1
  .simp only[bu,eg,or_false]at hp
   rcases hp with rfl|rfl
   .exact(DS _ hb).elim
   .exact .inr ⟨_,b_.2 rfl,pZ _ hb⟩) S
 exact this
end
section
variable{P:bo}{ρ:Env}{dst:Option Tmp}{ty:bK}{pos:String}{aft:Array Edge}{gd:Option (Nat×Bool)}
def YW{a b c d:List V}(hl:a.length=b.length)(h1:Bo a b)(h2:Bo c d):Bo (a++c) (b++d):=λZ l h=>by have h3:=h.take a.length;have h4:=h.drop a.length;rw[dz]at h3;rw[lf]at h4;rw[<- ek a.length l];exact(h1 _ _ h3).append (h2 _ _ h4)
def ztn{a:List V}:Bo a a:=λ_ _ h=>h
def zC7{m:M}{Z:ZM}{w:bF}{k t sz fz:Nat}{els:List (List V)}(hs:w8 m Z [(k,.row t sz fz els)] w){n:Nat}(hn:n<els.length):els[n].length=sz:=by
 rcases hs.holds _ (b_.2 rfl)with⟨_,g1,_⟩|⟨b,cap,cur,fr,g1,g0,g2,g3,g4,g5,g6,g7,g8,_⟩
 .subst g1;simp at hn
 .exact g8 _ (dS hn)
def zeh{t et sz fz k L off:Nat}{a x:bI}{els all:List (List V)}{cs c1 c2:List V}(i j:Nat)(ha:aV ρ a=.ptr k L off)(hL:L=els.length)(tR:off=i*sz+j)(hc:els[i]?=aY cs)(nW:fz<=i)
  (hp:(aV ρ x).plain=bh) (h1:(aV ρ x).cells.all V.one=bh) (Bx:(aV ρ x).refs=[]) (h_:vJ P t (aV ρ x).cells.length=bh) (tB:cm (j+(aV ρ x).cells.length) sz=bh) (pc:cs.take j++(aV ρ x).cells++cs.drop (j+(aV ρ x).cells.length)=c1)
  (hw:Bo c1 c2) (hl:bm c1.length c2.length=bh) (nF:els.set i c2=all):
  Loc P ⟨dst,.store t a x,ty,pos,aft,gd⟩ ρ [(k,.row et sz fz els)] .no [(k,.row et sz fz all)]:=by
 subst pc;subst nF;have hl:=eb hl;have h0:=Wb (P:=P) (dst:=dst) (ty:=ty) (pos:=pos) (aft:=aft) (gd:=gd) (et:=et) i j ha hL tR hc nW hp h1 Bx h_ (mi tB);generalize cs.take j++(aV ρ x).cells++cs.drop (j+(aV ρ x).cells.length)=c1 at h0 hw hl;have hi:=(bq.1 hc).1;intro ρr m Z w e9 hs mU
 refine(h0 ρr m Z w e9 hs (λk hk mu L=>by exact mU k (by simpa[keys]using hk) mu L)).mono λy w' hy=>?_
 obtain⟨m',Z',st,hr⟩:=hy;refine⟨m',Z',st.abc (by funext b;simp only[gM,oi,Obj.ver,cb]) λhh=>?_,hr⟩
 rcases hh with⟨_,g1,_⟩|⟨b,cap,cur,fr,g1,g0,g2,g3,g4,g5,g6,g7,g8,g9,g10,g11,g12,g13⟩
 .have:=aP ba g1;simp only[cb,dw]at this;omega
 .simp only[cb]at g1 g3 g7 g10 g12;refine .inr ⟨b,cap,cur,fr,by rw[cb];exact g1,g0,g2,by rw[cb];exact g3,g4,g5,g6,?_,λe he=>?_,g9,by rw[cb];exact g10,g11,by rw[cb];exact g12,g13⟩
  .rw[cb];rw[fw,aO hi,eB,cN]at g7 ⊢;exact YW rfl ztn (YW hl hw ztn) _ _ g7
  .rcases List.mem_or_eq_of_mem_set he with h|h
   .obtain⟨n,hn,rfl⟩:=dL h;by_cases UU:i=n
    .subst UU
     -- the old element's length: the element itself is gone; its length is that of the new one's
     have hm:=g8 c1 (lu hi c1);exact(zC7 hs hn)
    .exact g8 _ (by
      have:(els.set i c1)[n]?=aY els[n]:=by rw[fP UU,bA hn]
      exact bW this)
   .subst h;have hm:=g8 c1 (lu hi c1);rw[<- hl];exact hm
end
section
variable{α β:Type}[DecidableEq α]
end
section
variable{e sz:Nat}{l:List (V×List (List V))}{ho:Option Nat}{mk:Nat->Option (Nat×Nat)}{Z:ZM}{w:bF}
end
def gone:Ic where
 holds _ _ _:=True
 nZ _ _:=False
 some_ _ _ h:=h.elim
 own _ _ _ _ _ h:=h.elim
 keep _ _ _ _ _ h _ _:=h
section
variable{m:M}{Z:ZM}{w w':bF}
end
section
variable{P:bo}{ρ:Env}{dst:Option Tmp}{ty:bK}{pos:String}{aft:Array Edge}{gd:Option (Nat×Bool)}{α β:Type}[DecidableEq α]
end
section
variable{m:M}{Z:ZM}{w:bF}{K0:List Nat}{ρ:Env}{H:aw}
end
section
variable{P:bo}{ρ:Env}{dst:Option Tmp}{ty:bK}{pos:String}{aft:Array Edge}{gd:Option (Nat×Bool)}
end
section
variable{m:M}{Z:ZM}{w:bF}{K0:List Nat}{ρ:Env}{H:aw}
end
section
variable{α β:Type}[DecidableEq α]
variable{P:bo}{ρ:Env}{dst:Option Tmp}{ty:bK}{pos:String}{aft:Array Edge}{gd:Option (Nat×Bool)}
end
section
variable{K0:List Nat}{ρ:Env}{H:aw}
end
section
variable{P:bo}{f:FuncId}{args:List V}{F F':aw}{r:V}
end
section
variable{P:bo}
end
section
variable{P:bo}{F:Fence}{n:Nat}{b:Frame}{a:Act}{k:List Item}{cs:List Frame}{w:bF}{Q:Exit->Act->bF->Prop}
end
section
variable{K0:List Nat}{c:Ctx K0}{P:bo}{r:Option Nat}{N:Nat}{Q:xF}{ρ:Env}{H:aw}{ds:List cr}
end
def FX(g:Nat):Nat:=3*g+2
def Iq(mk:Nat->Option (Nat×Nat))(g:Nat):Prop:=mk (FX g)≠bg/\∀g',g<g'->mk (FX g')=bg
def af0:Nat×Obj->Bool|(_,.n_ _ _ _)=>bh|_=>bf
section
variable{P:bo}{f:FuncId}{args:List V}{F F' F2 G:aw}{r:V}{s:Nat->Bool}
end
end Go.EV
namespace Go.lG
open Go Go.RowKit
section
variable{P:bo}{r:Option Nat}{N:Nat}{Q:Wy}{ρ:zS}{ds:List cr}{w W0:bF}{L:List Own}
variable{all rest:List Oper}{ty:bK}{pos:String}{aft:Array Edge}{gd:Option (Nat×Bool)}{jl:Nat}{S:bF->Prop}{K:zS->List cr->bF->Prop}
open Go.Sort
end
section
variable{P:bo}{ρ:zS}{w W:bF}{dst:Option Tmp}{ty:bK}{pos:String}{aft:Array Edge}{gd:Option (Nat×Bool)}{α:Type}{enc:α->List bx}{k:Nat}{v:bx}{l:List α}
end
section
variable{P:bo}{r:Option Nat}{N:Nat}{Q:Wy}{ρ:zS}{ds:List cr}{w W0:bF}{L:List Own}
variable{all rest:List Oper}{ty:bK}{pos:String}{aft:Array Edge}{gd:Option (Nat×Bool)}
end
end Go.lG
namespace Go.EV
open Go Go.RowKit Go.lG
section
variable{P:bo}{f:FuncId}{args:List V}{r:V}
def Vd{w w':bF}{m:M}{Z:ZM}(hf:∀a x,Z a=aY x->w.cell? a=aY x)(hb:Below w.heap.size w w'):Step m Z [] w m Z [] w':=⟨⟨λa x ha=>by rw[jF (hb.block _ (xv hf ha))];exact hf a x ha,λp hp=>(by cases hp),cZ,λp hp=>(by cases hp)⟩,λ_ _ _ h=>h,λ_ _ h=>h,hb.os,hb.tape,hb.output,hb.size,λb mf _=>hb.block b mf,λ_ h=>h,λ_ _=>rfl,λp hp=>(by cases hp),λ_ _ h=>.inl h⟩
end
section
variable{P:bo}{ρ:Env}{dst:Option Tmp}{ty:bK}{pos:String}{aft:Array Edge}{gd:Option (Nat×Bool)}
end
open Go Go.RowKit Go.lG Go.Lib
section
variable{P:bo}{ρ:Env}{dst:Option Tmp}{ty:bK}{pos:String}{aft:Array Edge}{gd:Option (Nat×Bool)}
def I2(G:aw):Bool:=G.all λp=>match p.2 with|.n_ _ _ cs=>Qb cs|_=>bf
def zC8{G:aw}(h:I2 G=bh){p:Nat×Obj}(hp:p∈G):∃g t cs,p.2=.n_ g t cs/\Qb cs=bh:=by
 have:=(bl.1 h) p hp;split at this
 .exact⟨_,_,_,by assumption,this⟩
 .cases this
def Yb{f:FuncId}{args:List V}{r:V}{G:aw}(hG:I2 G=bh)(D7:wh args=[])
  (h:∀w Z vals,(∀a y,Z a=aY y->w.cell? a=aY y)->(∀p∈G,∀g ob cs,p.2=.n_ g ob cs->∃cur u fr,w.heap[g]?=aY (.cells cur u fr)/\zC bg Z cs cur.toList)->zC bg Z args vals->Calls P f vals.toArray w λen w'=>∃x,en=.returned x/\(∀m,aT m Z r x)/\Below w.heap.size w w'):mz P f args G r G:=by intro w m Z vals hs hv lR;refine Calls.mono (h w Z vals hs.frozen (λp hp g ob cs hl=>by have hh:=hs.holds p hp;rw[hl]at hh;obtain⟨_,⟨h2,cur,u,fr,h5,h3⟩,_⟩:=hh;exact⟨cur,u,fr,by rw[h2,h5],h3⟩) (zC.flat args vals D7 hv)) ?_;rintro en w' ⟨x,he,hr,hb⟩;refine⟨x,m,Z,he,?_,hr _⟩;have:=Step.Bk (F:=[]) (F':=[]) (G:=G) hs (Vd hs.frozen hb) (λp hp=>by cases hp);exact this
end
section
variable{P:bo}{m:M}{Z:ZM}{w:bF}
end
section
variable{P:bo}{ρ:Env}{dst:Option Tmp}{ty:bK}{pos:String}{aft:Array Edge}{gd:Option (Nat×Bool)}
end
section
variable{K0:List Nat}{c:Ctx K0}{P:bo}{r:Option Nat}{N:Nat}{Q:xF}{ρ:Env}{H:aw}{ds:List cr}
end
section
variable{P:bo}{ρ:Env}{dst:Option Tmp}{ty:bK}{pos:String}{aft:Array Edge}{gd:Option (Nat×Bool)}{α β:Type}[DecidableEq α]
end
section
variable{P:bo}{m:M}{Z:ZM}{w:bF}
end
section
variable{P:bo}{ρ:Env}{dst:Option Tmp}{ty:bK}{pos:String}{aft:Array Edge}{gd:Option (Nat×Bool)}{α:Type}
end
section
variable{m:M}{Z:ZM}{w:bF}
end
section
variable{K0:List Nat}{ρ:Env}{H:aw}
end
section
variable{K0:List Nat}{c:Ctx K0}{P:bo}{r:Option Nat}{N:Nat}{all rest:List Oper}{o:Oper}{Q:xF}{ρ:Env}{H:aw}{ds:List cr}
end
section
variable{P:bo}{ρ:Env}{dst:Option Tmp}{ty:bK}{pos:String}{aft:Array Edge}{gd:Option (Nat×Bool)}
end
section
variable{α β:Type}
variable[DecidableEq α]
variable{P:bo}{ρ:Env}{dst:Option Tmp}{ty:bK}{pos:String}{aft:Array Edge}{gd:Option (Nat×Bool)}
end
section
variable{K0:List Nat}{ρ:Env}{H:aw}
end
section
variable{P:bo}{f:FuncId}{args ajT:List V}{F F' F2 sK G:aw}{r r2:V}{s:Nat->Bool}
end
section
variable{P:bo}{ρ:Env}{dst:Option Tmp}{ty:bK}{pos:String}{aft:Array Edge}{gd:Option (Nat×Bool)}{x y:bI}{t t' k:Nat}{a:Nat->Nat}{i:Nat}
end
def aiK(mk:Nat->Option (Nat×Nat))(Z:ZM)(w:bF):List (List (V×V))->Prop
 |[]=>(∃b,mk 0=aY (b,0))/\∀L loc,mk L=aY loc->L=0
 |l::_=>∃(b:Nat)(es:Array MapEntry)(clock:Nat),mk 0=aY (b,1)/\w.heap[b]?=aY (.map es clock)/\s4 Z l es.toList/\(es.toList.Pairwise λx y=>x.born<y.born)/\(∀e∈es.toList,e.born<clock)/\(∀a x,Z a=aY x->a.block≠b)/\(∃L0,∀L loc,mk L=aY loc->L<=L0)
def XC(mk:Nat->Option (Nat×Nat))(b:Nat):List (List (V×V))->Prop
 |[]=>False
 |_::_=>((mk 0).bind λloc=>if loc.2=0 then bg else aY loc.1)=aY b
def XD(l:List (List (V×V))):Ic where
 holds:=λmk Z w=>aiK mk Z w l
 nZ:=λmk b=>XC mk b l
 some_:=λmk b h=>by
  cases l with
  |nil=>exact h.elim
  |cons x r =>
   have h:((mk 0).bind λloc=>if loc.2=0 then bg else aY loc.1)=aY b:=h;obtain⟨loc,e1,e2⟩:=dp.1 h;split at e2
   .cases e2
   .rename_i hc;cases e2;exact⟨_,loc.2,e1,hc⟩
 own:=λmk Z w b h hb=>by
  cases l with
  |nil=>exact hb.elim
  |cons x r =>
   obtain⟨b',es,clock,h1,h2,_⟩:=h;have hb:((mk 0).bind λloc=>if loc.2=0 then bg else aY loc.1)=aY b:=hb;rw[h1]at hb;simp at hb;subst hb;exact⟨_,h2,rfl⟩
 keep:=λmk Z Z' w w' h hZ hb=>by
  cases l with
  |nil=>exact h
  |cons x r =>
   obtain⟨b',es,clock,h1,h2,h3,h4,h5,h6,h7⟩:=h
   have Ox:XC mk b' (x::r):=by
    show((mk 0).bind λloc=>if loc.2=0 then bg else aY loc.1)=aY b'
    rw[h1];simp
   obtain⟨g1,g2⟩:=hb b' Ox;exact⟨b',es,clock,h1,g1.trans h2,h3.up hZ,h4,h5,λa y ha e=>h6 a y (g2 a y ha e) e,h7⟩
def aiL:Mb where
 rep:=λmk x=>∃loc,mk 0=aY loc/\x=.map (if loc.2=0 then bg else aY loc.1)
 mono:=λmk mk' x hm ⟨loc,h1,h2⟩=>⟨loc,hm 0 loc h1,h2⟩
 one:=λmk x h=>by obtain⟨loc,_,rfl⟩:=h;split<;>exact⟨rfl,rfl⟩
section
variable{P:bo}{o:Oper}{ρ nO:Env}{k:Nat}{l l':List (V×V)}{v:V}
end
section
variable{P:bo}{ρ:Env}{dst:Option Tmp}{ty t t':bK}{pos:String}{aft:Array Edge}{gd:Option (Nat×Bool)}
end
end Go.EV
namespace Go.EQ
open Go Go.RowKit Go.lG Go.EV
inductive TC where
 |i (k:IntKind)
 |b
 |s
 |y
 |l (t:TC)
 |m (k e:TC)
 |st (n:Nat)
 |a (ti ts:Nat)
 deriving DecidableEq
def SF(ti ts:Nat):Int⊕aj->V
 |.inl n=>.mP ti (.int .i64 n)
 |.inr s=>.mP ts (.str s)
def TC.ty(T:Nat->Type):TC->Type
 |.i _=>Int
 |.b=>Bool
 |.s=>aj
 |.y=>UInt8
 |.l t=>List (t.ty T)
 |.m k e=>List (k.ty T×e.ty T)
 |.st n=>T n
 |.a _ _=>Int⊕aj
def HL(T:Nat->Type):List TC->Type
 |[]=>Unit
 |[c]=>c.ty T
 |c::d::r=>c.ty T×HL T (d::r)
abbrev Dy(T:Nat->Type):=(c:TC)×c.ty T
structure ni where
 T:Nat->Type
 SO:(n:Nat)->T n
 fl:Nat->List TC
 cn:Nat->Nat
 out:(n:Nat)->T n->HL T (fl n)
 inj:(n:Nat)->HL T (fl n)->T n
 enc:(n:Nat)->T n->List V
 ro:Nat->EV.Obj
 go:Nat->(c:TC)->c.ty T->EV.Obj:=λ_ _ _=>.gen gone
 gl:Nat->Option (Nat×Nat×List aj):=λ_=>bg
 ga:Nat->Option (Nat×Dy T×List V):=λ_=>bg
 om:Bool:=bf
section
variable(S:ni)
def zI:TC->Nat
 |.st n=>S.cn n
 |_=>1
def Aa:(c:TC)->c.ty S.T->List V
 |.i k,n=>[.int k n]
 |.b,t=>[.bool t]
 |.s,x=>[.str x]
 |.y,x=>[.int .u8 (UInt8.toNat x)]
 |.l t,l=>[.vs (zI S t) (l.map (Aa t))]
 |.m _ _,_=>[.undef]
 |.st n,x=>S.enc n x
 |.a ti ts,x=>[SF ti ts x]
def oL:(c:TC)->c.ty S.T->V
 |.i k,n=>.int k n
 |.b,t=>.bool t
 |.s,x=>.str x
 |.y,x=>.int .u8 (UInt8.toNat x)
 |.l t,l=>.vs (zI S t) (l.map (Aa S t))
 |.m _ _,_=>.undef
 |.st n,x=>.agg (S.enc n x)
 |.a ti ts,x=>SF ti ts x
def Pn:(c:TC)->c.ty S.T
 |.i _=>(0:Int)
 |.b=>bf
 |.s=>([]:aj)
 |.y=>(0:UInt8)
 |.l _=>[]
 |.m _ _=>[]
 |.st n=>S.SO n
 |.a _ _=>.inl (0:Int)
def I3:(cs:List TC)->HL S.T cs->List V
 |[],_=>[]
 |[c],x=>Aa S c x
 |c::d::r,x=>Aa S c x.1++I3 (d::r) x.2
structure ni.OK:Prop where
 Gl:∀n x,S.enc n x=I3 S (S.fl n) (S.out n x)
 NN:∀n h,S.out n (S.inj n h)=h
 len:∀n x,(S.enc n x).length=S.cn n
 one:∀n x,(S.enc n x).all V.one=bh
 refs:∀n x,wh (S.enc n x)=[]
 VB:S.ro 0=.gen gone
 aaV:∀i σ,(S.ro i).fM σ=S.ro i
 Tl:∀i,(S.ro i).refs=[]
 aaT:∀i k,k_ [(k,S.ro i)]=[(k,S.ro i)]
 aaq:∀i c x σ,(S.go i c x).fM σ=S.go i c x:=by intros;rfl
 SQ:∀i c x,(S.go i c x).refs=[]:=by intros;rfl
 aao:∀i c x k,k_ [(k,S.go i c x)]=[(k,S.go i c x)]:=by intros;rfl
 aam:∀t i d cs,S.ga t=aY (i,d,cs)->∀m Z w k,Holds m Z w k (.box t cs)->Holds m Z w k (S.go i d.1 d.2)/\∀b,gM m (k,S.go i d.1 d.2) b->gM m (k,.box t cs) b:=by intro t i d cs h;cases h
 ggl:∀i c x k,af0 (k,S.go i c x)=bf:=by intros;rfl
 n_:∀i g t l,S.gl i=aY (g,t,l)->∃ob,S.ro i=.n_ g ob (l.map V.str):=by intro i g t l h;cases h
 gom:S.om=bh->∀(kc ec:TC)(x:List (List (kc.ty S.T×ec.ty S.T))),S.go 7 (.l (.m kc ec)) x=.gen (XD (x.map (jC (oL S kc) (oL S ec)))):=by intro h;cases h
end
inductive A(T:Nat->Type) where
 |raw (v:V)
 |lQ (c:TC) (x:c.ty T)
 |ag (cs:List (A T))
 |iN (xs:List (A T))
 |rh (sz k n:Nat)
 |oh (k:Nat)
 |nh (sz k n:Nat)
 |rp (k L i off sz:Nat)
 |vp (c:TC) (x:c.ty T) (off:Nat)
 |fn (f:Nat) (first caps:List (A T))
 |mP (t:Nat) (a:A T)
section
variable{S:ni}
mutual
def A.v:A S.T->V
 |.raw v=>v
 |.lQ c x=>oL S c x
 |.ag cs=>.agg (A.vs cs)
 |.iN xs=>.iN (A.vs xs)
 |.rh sz k n=>.sl sz k n 0 n
 |.oh k=>.gv k aiL
 |.nh sz k n=>.gv k (Ti sz n)
 |.rp k L i off sz=>.ptr k L (i*sz+off)
 |.vp c x off=>.vp (Aa S c x) off
 |.fn f a b=>.fn f (A.vs a) (A.vs b)
 |.mP t a=>.mP t a.v
def A.vs:List (A S.T)->List V
 |[]=>[]
 |a::r=>a.v::A.vs r
end
def z_:V->A S.T
 |.int k n=>.lQ (.i k) n
 |.bool t=>.lQ .b t
 |.str x=>.lQ .s x
 |v=>.raw v
def tL:V->A S.T
 |.agg cs=>.ag (cs.map z_)
 |v=>z_ v
def XE(v:V):(z_ (S:=S) v).v=v:=by cases v<;>simp[z_,A.v,oL]
def FH:∀l:List V,A.vs (l.map (z_ (S:=S)))=l
 |[]=>by simp[A.vs]
 |v::l=>by rw[ij,A.vs,XE,FH l]
def I4(v:V):(tL (S:=S) v).v=v:=by
 cases v<;>first|(rw[tL,A.v,FH];done)|simp[tL,z_,A.v,oL]
def wD:∀l:List (A S.T),A.vs l=l.map A.v
 |[]=>by simp[A.vs]
 |a::l=>by rw[A.vs,wD l,ij]
def uK(l:List (A S.T)):(A.vs l).length=l.length:=by rw[wD,bM]
def Kk(a b:List (A S.T)):A.vs (a++b)=A.vs a++A.vs b:=by simp only[wD,cX]
end
inductive Fz where
 |zero
 |all
 |pre (n:Nat)
def Fz.n(L:Nat):Fz->Nat
 |.zero=>0
 |.all=>L
 |.pre n=>n
structure agO{α:Type}(l:List α) where
 n:Nat
 h:l.length=n
inductive OA(T:Nat->Type) where
 |box (t:Nat) (cs:List (A T))
 |row (e:Nat) (c:TC) (fz:Fz) (l:List (c.ty T)) (w:agO l)
 |map (kc ec:TC) (l:List (kc.ty T×ec.ty T))
 |rw(i:Nat)
 |gn (i:Nat) (c:TC) (x:c.ty T)
abbrev AE(T:Nat->Type):=List (Nat×A T)
abbrev AH(T:Nat->Type):=List (Nat×OA T)
section
variable{S:ni}
def OA.o:OA S.T->EV.Obj
 |.box t cs=>.box t (A.vs cs)
 |.row e c fz l _=>.row e (zI S c) (fz.n l.length) (l.map (Aa S c))
 |.map kc ec l=>.map (jC (oL S kc) (oL S ec) l)
 |.rw i=>S.ro i
 |.gn i c x=>S.go i c x
def eV(E:AE S.T):Env:=E.map λp=>(p.1,p.2.v)
def hV(H:AH S.T):aw:=H.map λp=>(p.1,p.2.o)
def AE.get:AE S.T->Nat->A S.T
 |[],_=>.raw .undef
 |(d,a)::r,t=>bif bm t d then a else AE.get r t
def AH.get:AH S.T->Nat->Option (OA S.T)
 |[],_=>bg
 |(k,o)::r,j=>bif bm j k then aY o else AH.get r j
def AH.set:AH S.T->Nat->OA S.T->AH S.T
 |[],_,_=>[]
 |(k',o')::r,k,o=>bif bm k k' then(k',o)::r else(k',o')::AH.set r k o
def AH.has(k:Nat):AH S.T->Bool
 |[]=>bf
 |(k',_)::r=>bif bm k k' then bh else AH.has k r
def Qd(E:AE S.T)(t:Nat):(eV E).get t=(E.get t).v:=by
 induction E with
 |nil=>simp[eV,Env.get,AE.get,A.v]
 |cons p r ih =>
  obtain⟨d,a⟩:=p;simp only[eV,ij,Env.get,AE.get]at ih ⊢
  cases bm t d with
  |true=>rfl
  |false=>exact ih
def IC(H:AH S.T)(k:Nat):(hV H).get k=(H.get k).map OA.o:=by
 induction H with
 |nil=>rfl
 |cons p r ih =>
  obtain⟨d,a⟩:=p;simp only[hV,ij,aw.get,AH.get]at ih ⊢
  cases bm k d with
  |true=>rfl
  |false=>exact ih
def ztr(H:AH S.T):keys (hV H)=H.map (·.1):=by simp[keys,hV]
def zHw(a b:AH S.T):hV (a++b)=hV a++hV b:=by simp[hV]
def Hh(H:AH S.T)(k:Nat):wj k (hV H)=H.has k:=by
 induction H with
 |nil=>rfl
 |cons p r ih =>
  obtain⟨d,a⟩:=p;simp only[hV,ij,wj,AH.has]at ih ⊢
  cases bm k d with
  |true=>rfl
  |false=>exact ih
def WO(H:AH S.T)(k:Nat)(o:OA S.T):hV (H.set k o)=(hV H).set k o.o:=by
 induction H with
 |nil=>rfl
 |cons p r ih =>
  obtain⟨d,a⟩:=p;simp only[hV,ij,aw.set,AH.set]at ih ⊢
  cases bm k d with
  |true=>rfl
  |false=>simp only[cf,ij,ih]
def SM:V->A S.T
 |.bool b=>.raw (.bool b)
 |v=>tL v
def zHx(v:V):(SM (S:=S) v).v=v:=by
 unfold SM;split
 .simp[A.v]
 .exact I4 _
def iL(E:AE S.T):bI->A S.T
 |.tmp t=>E.get t
 |.const v=>SM (Fq v)
 |.global _=>.raw .undef
 |.func f=>.fn f [] []
def yu(E:AE S.T)(x:bI):aV (eV E) x=(iL E x).v:=by
 cases x with
 |tmp t=>exact Qd E t
 |const v=>exact(zHx _).symm
 |global g=>simp[aV,iL,A.v]
 |func f=>simp[aV,iL,A.v,A.vs]
end
inductive Pg:Type->Type 1 where
 |fail {R:Type}:Pg R
 |ret {R:Type} (o:Option R):Pg R
 |mR {R α:Type} (o:Option α) (k:α->Pg R):Pg R
 |tZ {R:Type} (b:Bool) (x y:Pg R):Pg R
 |jn {R S:Type} (p:Pg S) (k:S->Pg R):Pg R
 |jr {R R0 S:Type} (p:Pg (R0⊕S)) (l:R0->Option R) (k:S->Pg R):Pg R
 |sx {R α:Type} (a b:α) (p:Pg R):Pg R
 |CX {R α:Type} (o:Option α) (l:α->Pg R) (k:Pg R):Pg R
 |lp {R R0 X:Type} (p:X->Pg R0) (f:X->Option R0) (k:Pg R):Pg R
def y9{R0 S R:Type}(l:R0->Option R)(k:S->Option R):R0⊕S->Option R
 |.inl r=>l r
 |.inr s=>k s
def orC{α R:Type}(o:Option α)(l:α->Option R)(k:Option R):Option R:=match o with
 |some a=>l a
 |none=>k
def Pg.run:{R:Type}->Pg R->Option R
 |_,.fail=>bg
 |_,.ret o=>o
 |_,.mR o k=>o.bind λa=>(k a).run
 |_,.tZ b x y=>bif b then x.run else y.run
 |_,.jn p k=>p.run.bind λs=>(k s).run
 |_,.jr p l k=>p.run.bind (y9 l λs=>(k s).run)
 |_,.sx _ _ p=>p.run
 |_,.CX o l k=>orC o (λa=>(l a).run) k.run
 |_,.lp _ _ k=>k.run
def Pg.ob:{R:Type}->Pg R->Prop
 |_,.fail=>True
 |_,.ret _=>True
 |_,.mR _ k=>∀a,(k a).ob
 |_,.tZ _ x y=>x.ob/\y.ob
 |_,.jn p k=>p.ob/\∀s,(k s).ob
 |_,.jr p _ k=>p.ob/\∀s,(k s).ob
 |_,.sx a b p=>a=b/\p.ob
 |_,.CX _ l k=>(∀a,(l a).ob)/\k.ob
 |_,.lp p f k=>(∀x,(p x).run=f x/\(p x).ob)/\k.ob
inductive Tr:Type 1 where
 |nil
 |all {α:Type} (f:α->Tr)
 |two (x y:Tr)
 |note {α:Type} (a:α) (t:Tr)
def Pg.tr(t:Bool):{R:Type}->Pg R->Tr
 |_,.fail=>.nil
 |_,.ret _=>.nil
 |_,.mR _ k=>.all λa=>(k a).tr t
 |_,.tZ _ x y=>.two (x.tr t) (y.tr t)
 |_,.jn p k=>.two (p.tr t) (.all λs=>(k s).tr t)
 |_,.jr p _ k=>.two (p.tr t) (.all λs=>(k s).tr t)
 |_,.sx a b p=>.note (bif t then a else b) (p.tr t)
 |_,.CX _ l k=>.two (.all λa=>(l a).tr t) (k.tr t)
 |_,.lp p f k=>.two (.all λx=>.note (bif t then(p x).run else f x) ((p x).tr t)) (k.tr t)
def vy:{R:Type}->(p:Pg R)->p.tr bh=p.tr bf->p.ob
 |_,.fail,_=>trivial
 |_,.ret _,_=>trivial
 |_,.mR _ k,h=>λa=>vy (k a) (by
   simp only[Pg.tr,Tr.all.injEq,heq_eq_eq,true_and]at h
   exact congrFun h a)
 |_,.tZ _ x y,h=>by
   simp only[Pg.tr,Tr.two.injEq]at h;exact⟨vy x h.1,vy y h.2⟩
 |_,.jn p k,h=>by
   simp only[Pg.tr,Tr.two.injEq,Tr.all.injEq,heq_eq_eq,true_and]at h;exact⟨vy p h.1,λs=>vy (k s) (congrFun h.2 s)⟩
 |_,.jr p _ k,h=>by
   simp only[Pg.tr,Tr.two.injEq,Tr.all.injEq,heq_eq_eq,true_and]at h;exact⟨vy p h.1,λs=>vy (k s) (congrFun h.2 s)⟩
 |_,.sx a b p,h=>by
   simp only[Pg.tr,Tr.note.injEq,heq_eq_eq,true_and,ct,cf]at h;exact⟨h.1,vy p h.2⟩
 |_,.CX _ l k,h=>by
   simp only[Pg.tr,Tr.two.injEq,Tr.all.injEq,heq_eq_eq,true_and]at h;exact⟨λa=>vy (l a) (congrFun h.1 a),vy k h.2⟩
 |_,.lp p f k,h=>by simp only[Pg.tr,Tr.two.injEq,Tr.all.injEq,heq_eq_eq,true_and]at h;refine⟨λx=>?_,vy k h.2⟩;have h1:=congrFun h.1 x;simp only[Tr.note.injEq,heq_eq_eq,true_and,ct,cf]at h1;exact⟨h1.1,vy (p x) h1.2⟩
def Pg.Is{R:Type}(p:Pg R)(r:R):Prop:=p.run=aY r/\p.ob
section
variable{R:Type}{r:R}
def Is.ret{o:Option R}(h:(Pg.ret o).Is r):o=aY r:=h.1
def Is.fail(h:(Pg.fail:Pg R).Is r):False:=by cases h.1
def Is.mR{α:Type}{o:Option α}{k:α->Pg R}(h:(Pg.mR o k).Is r):∃a,o=aY a/\(k a).Is r:=by obtain⟨h1,h2⟩:=h;obtain⟨a,e,h3⟩:=dp.1 h1;exact⟨a,e,h3,h2 a⟩
def Is.tZ{b:Bool}{x y:Pg R}(h:(Pg.tZ b x y).Is r):(b=bh->x.Is r)/\(b=bf->y.Is r):=by obtain⟨h1,h2,h3⟩:=h;exact⟨λe=>by subst e;exact⟨h1,h2⟩,λe=>by subst e;exact⟨h1,h3⟩⟩
def Is.jn{S:Type}{p:Pg S}{k:S->Pg R}(h:(Pg.jn p k).Is r):∃s,p.Is s/\(k s).Is r:=by obtain⟨h1,h2,h3⟩:=h;obtain⟨s,e,h4⟩:=dp.1 h1;exact⟨s,⟨e,h2⟩,h4,h3 s⟩
def Is.jr{R0 S:Type}{p:Pg (R0⊕S)}{l:R0->Option R}{k:S->Pg R}(h:(Pg.jr p l k).Is r):(∃q,p.Is (.inl q)/\l q=aY r)∨∃s,p.Is (.inr s)/\(k s).Is r:=by
 obtain⟨h1,h2,h3⟩:=h;obtain⟨z,e,h4⟩:=dp.1 h1
 cases z with
 |inl q=>exact .inl ⟨q,⟨e,h2⟩,h4⟩
 |inr s=>exact .inr ⟨s,⟨e,h2⟩,h4,h3 s⟩
def Is.CX{α:Type}{o:Option α}{l:α->Pg R}{k:Pg R}(h:(Pg.CX o l k).Is r):(∃a,o=aY a/\(l a).Is r)∨(o=bg/\k.Is r):=by
 obtain⟨h1,h2,h3⟩:=h
 cases o with
 |some a=>exact .inl ⟨a,rfl,h1,h2 a⟩
 |none=>exact .inr ⟨rfl,h1,h3⟩
def Is.lp{R0 X:Type}{p:X->Pg R0}{f:X->Option R0}{k:Pg R}(h:(Pg.lp p f k).Is r):(∀x z,f x=aY z->(p x).Is z)/\k.Is r:=⟨λx z e=>⟨(h.2.1 x).1.trans e,(h.2.1 x).2⟩,h.1,h.2.2⟩
def Is.sx{α:Type}{a b:α}{p:Pg R}(h:(Pg.sx a b p).Is r):a=b/\p.Is r:=⟨h.2.1,h.1,h.2.2⟩
end
inductive Tp where
 |mx|gg|nd|mD|nM|no|L9
 |d (c:TC) (j:Nat)
 |ptr (k off:Nat)
 |mp (k:Nat)
 |row (sz k:Nat)
 |om (k:Nat)
 |tU (sz k:Nat)
 |rp (sz k j off:Nat)
 |ci (k:IntKind) (n:Int)
 |ag (l:List Tp)
 |iN (l:List Tp)
 |fn (f:Nat) (a b:List Tp)
 |mP (t:Nat) (a:Tp)
inductive TO where
 |box (t:Nat) (cs:List Tp)
 |row (e:Nat) (c:TC) (j:Nat) (fz:Bool)
 |map (kc ec:TC) (j:Nat)
 |rw(i:Nat)
 |gn (i:Nat) (c:TC) (j:Nat)
structure Tm where
 sl:List (Nat×Tp)
 hp:List (Nat×TO)
 cs:List TC
 vs:List TC
section
variable{S:ni}
def Wd(ds:List (Dy S.T))(j:Nat)(c:TC):c.ty S.T:=
 match ds[j]? with
 |some ⟨c',x⟩=>if h:c'=c then h▸x else Pn S c
 |none=>Pn S c
def wZ:(cs:List TC)->HL S.T cs->List (Dy S.T)
 |[],_=>[]
 |[c],x=>[⟨c,x⟩]
 |c::d::r,x=>⟨c,x.1⟩::wZ (d::r) x.2
def znp:∀(cs:List TC)(x:HL S.T cs),(wZ cs x).length=cs.length
 |[],_=>rfl
 |[c],x=>rfl
 |c::d::r,x=>by simp only[wZ,lc,znp (d::r) x.2]
def Eu(ds:List (Dy S.T)):List (Nat×TO)->Nat->Nat
 |[],_=>0
 |(k',.row _ c j _)::r,k=>bif bm k k' then(Wd ds j (.l c):List (c.ty S.T)).length else Eu ds r k
 |_::r,k=>Eu ds r k
mutual
def Tp.put(hp:List (Nat×TO))(ds:List (Dy S.T)):Tp->A S.T
 |.mx=>.raw .mx
 |.gg=>.raw .gg
 |.nd=>.raw .nd
 |.mD=>.raw .mD
 |.nM=>.raw .nM
 |.no=>.raw .no
 |.L9=>.raw .undef
 |.d c j=>.lQ c (Wd ds j c)
 |.ptr k off=>.raw (.ptr k 0 off)
 |.mp k=>.raw (.mp k)
 |.row sz k=>.rh sz k (Eu ds hp k)
 |.om k=>.oh k
 |.tU sz k=>.nh sz k (Eu ds hp k)
 |.rp sz k j off=>.rp k (Eu ds hp k) (bj (Wd ds j (.i .i64))) off sz
 |.ci k n=>.lQ (.i k) n
 |.ag l=>.ag (Tp.mJ hp ds l)
 |.iN l=>.iN (Tp.mJ hp ds l)
 |.fn f a b=>.fn f (Tp.mJ hp ds a) (Tp.mJ hp ds b)
 |.mP t a=>.mP t (a.put hp ds)
def Tp.mJ(hp:List (Nat×TO))(ds:List (Dy S.T)):List Tp->List (A S.T)
 |[]=>[]
 |t::r=>t.put hp ds::Tp.mJ hp ds r
end
def TO.put(hp:List (Nat×TO))(ds:List (Dy S.T)):TO->OA S.T
 |.box t cs=>.box t (Tp.mJ hp ds cs)
 |.row e c j fz=>.row e c (bif fz then .all else .zero) (Wd ds j (.l c)) ⟨_,rfl⟩
 |.map kc ec j=>.map kc ec (Wd ds j (.m kc ec))
 |.rw i=>.rw i
 |.gn i c j=>.gn i c (Wd ds j c)
def We(hp:List (Nat×TO))(ds:List (Dy S.T)):AH S.T:=hp.map λp=>(p.1,p.2.put hp ds)
def W7(hp:List (Nat×TO))(sl:List (Nat×Tp))(ds:List (Dy S.T)):AE S.T:=sl.map λp=>(p.1,p.2.put hp ds)
structure Rx(α:Type) where
 x:α
 fz:List Nat
 eq:List (Nat×Nat)
def aiH:(c:TC)->Option (Rx (c.ty S.T))
 |.l _=>aY ⟨([]:List _),[],[]⟩
 |_=>bg
def sj(H:AH S.T)(sz k n:Nat):(c:TC)->Option (Rx (c.ty S.T))
 |.l t=>match H.get k with
  |some (.row _ t' _ l w)=>if h:t'=t then bif bm sz (zI S t)then aY ⟨(h▸l:List (t.ty S.T)),[k],[(n,w.n)]⟩else bg else bg
  |_=>bg
 |_=>bg
def agY(b:Bool):(c:TC)->Option (Rx (c.ty S.T))
 |.b=>aY ⟨b,[],[]⟩
 |_=>bg
def Te(t:Nat)(a:A S.T):(c:TC)->Option (Rx (c.ty S.T))
 |.a ti ts=>match a with
  |.lQ .s x=>bif bm t ts then aY ⟨.inr x,[],[]⟩else bg
  |.lQ (.i .i64) n=>bif bm t ti then aY ⟨.inl n,[],[]⟩else bg
  |_=>bg
 |_=>bg
def BA(H:AH S.T)(c:TC):A S.T->Option (Rx (c.ty S.T))
 |.lQ c' x=>if h:c'=c then aY ⟨h▸x,[],[]⟩else bg
 |.raw .gg=>aiH c
 |.raw (.bool b)=>agY b c
 |.rh sz k n=>sj H sz k n c
 |.nh sz k n=>sj H sz k n c
 |.mP t a=>Te t a c
 |_=>bg
mutual
/-- One datum at the head of these cells. -/
def Ve(H:AH S.T):Nat->(c:TC)->List (A S.T)->Option (Rx (c.ty S.T)×List (A S.T))
 |0,_,_=>bg
 |f+1,.st m,cs=>match De H f (S.fl m) cs with
  |some (⟨h,fz,eq⟩,r)=>aY (⟨S.inj m h,fz,eq⟩,r)
  |none=>bg
 |_+1,c,a::r=>match BA H c a with
  |some rx=>aY (rx,r)
  |none=>bg
 |_+1,_,[]=>bg
def De(H:AH S.T):Nat->(cs:List TC)->List (A S.T)->Option (Rx (HL S.T cs)×List (A S.T))
 |0,_,_=>bg
 |_+1,[],asZ=>aY (⟨(),[],[]⟩,asZ)
 |f+1,[c],asZ=>Ve H f c asZ
 |f+1,c::d::r,asZ=>match Ve H f c asZ with
  |some (⟨x,fz,eq⟩,Dx)=>match De H f (d::r) Dx with
   |some (⟨y,rC,DG⟩,SH)=>aY (⟨(x,y),fz++rC,eq++DG⟩,SH)
   |none=>bg
  |none=>bg
end
def RY(H:AH S.T)(cs:List (A S.T)):(c:TC)->Option (Rx (c.ty S.T))
 |.st m=>match Ve H 64 (.st m) cs with
  |some (rx,[])=>aY rx
  |_=>bg
 |_=>bg
def YX(H:AH S.T)(c:TC)(a:A S.T):Option (Rx (c.ty S.T)):=match BA H c a with
 |some rx=>aY rx
 |none=>match a with
  |.ag cs=>RY H cs c
  |_=>bg
structure Rd(T:Nat->Type) where
 ps:List (Nat×Dy T):=[]
 ns:List (Nat×Nat):=[]
 fz:List Nat:=[]
 eq:List (Nat×Nat):=[]
def Rd.app{T:Nat->Type}(a b:Rd T):Rd T:=⟨a.ps++b.ps,a.ns++b.ns,a.fz++b.fz,a.eq++b.eq⟩
def BM:List (Nat×TO)->Nat->Option (TC×Nat)
 |[],_=>bg
 |(k',.row _ c j _)::r,k=>bif bm k k' then aY (c,j)else BM r k
 |_::r,k=>BM r k
def Td(a b:Int):Bool:=decide (a=b)
def zDb{a b:Int}(h:Td a b=bh):a=b:=aX h
def agZ(b:Bool):(c:TC)->Option (c.ty S.T)
 |.b=>aY b
 |_=>bg
def SN(c:TC):A S.T->Option (c.ty S.T)
 |.lQ c' x=>if h:c'=c then aY (h▸x)else bg
 |.raw (.bool b)=>agZ b c
 |_=>bg
mutual
/-- Reads a value; ex: asZ it is, no row seen asZ data. -/
def Tp.read(hp:List (Nat×TO))(ex:Bool)(H:AH S.T):Tp->A S.T->Option (Rd S.T)
 |.d c j,a=>bif ex then(match SN c a with
   |some x=>aY ⟨[(j,⟨c,x⟩)],[],[],[]⟩
   |none=>bg)
  else match YX H c a with
   |some rx=>aY ⟨[(j,⟨c,rx.x⟩)],[],rx.fz,rx.eq⟩
   |none=>bg
 |.mx,.raw .mx=>aY {}
 |.gg,.raw .gg=>aY {}
 |.nd,.raw .nd=>aY {}
 |.mD,.raw .mD=>aY {}
 |.nM,.raw .nM=>aY {}
 |.no,.raw .no=>aY {}
 |.ptr k off,.raw (.ptr k' 0 tC)=>bif bm off tC then aY { ns:=[(k,k')] }else bg
 |.mp k,.raw (.mp k')=>aY { ns:=[(k,k')] }
 |.row sz k,.rh mo k' n=>match H.get k',BM hp k with
  |some (.row _ _ _ _ w),aY _=>bif bm sz mo then aY { ns:=[(k,k')],eq:=[(n,w.n)] }else bg
  |_,_=>bg
 |.tU sz k,.nh mo k' n=>match H.get k',BM hp k with
  |some (.row _ _ _ _ w),aY _=>bif bm sz mo then aY { ns:=[(k,k')],eq:=[(n,w.n)] }else bg
  |_,_=>bg
 |.rp sz k j off,.rp k' L i tC mo=>match H.get k',BM hp k with
  |some (.row _ _ _ _ w),aY _=>bif bm sz mo&&bm off tC then aY { ps:=[(j,⟨.i .i64,Int.ofNat i⟩)],ns:=[(k,k')],eq:=[(L,w.n)] }else bg
  |_,_=>bg
 |.om k,.oh k'=>aY { ns:=[(k,k')] }
 |.ci k n,.lQ (.i k') m=>bif decide (k'=k)&&Td m n then aY {}else bg
 |.ag l,.ag l'=>Tp.reads hp ex H l l'
 |.iN l,.iN l'=>Tp.reads hp bh H l l'
 |.fn f a b,.fn f' a' b'=>bif bm f f' then
   match Tp.reads hp bh H a a' with
   |some r=>match Tp.reads hp bh H b b' with
    |some r'=>aY (r.app r')
    |none=>bg
   |none=>bg
  else bg
 |.mP t a,.mP t' a'=>bif bm t t' then a.read hp bh H a' else bg
 |_,_=>bg
def Tp.reads(hp:List (Nat×TO))(ex:Bool)(H:AH S.T):List Tp->List (A S.T)->Option (Rd S.T)
 |[],[]=>aY {}
 |t::r,a::r'=>match t.read hp ex H a with
  |some x=>match Tp.reads hp ex H r r' with
   |some y=>aY (x.app y)
   |none=>bg
  |none=>bg
 |_,_=>bg
end
def Nb:List (Nat×Nat)->Nat->Option Nat
 |[],_=>bg
 |(k,k')::r,j=>bif bm j k then aY k' else Nb r j
def N9:Bool->Fz->Bool
 |true,.all=>bh
 |false,.zero=>bh
 |_,_=>bf
def TO.read(hp:List (Nat×TO))(H:AH S.T):TO->OA S.T->Option (Rd S.T)
 |.box t cs,.box t' cs'=>bif bm t t' then Tp.reads hp bh H cs cs' else bg
 |.row e c j fz,.row e' c' rC l _=>bif bm e e'&&N9 fz rC then
   if h:c'=c then aY { ps:=[(j,⟨.l c,(h▸l:List (c.ty S.T))⟩)] }else bg
  else bg
 |.rw i,.rw j=>bif bm i j then aY {}else bg
 |.gn i c j,.gn i' c' x=>bif bm i i' then(if h:c'=c then aY { ps:=[(j,⟨c,(h▸x:c.ty S.T)⟩)] }else bg)else bg
 |.map kc ec j,.map O9 DF l=>if h:O9=kc/\DF=ec then aY { ps:=[(j,⟨.m kc ec,(h.1▸h.2▸l:List (kc.ty S.T×ec.ty S.T))⟩)] }else bg
 |_,_=>bg
def Ci(hp:List (Nat×TO))(H:AH S.T):List (Nat×Nat)->List (Nat×TO)->Option (Rd S.T)
 |_,[]=>aY {}
 |ns,(k,o)::r=>match Nb ns k with
  |some k'=>match H.get k' with
   |some o'=>match o.read hp H o' with
    |some x=>match Ci hp H (ns++x.ns) r with
     |some y=>aY (x.app y)
     |none=>bg
    |none=>bg
   |none=>bg
  |none=>bg
def pick(j:Nat)(c:TC):List (Nat×Dy S.T)->Option (c.ty S.T)
 |[]=>bg
 |(j',⟨c',x⟩)::r=>bif bm j j' then(if h:c'=c then aY (h▸x)else bg)else pick j c r
def Dg(ps:List (Nat×Dy S.T)):(j:Nat)->(cs:List TC)->Option (HL S.T cs)
 |_,[]=>aY ()
 |j,[c]=>pick j c ps
 |j,c::d::r=>match pick j c ps with
  |some x=>match Dg ps (j+1) (d::r)with
   |some y=>aY (x,y)
   |none=>bg
  |none=>bg
end
section
variable{S:ni}
def MX(n off:Nat):Option Nat->Bool
 |some k=>bm k n&&bm off 0
 |none=>bf
mutual
/-- What lies at cell off of a datum: one cell (none), or so many. -/
def EU:Nat->(c:TC)->c.ty S.T->Nat->Option Nat->Option (A S.T)
 |0,_,_,_,_=>bg
 |f+1,.st n,x,off,k=>bif MX (S.cn n) off k then aY (.lQ (.st n) x)else EW f (S.fl n) (S.out n x) off k
 |_+1,.m _ _,_,_,_=>bg
 |_+1,c,x,off,k=>bif bm off 0&&k.isNone then aY (.lQ c x)else bg
def EW:Nat->(cs:List TC)->HL S.T cs->Nat->Option Nat->Option (A S.T)
 |0,_,_,_,_=>bg
 |_+1,[],_,_,_=>bg
 |f+1,[c],x,off,k=>bif cm (off+1) (zI S c)then EU f c x off k else bg
 |f+1,c::d::r,x,off,k=>bif cm (off+1) (zI S c)then EU f c x.1 off k else EW f (d::r) x.2 (off-zI S c) k
end
def Gv(cs:List (A S.T))(off:Nat):Option Nat->Option (A S.T)
 |none=>match cs[off]? with|some a=>bif a.v.one then aY a else bg|none=>bg
 |some k=>bif cm (off+k) cs.length then aY (.ag ((cs.drop off).take k))else bg
mutual
/-- A datum asZ cells. -/
def F7:Nat->(c:TC)->c.ty S.T->Option (List (A S.T))
 |0,_,_=>bg
 |f+1,.st n,x=>I5 f (S.fl n) (S.out n x)
 |_+1,.m _ _,_=>bg
 |_+1,c,x=>aY [.lQ c x]
def I5:Nat->(cs:List TC)->HL S.T cs->Option (List (A S.T))
 |0,_,_=>bg
 |_+1,[],_=>aY []
 |f+1,[c],x=>F7 f c x
 |f+1,c::d::r,x=>match F7 f c x.1 with
  |some u=>match I5 f (d::r) x.2 with
   |some v=>aY (u++v)
   |none=>bg
  |none=>bg
end
def A.cells:A S.T->Option (List (A S.T))
 |.lQ c x=>F7 64 c x
 |.ag cs=>aY cs
 |.raw .undef=>bg
 |.raw .no=>bg
 |.raw (.agg _)=>bg
 |a=>aY [a]
def I6(places:List (Nat×Nat))(cells:List (A S.T)):List (Nat×A S.T)->Option (List (A S.T))
 |[]=>aY cells
 |(i,a)::rest=>match places[i]? with
  |none=>bg
  |some (off,size)=>match a.cells with
   |none=>bg
   |some u=>bif bm u.length size&&cm (off+size) cells.length then I6 places (cells.take off++u++cells.drop (off+size)) rest else bg
def zDc(hS:S.OK):∀(c:TC)(x:c.ty S.T),(∀k e,c≠.m k e)->(Aa S c x).all V.one=bh
 |.i _,_,_=>rfl
 |.b,_,_=>rfl
 |.s,_,_=>rfl
 |.y,_,_=>rfl
 |.a _ _,x,_=>by cases x<;>rfl
 |.l _,_,_=>rfl
 |.m k e,_,h=>aQ rfl (h k e)
 |.st n,x,_=>hS.one n x
def zyw:∀(c:TC)(x:c.ty S.T),(∀n,c≠.st n)->(∀k e,c≠.m k e)->Aa S c x=[oL S c x]/\(oL S c x).one=bh/\zI S c=1
 |.i _,_,_,_=>⟨rfl,rfl,rfl⟩
 |.b,_,_,_=>⟨rfl,rfl,rfl⟩
 |.s,_,_,_=>⟨rfl,rfl,rfl⟩
 |.y,_,_,_=>⟨rfl,rfl,rfl⟩
 |.a _ _,x,_,_=>by cases x<;>exact⟨rfl,rfl,rfl⟩
 |.l _,_,_,_=>⟨rfl,rfl,rfl⟩
 |.m k e,_,_,h=>aQ rfl (h k e)
 |.st n,_,h,_=>aQ rfl (h n)
mutual
def Yc(hS:S.OK):∀(f:Nat)(c:TC)(x:c.ty S.T)(cs:List (A S.T)),F7 f c x=aY cs->A.vs cs=Aa S c x
 |0,_,_,_,h=>by cases h
 |f+1,.st n,x,cs,h=>by
  rw[F7]at h;exact(znr hS f _ _ _ h).trans (hS.Gl n x).symm
 |_+1,.m _ _,_,_,h=>by cases h
 |_+1,.i _,x,cs,h=>by cases h;rfl
 |_+1,.b,x,cs,h=>by cases h;rfl
 |_+1,.s,x,cs,h=>by cases h;rfl
 |_+1,.y,x,cs,h=>by cases h;rfl
 |_+1,.a _ _,x,cs,h=>by cases h;rfl
 |_+1,.l _,x,cs,h=>by cases h;rfl
def znr(hS:S.OK):∀(f:Nat)(l:List TC)(x:HL S.T l)(cs:List (A S.T)),I5 f l x=aY cs->A.vs cs=I3 S l x
 |0,_,_,_,h=>by cases h
 |_+1,[],_,cs,h=>by cases h;rfl
 |f+1,[c],x,cs,h=>by
  rw[I5]at h;exact Yc hS f c x cs h
 |f+1,c::d::r,x,cs,h=>by
  rw[I5]at h;split at h
  .rename_i u hu;split at h
   .rename_i v hv;cases h;rw[Kk,Yc hS f c x.1 u hu,znr hS f (d::r) x.2 v hv];rfl
   .cases h
  .cases h
end
def A.NO(hS:S.OK){a:A S.T}{cs:List (A S.T)}(h:a.cells=aY cs):A.vs cs=a.v.cells/\a.v.plain=bh:=by
 cases a with
 |raw v=>cases v<;>first|(cases h;done)|(cases h;exact⟨rfl,rfl⟩)
 |lQ c x =>
  have h1:=Yc hS _ c x cs h
  cases c<;>first|(cases h;done)|exact⟨h1,rfl⟩|(cases x<;>exact⟨h1,rfl⟩)
 |ag l=>cases h;exact⟨rfl,rfl⟩
 |iN l=>cases h;exact⟨rfl,rfl⟩
 |rh=>cases h;exact⟨rfl,rfl⟩
 |oh=>cases h;exact⟨rfl,rfl⟩
 |nh=>cases h;exact⟨rfl,rfl⟩
 |rp=>cases h;exact⟨rfl,rfl⟩
 |vp=>cases h;exact⟨rfl,rfl⟩
 |fn=>cases h;exact⟨rfl,rfl⟩
 |mP=>cases h;exact⟨rfl,rfl⟩
def Part(cs:List V)(off:Nat)(k:Option Nat)(v:V):Prop:=match k with
 |none=>cs[off]?=aY v/\v.one=bh
 |some k=>off+k<=cs.length/\v=.agg ((cs.drop off).take k)
def Part.left{cs ds:List V}{off:Nat}{k:Option Nat}{v:V}(h:Part cs off k v):Part (cs++ds) off k v:=by
 cases k with
 |none =>
  have:=(bq.1 h.1).1;exact⟨by rw[List.getElem?_append_left this];exact h.1,h.2⟩
 |some k =>
  have h1:off+k<=cs.length:=h.1;refine⟨by rw[la];omega,?_⟩;rw[h.2,dV ab,List.take_append_of_le_length (by rw[cF];omega)]
def Part.right{cs ds:List V}{off:Nat}{k:Option Nat}{v:V}(ho:cs.length<=off)(h:Part ds (off-cs.length) k v):Part (cs++ds) off k v:=by
 cases k with
 |none=>exact⟨by rw[List.getElem?_append_right ho];exact h.1,h.2⟩
 |some k =>
  have h1:off-cs.length+k<=ds.length:=h.1;refine⟨by rw[la];omega,?_⟩;rw[h.2,List.drop_append,List.drop_eq_nil_of_le ho,cw]
def Part.at{P:bo}{t off:Nat}{cs:List V}{k:Option Nat}{v:V}(hk:oj P t=aY k)(h:Part cs off k v):nr P t cs off=aY v:=by
 unfold nr;rw[hk]
 cases k with
 |none=>simp only[h.1,h.2,if_true]
 |some k=>simp only[show cm (off+k) cs.length=bh from dP h.1,if_true,h.2]
def ju(hS:S.OK):∀(c:TC)(x:c.ty S.T),(Aa S c x).length=zI S c
 |.i _,_=>rfl
 |.b,_=>rfl
 |.s,_=>rfl
 |.y,_=>rfl
 |.a _ _,_=>rfl
 |.l _,_=>rfl
 |.m _ _,_=>rfl
 |.st n,x=>hS.len n x
def JL(c:TC)(x:c.ty S.T)(h1:∀n,c≠.st n)(h2:∀k e,c≠.m k e){off:Nat}{k:Option Nat}{a:A S.T}(h:(bif bm off 0&&k.isNone then aY (A.lQ c x)else bg)=aY a):Part (Aa S c x) off k a.v:=by
 cases hb:bm off 0&&k.isNone with
 |false=>rw[hb]at h;cases h
 |true =>
  rw[hb]at h;cases h;simp only[bn]at hb;have h0:=eb hb.1;subst h0;obtain⟨e1,e2,_⟩:=zyw c x h1 h2
  cases k with
  |none=>exact⟨by rw[e1];rfl,e2⟩
  |some k=>simp at hb
mutual
def Qe(hS:S.OK):∀(f:Nat)(c:TC)(x:c.ty S.T)(off:Nat)(k:Option Nat)(a:A S.T),EU f c x off k=aY a->Part (Aa S c x) off k a.v
 |0,_,_,_,_,_,h=>by cases h
 |f+1,.st n,x,off,k,a,h=>by
  change (bif MX (S.cn n) off k then aY (A.lQ (.st n) x)else EW f (S.fl n) (S.out n x) off k)=aY a at h
  cases hb:MX (S.cn n) off k with
  |true =>
   rw[hb]at h;cases h
   cases k with
   |none=>cases hb
   |some k =>
    simp only[MX,bn]at hb;have h0:=eb hb.1;have h1:=eb hb.2;subst h0;subst h1;have hl:=hS.len n x;refine⟨?_,?_⟩
    .show 0+S.cn n<=(S.enc n x).length
     omega
    .show V.agg (S.enc n x)=.agg ((S.enc n x).drop 0 |>.take (S.cn n))
     rw[dW,<- hl,List.take_length]
  |false =>
   rw[hb]at h;have:=zns hS f _ _ _ _ _ h
   show Part (S.enc n x) off k a.v
   rw[hS.Gl n x];exact this
 |_+1,.m _ _,_,_,_,_,h=>by cases h
 |_+1,.i _,x,off,k,a,h=>JL _ x (λ_ e=>by cases e) (λ_ _ e=>by cases e) h
 |_+1,.b,x,off,k,a,h=>JL _ x (λ_ e=>by cases e) (λ_ _ e=>by cases e) h
 |_+1,.y,x,off,k,a,h=>JL _ x (λ_ e=>by cases e) (λ_ _ e=>by cases e) h
 |_+1,.a _ _,x,off,k,a,h=>JL _ x (λ_ e=>by cases e) (λ_ _ e=>by cases e) h
 |_+1,.s,x,off,k,a,h=>JL _ x (λ_ e=>by cases e) (λ_ _ e=>by cases e) h
 |_+1,.l _,x,off,k,a,h=>JL _ x (λ_ e=>by cases e) (λ_ _ e=>by cases e) h
def zns(hS:S.OK):∀(f:Nat)(l:List TC)(x:HL S.T l)(off:Nat)(k:Option Nat)(a:A S.T),EW f l x off k=aY a->Part (I3 S l x) off k a.v
 |0,_,_,_,_,_,h=>by cases h
 |_+1,[],_,_,_,_,h=>by cases h
 |f+1,[c],x,off,k,a,h=>by
  rw[EW]at h
  cases hb:cm (off+1) (zI S c)with
  |true=>rw[hb]at h;exact Qe hS f c x off k a h
  |false=>rw[hb]at h;cases h
 |f+1,c::d::r,x,off,k,a,h=>by
  rw[EW]at h
  cases hb:cm (off+1) (zI S c)with
  |true=>rw[hb]at h;exact(Qe hS f c x.1 off k a h).left
  |false =>
   rw[hb]at h
   have ib:zI S c<=off:=by
    have:¬off+1<=zI S c:=λh'=>by rw[dP h']at hb;cases hb
    omega
   refine Part.right (by rw[ju hS];exact ib) ?_;rw[ju hS];exact zns hS f (d::r) x.2 _ k a h
end
def znt{cs:List (A S.T)}{off:Nat}{k:Option Nat}{a:A S.T}(h:Gv cs off k=aY a):Part (A.vs cs) off k a.v:=by
 cases k with
 |none =>
  simp only[Gv]at h;split at h
  .rename_i b hb
   cases ho:b.v.one with
   |true =>
    rw[ho]at h;cases h;exact⟨by rw[wD,cz,hb];rfl,ho⟩
   |false=>rw[ho]at h;cases h
  .cases h
 |some k =>
  simp only[Gv]at h
  cases hb:cm (off+k) cs.length with
  |true =>
   rw[hb]at h;cases h;refine⟨by rw[uK];exact mi hb,?_⟩;simp only[A.v,wD,ef,eA]
  |false=>rw[hb]at h;cases h
def Rm(hS:S.OK)(places:List (Nat×Nat)):∀(parts:List (Nat×A S.T))(cells out:List (A S.T)),I6 places cells parts=aY out->YL places (A.vs cells) (parts.map λp=>(p.1,p.2.v))=aY (A.vs out)
 |[],cells,out,h=>by cases h;rfl
 |(i,a)::rest,cells,out,h=>by
  simp only[I6]at h;simp only[ij,YL];split at h
  .cases h
  .rename_i off size hp;rw[hp];split at h
   .cases h
   .rename_i u hu;obtain⟨e1,e2⟩:=A.NO hS hu
    cases hb:bm u.length size&&cm (off+size) cells.length with
    |false=>rw[hb]at h;cases h
    |true =>
     rw[hb]at h;have ih:=Rm hS places rest _ _ h;rw[Kk,Kk,wD (dF off cells),wD (dN (off+size) cells),ef,eA,<- wD,e1]at ih;simp only[e2,<- e1,uK,hb,Bool.and_self,if_true];rw[e1];exact ih
end
section
variable{S:ni}
def WQ(P:bo)(s f:Nat):Option (Nat×Nat):=match P.underlying s with
 |some (.struct fs)=>match fs[f]? with
  |some sd=>aY (sd.type,sd.offset)
  |none=>bg
 |_=>bg
def RZ(P:bo)(t:Nat)(parts:List (Nat×A S.T)):Option (List (A S.T)):=
 match P.info? t,P.underlying t with
 |some it,aY (.struct fields) =>
  match it.zero,fields.toList.mapM (λf=>(P.info? f.type).map λi=>(f.offset,i.size))with
  |some z,aY places=>I6 places ((z.cells.toList.map s3).map z_) parts
  |_,_=>bg
 |some it,aY (.array n e) =>
  match it.zero,P.info? e with
  |some z,aY ie=>I6 ((dn n).map λi=>(i*ie.size,ie.size)) ((z.cells.toList.map s3).map z_) parts
  |_,_=>bg
 |_,_=>bg
def zyx(hS:S.OK){P:bo}{t:Nat}{parts:List (Nat×A S.T)}{cs:List (A S.T)}(h:RZ P t parts=aY cs):MS P t (parts.map λp=>(p.1,p.2.v))=aY (A.vs cs):=by
 unfold RZ at h;unfold MS;split at h
 .rename_i it fields e1 e2;rw[e1,e2];simp only;split at h
  .rename_i z places e3 e4;rw[e3,e4];have:=Rm hS _ _ _ _ h;rw[FH]at this;exact this
  .cases h
 .rename_i it n e e1 e2;rw[e1,e2];simp only;split at h
  .rename_i z ie e3 e4;rw[e3,e4];have:=Rm hS _ _ _ _ h;rw[FH]at this;exact this
  .cases h
 .cases h
def R3(P:bo)(s f:Nat)(a:A S.T):Option (A S.T):=match WQ P s f with
 |some (t,o)=>match oj P t with
  |some k=>match a with
   |.lQ (.st n) x=>EU 64 (.st n) x o k
   |.ag cs=>Gv cs o k
   |_=>bg
  |none=>bg
 |none=>bg
def zyy(hS:S.OK){P:bo}{s f:Nat}{a b:A S.T}(h:R3 P s f a=aY b):∃cs,a.v=.agg cs/\IE P s f cs=aY b.v:=by
 unfold R3 at h;split at h
 .rename_i t o e1
  have e2:∀cs,IE P s f cs=nr P t cs o:=λcs=>by
   unfold WQ at e1;unfold IE;split at e1
   .split at e1
    .rename_i fs e3 _ sd e4;simp only[e3,e4];cases e1;rfl
    .cases e1
   .cases e1
  split at h
  .rename_i k hk;split at h
   .exact⟨_,rfl,by rw[e2];exact(Qe hS _ _ _ _ _ _ h).at hk⟩
   .exact⟨_,rfl,by rw[e2];exact(znt h).at hk⟩
   .cases h
  .cases h
 .cases h
def zg7:A S.T->Option (A S.T)
 |.raw (.ptr k L off)=>aY (.raw (.ptr k L off))
 |.raw (.fn f a b)=>aY (.raw (.fn f a b))
 |.vp c x off=>aY (.vp c x off)
 |.rp k L i off sz=>aY (.rp k L i off sz)
 |.fn f a b=>aY (.fn f a b)
 |_=>bg
def XZ(P:bo)(s f:Nat)(a:A S.T):Option (A S.T):=match W5 P s f with
 |some o=>match a with
  |.raw (.ptr k L off)=>aY (.raw (.ptr k L (off+o)))
  |.vp c x off=>aY (.vp c x (off+o))
  |.rp k L i off sz=>aY (.rp k L i (off+o) sz)
  |_=>bg
 |none=>bg
def XF(P:bo)(t:Nat):A S.T->Option (A S.T)
 |.vp c x off=>match oj P t with
  |some k=>EU 64 c x off k
  |none=>bg
 |_=>bg
def aaO(P:bo)(t:Nat):A S.T->Option (A S.T)
 |.lQ (.l c) l=>bif jE P t then aY (.lQ (.i .i64) ((ba (α:=c.ty S.T) l:Nat):Int))else bg
 |.lQ .s l=>match P.underlying t with|some .string=>aY (.lQ (.i .i64) ((ba (α:=UInt8) l:Nat):Int))|_=>bg
 |.rh _ _ n=>bif jE P t then aY (.lQ (.i .i64) ((n:Nat):Int))else bg
 |_=>bg
def Mf:A S.T->Bool
 |.raw .mx=>bh
 |.raw .gg=>bh
 |.raw .nd=>bh
 |.raw .mD=>bh
 |.raw .nM=>bh
 |_=>bf
def Pc(a b:A S.T)(v:V):A S.T:=bif Mf a||Mf b then .raw v else tL v
def aiP(a b:A S.T)(v:V):(Pc a b v).v=v:=by
 unfold Pc
 cases Mf a||Mf b with
 |true=>simp only[ct,A.v]
 |false=>exact I4 v
def aaj:BinOp->bI->Bool
 |.quo,.const _=>bf
 |.rem,.const _=>bf
 |.quo,_=>bh
 |.rem,_=>bh
 |.shl,.const _=>bf
 |.shr,.const _=>bf
 |.shl,_=>bh
 |.shr,_=>bh
 |_,_=>bf
def Pt(P:bo)(E:AE S.T):Op->Option (A S.T)
 |.move x=>aY (iL E x)
 |.assign x=>aY (iL E x)
 |.nilCheck x=>zg7 (iL E x)
 |.extract x i=>match iL E x with|.iN xs=>xs[i]?|_=>bg
 |.makeFunc (.func f) a b=>aY (.fn f (a.toList.map (iL E)) (b.toList.map (iL E)))
 |.field s x f=>R3 P s f (iL E x)
 |.fieldAddr s x f=>XZ P s f (iL E x)
 |.load t a=>XF P t (iL E a)
 |.build t parts=>match RZ P t (parts.toList.map λp=>(p.1,iL E p.2))with|some cs=>aY (.ag cs)|none=>bg
 |.call ⟨.builtin .len,args,ts⟩=>match args.toList,ts.toList with|[x],[t]=>aaO P t (iL E x)|_,_=>bg
 |.binOp op t x y t'=>bif aaj op y then bg else match od P (eV E) (.binOp op t x y t')with|some v=>aY (Pc (iL E x) (iL E y) v)|none=>bg
 |.unOp op t x=>match od P (eV E) (.unOp op t x)with|some v=>aY (tL v)|none=>bg
 |.convert a b x=>match od P (eV E) (.convert a b x)with|some v=>aY (tL v)|none=>bg
 |.pick a b x=>match iL E a with
  |.raw (.bool bh)=>aY (iL E b)
  |.raw (.bool bf)=>aY (iL E x)
  |_=>match od P (eV E) (.pick a b x)with|some v=>aY (tL v)|none=>bg
 |.call ⟨.builtin b,args,ts⟩=>match od P (eV E) (.call ⟨.builtin b,args,ts⟩)with|some v=>aY (tL v)|none=>bg
 |_=>bg
def Rn(E:AE S.T)(l:List bI):l.map (aV (eV E))=A.vs (l.map (iL E)):=by
 rw[wD,cU]
 exact fa λx _=>yu E x
def zDe(a b:V):Ex bh a b=a:=by
 unfold Ex
 split<;>first|rfl|(split<;>rfl)
def zDf(a b:V):Ex bf a b=b:=by
 unfold Ex
 split<;>first|rfl|(split<;>first|rfl|(rename_i h;subst h;rfl))
def zDg(hS:S.OK){P:bo}{E:AE S.T}{op:Op}{a:A S.T}(h:Pt P E op=aY a):od P (eV E) op=aY a.v:=by
 unfold Pt at h;split at h
 .cases h;exact aP aY (yu E _)
 .cases h;exact aP aY (yu E _)
 .rename_i x;simp only[od,yu];unfold zg7 at h
  split at h<;>first|(cases h;done)|(rename_i e;rw[e];cases h;rfl)
 .rename_i x i;simp only[od,yu];split at h
  .rename_i xs e;rw[e];simp only[A.v,wD,cz,h,de]
  .cases h
 .rename_i f x y;cases h;simp only[od,Rn,A.v]
 .rename_i s x f;obtain⟨cs,e1,e2⟩:=zyy hS h;simp only[od,yu,e1,e2]
 .rename_i s x f;simp only[od,yu];unfold XZ at h;split at h
  .rename_i o e;rw[e]
   split at h<;>first|(cases h;done)|(rename_i e';rw[e'];cases h;first|rfl|simp only[A.v,ff])
  .cases h
 .rename_i t x;simp only[od,yu];unfold XF at h;split at h
  .rename_i c x off e;rw[e];split at h
   .rename_i k hk;exact(Qe hS _ _ _ _ _ _ h).at hk
   .cases h
  .cases h
 .rename_i t parts;split at h
  .rename_i cs e;cases h;have:=zyx hS e;rw[cU]at this;simp only[od];rw[show(parts.toList.map λp=>(p.1,aV (eV E) p.2))=parts.toList.map ((λp:Nat×A S.T=>(p.1,p.2.v)) ∘ λp=>(p.1,iL E p.2)) from fa λp _=>by simp[yu],this];rfl
  .cases h
 .rename_i args ts;split at h
  .rename_i x t e1 e2;simp only[od,e1,e2,ij,dC,yu,KT];unfold aaO at h;split at h
   .rename_i c l e;rw[e]
    cases hb:jE P t with
    |true =>
     rw[hb]at h;cases h;have hl:(cQ (Aa S c) l).length=ba (α:=c.ty S.T) l:=bM ..;simp only[Es,A.v,oL,hb,if_true,hl]
    |false=>rw[hb]at h;cases h
   .rename_i l e;rw[e];split at h
    .rename_i hb;cases h;simp[Es,A.v,oL,hb]
    .cases h
   .rename_i n e;rw[e]
    cases hb:jE P t with
    |true=>rw[hb]at h;cases h;simp[Es,A.v,oL,hb]
    |false=>rw[hb]at h;cases h
   .cases h
  .cases h
 .rename_i op t x y t'
  cases hb:aaj op y with
  |true=>rw[hb]at h;cases h
  |false =>
   rw[hb,cf]at h
   split at h<;>first|(cases h;done)|(rename_i e;cases h;rw[e,aiP])
 rotate_left 2
 .rename_i a b x;split at h
  .rename_i e;cases h;simp only[od,yu,e,A.v,zDe]
  .rename_i e;cases h;simp only[od,yu,e,A.v,zDf]
  .split at h<;>first|(cases h;done)|(rename_i e;cases h;rw[e,I4])
 all_goals first|(split at h<;>first|(cases h;done)|(rename_i e;cases h;rw[e,I4]))|(cases h;done)
inductive OR(S:ni):Type 1 where
 |no
 |one (kF kR:List Nat) (a:A S.T) (F':AH S.T)
 |mR {α:Type} (o:Option α) (kF kR:List Nat) (r:α->Option (A S.T×AH S.T))
 |eqs (l:List (Nat×Nat)) (r:OR S)
 |alt {α:Type} (o:Option α) (kF kR:List Nat) (r:α->Option (A S.T×AH S.T)) (k:OR S)
def OR.TJ{S:ni}:OR S->OR S->OR S
 |.eqs l q,k=>.eqs l (q.TJ k)
 |.mR o kF kR r,k=>.alt o kF kR r k
 |q,_=>q
def AR:List Nat->AH S.T->Option (AH S.T)
 |[],_=>aY []
 |k::r,H=>match H.get k with
  |some o=>match AR r H with
   |some F=>aY ((k,o)::F)
   |none=>bg
  |none=>bg
def OR.OK(P:bo)(o:Oper)(E:AE S.T)(H:AH S.T):OR S->Prop
 |.no=>True
 |.one kF kR a F'=>∀F R,AR kF H=aY F->AR kR H=aY R->EV.Loc P o (eV E) (hV F++hV R) a.v (hV F'++hV R)
 |.mR o' kF kR r=>∀x,o'=aY x->∀a F',r x=aY (a,F')->∀F R,AR kF H=aY F->AR kR H=aY R->EV.Loc P o (eV E) (hV F++hV R) a.v (hV F'++hV R)
 |.eqs l r=>(∀p∈l,p.1=p.2)->r.OK P o E H
 |.alt o' kF kR r k=>(∀x,o'=aY x->∀a F',r x=aY (a,F')->∀F R,AR kF H=aY F->AR kR H=aY R->EV.Loc P o (eV E) (hV F++hV R) a.v (hV F'++hV R))/\k.OK P o E H
def znu{S:ni}{P:bo}{o:Oper}{E:AE S.T}{H:AH S.T}:∀{q k:OR S},q.OK P o E H->k.OK P o E H->(q.TJ k).OK P o E H
 |.eqs l q,k,h1,h2=>λh=>znu (q:=q) (h1 h) h2
 |.mR o' kF kR r,k,h1,h2=>⟨h1,h2⟩
 |.no,k,h1,h2=>h1
 |.one ..,k,h1,h2=>h1
 |.alt ..,k,h1,h2=>h1
def qW{k:Nat}{H F:AH S.T}{o:OA S.T}(hg:H.get k=aY o)(h:AR [k] H=aY F):F=[(k,o)]:=by simp only[AR,hg]at h;exact(Option.some.inj h).symm
def zk{H F:AH S.T}(h:AR [] H=aY F):F=[]:=(Option.some.inj h).symm
abbrev N5(c:TC):Inhabited (c.ty S.T):=⟨Pn S c⟩
def intOf:A S.T->Option (IntKind×Int)
 |.lQ (.i k) n=>aY (k,n)
 |_=>bg
def oM{a:A S.T}{k:IntKind}{n:Int}(h:intOf a=aY (k,n)):a.v=.int k n:=by
 unfold intOf at h;split at h
 .cases h;rfl
 .cases h
def Da(E:AE S.T):Option bI->Int->Option Int
 |none,d=>aY d
 |some x,_=>match intOf (iL E x)with|some (_,n)=>aY n|none=>bg
def FI{E:AE S.T}{o:Option bI}{d i:Int}(h:Da E o d=aY i):s5 (eV E) o d i:=by
 cases o with
 |none=>cases h;rfl
 |some x =>
  simp only[Da]at h;split at h
  .rename_i k n e;cases h;exact⟨k,by rw[yu];exact oM e⟩
  .cases h
def Pu(P:bo)(H:AH S.T)(t:Nat)(a:A S.T):OR S:=match oj P t with
 |none=>.no
 |some sh=>match a with
  |.raw (.ptr k 0 off)=>match H.get k with
   |some (.box _ cs)=>match Gv cs off sh with
    |some b=>.one [] [k] b []
    |none=>.no
   |_=>.no
  |.rp k L i off sz=>match H.get k with
   |some (.row _ c _ l w)=>bif bm sz (zI S c)then .eqs [(L,w.n)] (.mR (l[i]?) [] [k] λx=>match EU 64 c x off sh with|some b=>aY (b,[])|none=>bg)else .no
   |_=>.no
  |_=>.no
def R4(P:bo)(H:AH S.T)(t:Nat)(a x:A S.T):OR S:=match x.cells with
 |none=>.no
 |some u=>match a with
  |.raw (.ptr k 0 off)=>match H.get k with
   |some (.box bt cs)=>bif (A.vs u).all V.one&&(vJ P t u.length&&cm (off+u.length) cs.length)then .one [k] [] (.raw .no) [(k,.box bt (cs.take off++u++cs.drop (off+u.length)))]else .no
   |_=>.no
  |.rp k L i off sz=>match H.get k with
   |some (.row e c .zero l w)=>bif bm sz (zI S c)&&(vJ P t u.length&&((A.vs u).all V.one&&x.v.refs.isEmpty))then
     .eqs [(L,w.n)] (.mR (l[i]?) [k] [] λy=>match F7 64 c y with
      |some cs=>match Ve (S:=S) [] 64 c (cs.take off++u++cs.drop (off+u.length))with
       |some (⟨z,_,_⟩,[])=>bif cm (off+u.length) sz then aY (.raw .no,[(k,.row e c .zero (l.set i z) ⟨w.n,by rw[cb];exact w.h⟩)])else bg
       |_=>bg
      |none=>bg)
     else .no
   |_=>.no
  |_=>.no
def Vf(P:bo)(t:Nat)(a i:A S.T):OR S:=match kP P t,intOf i with
 |some (_,sz),aY (_,n)=>match a with
  |.lQ (.l c) l=>bif bm sz (zI S c)then .mR (@idx (c.ty S.T) (N5 c) l n) [] [] λx=>aY (.vp c x 0,[])else .no
  |.rh mo k m=>bif bm sz mo then .mR (bD (0<=n/\n<(m:Nat))) [] [] λ_=>aY (.rp k m (bj n) 0 sz,[])else .no
  |_=>.no
 |_,_=>.no
def R5(P:bo)(t:Nat)(a i:A S.T):OR S:=match intOf i with
 |some (_,n)=>match a with
  |.lQ .s l=>bif C8 P t then .mR (idx (α:=UInt8) l n) [] [] λx=>aY (.lQ (.i .u8) ((x.toNat:Nat):Int),[])else .no
  |_=>.no
 |none=>.no
def R6(P:bo)(E:AE S.T)(t:Nat)(a:A S.T)(lo hi:Option bI):OR S:=match a with
 |.lQ .s l=>match Da E lo 0,Da E hi ((ba (α:=UInt8) l:Nat):Int)with
  |some x,aY y=>bif C8 P t then .mR (cut (α:=UInt8) l x y) [] [] λz=>aY (.lQ .s z,[])else .no
  |_,_=>.no
 |.lQ (.l c) l=>match kP P t with
  |some (_,sz)=>match Da E lo 0,Da E hi ((ba (α:=c.ty S.T) l:Nat):Int)with
   |some x,aY y=>bif bm sz (zI S c)then .mR (cut (α:=c.ty S.T) l x y) [] [] λz=>aY (.lQ (.l c) z,[])else .no
   |_,_=>.no
  |none=>.no
 |.rh sz k n=>match kP P t with
  |some (_,mo)=>match Da E lo 0,Da E hi ((n:Nat):Int)with
   |some x,aY y=>bif bm sz mo then .mR (bD (0<=x/\x<=y/\y<=(n:Nat))) [] [] λ_=>aY (.raw (.sl sz k n (bj x) (bj y-bj x)),[])else .no
   |_,_=>.no
  |none=>.no
 |_=>.no
section
variable{P:bo}{E:AE S.T}{H:AH S.T}{dst:Option Tmp}{ty:bK}{pos:String}{aft:Array Edge}{gd:Option (Nat×Bool)}
def zyz(hS:S.OK){t:Nat}{x:bI}:(Pu P H t (iL E x)).OK P ⟨dst,.load t x,ty,pos,aft,gd⟩ E H:=by
 unfold Pu;split
 .trivial
 .rename_i sh nk;split
  .rename_i k off e;split
   .rename_i bt cs hg;split
    .rename_i b hb;intro F R hF hR;cases zk hF;cases qW hg hR;exact zm8 (by rw[yu,e];rfl) ((znt hb).at nk)
    .trivial
   .trivial
  .rename_i k L i off sz e;split
   .rename_i et c fz l wl hg
    cases hb:bm sz (zI S c)with
    |false=>trivial
    |true =>
     have h_:=eb hb;subst h_;intro heq y hy a F' hr F R hF hR;have hL:L=l.length:=(heq _ (b_.2 rfl)).trans wl.h.symm;dsimp only at hr;split at hr
     .rename_i b DR;cases hr;cases zk hF;cases qW hg hR;refine uI (L:=L) (cs:=Aa S c y) (sz:=zI S c) i off (by rw[yu,e];rfl) (by rw[hL,bM]) rfl ?_ ((Qe hS _ _ _ _ _ _ DR).at nk);rw[cz,hy];rfl
     .cases hr
   .trivial
  .trivial
def zej{t:Nat}{x ix:bI}:(Vf P t (iL E x) (iL E ix)).OK P ⟨dst,.indexAddr t x ix,ty,pos,aft,gd⟩ E H:=by
 unfold Vf;split
 .rename_i e sz k n h1 h2;split
  .rename_i c l e1
   cases hb:bm sz (zI S c)with
   |false=>trivial
   |true =>
    have h_:=eb hb;subst h_;intro y hy a F' hr F R hF hR;cases hr;cases zk hF;cases zk hR;obtain⟨g1,g2,g3⟩:=@yJ _ (N5 c) _ _ _ hy;refine zM (k:=k) (i:=n) h1 (by rw[yu,e1];rfl) (by rw[yu];exact oM h2) g1 ?_;have ib:n.toNat<ba (α:=c.ty S.T) l:=ab;rw[g3];exact @yI (c.ty S.T) (N5 c) (Aa S c) l n.toNat ib
  .rename_i mo k' m e1
   cases hb:bm sz mo with
   |false=>trivial
   |true =>
    have h_:=eb hb;subst h_;intro y hy a F' hr F R hF hR;cases hr;cases zk hF;cases zk hR;obtain⟨g1,g2⟩:=yY hy;exact yR (k:=k) h1 (by rw[yu,e1];rfl) (by rw[yu];exact oM h2) g1 g2
  .trivial
 .trivial
def zt0{t:Nat}{x ix:bI}:(R5 P t (iL E x) (iL E ix)).OK P ⟨dst,.index t x ix,ty,pos,aft,gd⟩ E H:=by
 unfold R5;split
 .rename_i k n h2;split
  .rename_i l e1
   cases hb:C8 P t with
   |false=>trivial
   |true =>
    intro y hy a F' hr F R hF hR;cases hr;cases zk hF;cases zk hR;obtain⟨g1,g2,g3⟩:=yJ hy;have:=zgm (P:=P) (dst:=dst) (ty:=ty) (pos:=pos) (aft:=aft) (gd:=gd) (ρ:=eV E) (k:=k) (x:=x) (ix:=ix) hb (by rw[yu,e1];rfl) (by rw[yu];exact oM h2) g1 g2;rw[g3];exact this
  .trivial
 .trivial
def zt1{t:Nat}{x:bI}{lo hi:Option bI}:(R6 P E t (iL E x) lo hi).OK P ⟨dst,.slice t x lo hi bg,ty,pos,aft,gd⟩ E H:=by
 unfold R6;split
 .rename_i l e1;split
  .rename_i p q h1 h2
   cases hb:C8 P t with
   |false=>trivial
   |true =>intro y hy a F' hr F R hF hR;cases hr;cases zk hF;cases zk hR;obtain⟨g1,g2,g3,g4⟩:=znf hy;rw[g4];exact zgo hb (by rw[yu,e1];rfl) (FI h1) (FI h2) g1 g2 g3
  .trivial
 .rename_i c l e1;split
  .rename_i e sz h0;split
   .rename_i p q h1 h2
    cases hb:bm sz (zI S c)with
    |false=>trivial
    |true =>
     have h_:=eb hb;subst h_;intro y hy a F' hr F R hF hR;cases hr;cases zk hF;cases zk hR;obtain⟨g1,g2,g3,g4⟩:=znf hy;have hl:(cQ (Aa S c) l).length=ba (α:=c.ty S.T) l:=bM ..;refine zgt h0 (by rw[yu,e1];rfl) (FI h1) (by rw[hl];exact FI h2) g1 g2 (by rw[hl];exact g3) ?_;rw[g4,eA];exact aP (dN p.toNat) (ef (f:=Aa S c) (l:=(l:List (c.ty S.T))) (i:=q.toNat)).symm
   .trivial
  .trivial
 .rename_i sz k n e1;split
  .rename_i e mo h0;split
   .rename_i p q h1 h2
    cases hb:bm sz mo with
    |false=>trivial
    |true =>
     have h_:=eb hb;subst h_;intro y hy a F' hr F R hF hR;cases hr;cases zk hF;cases zk hR;obtain⟨g1,g2,g3⟩:=yY hy;exact AQ h0 (by rw[yu,e1];rfl) (FI h1) (FI h2) g1 g2 g3
   .trivial
  .trivial
 .trivial
end
end
section
variable{S:ni}
def RowsIn(H:AH S.T)(R:aw)(fz:List Nat):Prop:=∀k∈fz,∀e c f l w,H.get k=aY (.row e c f l w)->∃f',R.get k=aY (.row e (zI S c) f' (l.map (Aa S c)))
def RowsIn.left{H:AH S.T}{R:aw}{a b:List Nat}(h:RowsIn H R (a++b)):RowsIn H R a:=λk hk=>h k (bQ _ hk)
def RowsIn.right{H:AH S.T}{R:aw}{a b:List Nat}(h:RowsIn H R (a++b)):RowsIn H R b:=λk hk=>h k (cq _ hk)
def Wf{R:aw}:∀{a b c d:List V},jG R a b->jG R c d->jG R (a++c) (b++d)
 |[],_,_,_,.nil,h=>h
 |_::_,_,_,_,.cons h1 h2,h=>.cons h1 (Wf h2 h)
def X0{R:aw}:∀{a:List V},jG R a a
 |[]=>.nil
 |v::a=>.cons (.same v) X0
def w7(l:List (Nat×Nat)):Prop:=∀p∈l,p.1=p.2
def w7.left{a b:List (Nat×Nat)}(h:w7 (a++b)):w7 a:=λk hk=>h k (bQ _ hk)
def w7.right{a b:List (Nat×Nat)}(h:w7 (a++b)):w7 b:=λk hk=>h k (cq _ hk)
def WR{t:Nat}{a:A S.T}{c:TC}{rx:Rx (c.ty S.T)}(h:Te t a c=aY rx):V.mP t a.v=oL S c rx.x/\rx.fz=[]/\rx.eq=[]:=by
 unfold Te at h;split at h
 .rename_i ti ts;split at h
  .rename_i x
   cases hb:bm t ts with
   |false=>rw[hb]at h;cases h
   |true =>rw[hb]at h;cases h;rw[eb hb];exact⟨rfl,rfl,rfl⟩
  .rename_i x
   cases hb:bm t ti with
   |false=>rw[hb]at h;cases h
   |true =>rw[hb]at h;cases h;rw[eb hb];exact⟨rfl,rfl,rfl⟩
  .cases h
 .cases h
def Ab{H:AH S.T}{c:TC}{a:A S.T}{rx:Rx (c.ty S.T)}(h:BA H c a=aY rx)(heq:w7 rx.eq){R:aw}(hR:RowsIn H R rx.fz):au R a.v (oL S c rx.x):=by
 unfold BA at h;split at h
 .split at h
  .rename_i e;subst e;cases h;exact .same _
  .cases h
 .cases c<;>first|(cases h;done)|(cases h;exact .gg _)
 .cases c<;>first|(cases h;done)|(cases h;exact .same _)
 .rename_i sz k n
  cases c<;>first|(cases h;done)|skip
  rename_i t;simp only[sj]at h;split at h
  .rename_i e t' fz l wl hg;split at h
   .rename_i e;subst e
    cases hb:bm sz (zI S t')with
    |false=>rw[hb]at h;cases h
    |true =>
     rw[hb]at h;have h_:=eb hb;subst h_;cases h;obtain⟨f',hf⟩:=hR k (b_.2 rfl) _ _ _ _ _ hg;have hn:n=l.length:=(heq _ (b_.2 rfl)).trans wl.h.symm;exact .row hf (by rw[bM];exact hn)
   .cases h
  .cases h
 .rename_i sz k n
  cases c<;>first|(cases h;done)|skip
  rename_i t;simp only[sj]at h;split at h
  .rename_i e t' fz l wl hg;split at h
   .rename_i e;subst e
    cases hb:bm sz (zI S t')with
    |false=>rw[hb]at h;cases h
    |true =>
     rw[hb]at h;have h_:=eb hb;subst h_;cases h;obtain⟨f',hf⟩:=hR k (b_.2 rfl) _ _ _ _ _ hg;have hn:n=l.length:=(heq _ (b_.2 rfl)).trans wl.h.symm;exact .tU hf (by rw[bM];exact hn)
   .cases h
  .cases h
 .have:=(WR h).1;rw[<- this];simp only[A.v];exact .same _
 .cases h
def zy0:∀(c:TC)(x:c.ty S.T),(∀n,c≠.st n)->Aa S c x=[oL S c x]
 |.i _,_,_=>rfl
 |.b,_,_=>rfl
 |.s,_,_=>rfl
 |.y,_,_=>rfl
 |.a _ _,_,_=>rfl
 |.l _,_,_=>rfl
 |.m k e,_,_=>rfl
 |.st n,_,h=>aQ rfl (h n)
mutual
def JM(hS:S.OK){H:AH S.T}:∀(f:Nat)(c:TC)(cs:List (A S.T))(rx:Rx (c.ty S.T))(r:List (A S.T)),Ve H f c cs=aY (rx,r)->w7 rx.eq ->
  ∃u,cs=u++r/\∀R,RowsIn H R rx.fz->jG R (A.vs u) (Aa S c rx.x)
 |0,_,_,_,_,h,_=>by cases h
 |f+1,.st m,cs,rx,r,h,heq=>by
  rw[Ve]at h;split at h
  .rename_i x fz eq r' e;cases h;obtain⟨u,h1,h2⟩:=JN hS f (S.fl m) cs ⟨x,fz,eq⟩ r e heq;refine⟨u,h1,λR hR=>?_⟩;have:=h2 R hR
   show jG R (A.vs u) (S.enc m (S.inj m x))
   rw[hS.Gl,hS.NN];exact this
  .cases h
 |f+1,c,a::r0,rx,r,h,heq=>by
  by_cases hc:∃m,c=.st m
  .obtain⟨m,rfl⟩:=hc;rw[Ve]at h;split at h
   .rename_i x fz eq r' e;cases h;obtain⟨u,h1,h2⟩:=JN hS f (S.fl m) _ ⟨x,fz,eq⟩ r e heq;refine⟨u,h1,λR hR=>?_⟩;have:=h2 R hR
    show jG R (A.vs u) (S.enc m (S.inj m x))
    rw[hS.Gl,hS.NN];exact this
   .cases h
  .have pc:∀m,c≠.st m:=λm e=>hc ⟨m,e⟩
   have h':(match BA H c a with|some rx=>aY (rx,r0)|none=>bg)=aY (rx,r):=by
    cases c<;>first|exact aQ rfl (pc _)|exact h
   split at h'
   .rename_i HD e;cases h';refine⟨[a],rfl,λR hR=>?_⟩;have:=Ab e heq hR;rw[zy0 c rx.x pc];exact .cons this .nil
   .cases h'
 |f+1,c,[],rx,r,h,heq=>by
  by_cases hc:∃m,c=.st m
  .obtain⟨m,rfl⟩:=hc;rw[Ve]at h;split at h
   .rename_i x fz eq r' e;cases h;obtain⟨u,h1,h2⟩:=JN hS f (S.fl m) _ ⟨x,fz,eq⟩ r e heq;refine⟨u,h1,λR hR=>?_⟩;have:=h2 R hR
    show jG R (A.vs u) (S.enc m (S.inj m x))
    rw[hS.Gl,hS.NN];exact this
   .cases h
  .have pc:∀m,c≠.st m:=λm e=>hc ⟨m,e⟩
   cases c<;>first|exact aQ rfl (pc _)|cases h
def JN(hS:S.OK){H:AH S.T}:∀(f:Nat)(l:List TC)(cs:List (A S.T))(rx:Rx (HL S.T l))(r:List (A S.T)),De H f l cs=aY (rx,r)->w7 rx.eq ->
  ∃u,cs=u++r/\∀R,RowsIn H R rx.fz->jG R (A.vs u) (I3 S l rx.x)
 |0,_,_,_,_,h,_=>by cases h
 |_+1,[],cs,rx,r,h,_=>by cases h;exact⟨[],rfl,λR _=>.nil⟩
 |f+1,[c],cs,rx,r,h,heq=>by
  rw[De]at h;exact JM hS f c cs rx r h heq
 |f+1,c::d::l,cs,rx,r,h,heq=>by
  rw[De]at h;split at h
  .rename_i x fz eq Dx e;split at h
   .rename_i y rC DG SH e';cases h;obtain⟨u,h1,h2⟩:=JM hS f c cs ⟨x,fz,eq⟩ Dx e heq.left;obtain⟨v,h3,h4⟩:=JN hS f (d::l) Dx ⟨y,rC,DG⟩ r e' heq.right;refine⟨u++v,by rw[h1,h3,tF],λR hR=>?_⟩;rw[Kk];exact Wf (h2 R hR.left) (h4 R hR.right)
   .cases h
  .cases h
end
def YY(hS:S.OK){H:AH S.T}{c:TC}{a:A S.T}{rx:Rx (c.ty S.T)}(h:YX H c a=aY rx)(heq:w7 rx.eq){R:aw}(hR:RowsIn H R rx.fz):au R a.v (oL S c rx.x):=by
 unfold YX at h;split at h
 .rename_i HD e;cases h;exact Ab e heq hR
 .split at h
  .rename_i cs
   cases c<;>first|(cases h;done)|skip
   rename_i m;simp only[RY]at h;split at h
   .rename_i HD e;cases h;obtain⟨u,h1,h2⟩:=JM hS _ _ _ _ _ e heq;rw[cL]at h1;subst h1;exact .agg (h2 R hR)
   .cases h
  .cases h
def zt2(hS:S.OK):∀(c:TC)(x:c.ty S.T),wh (Aa S c x)=[]
 |.i _,_=>rfl
 |.b,_=>rfl
 |.s,_=>rfl
 |.y,_=>rfl
 |.a _ _,x=>by cases x<;>rfl
 |.l _,_=>rfl
 |.m _ _,_=>rfl
 |.st n,x=>hS.refs n x
def zHz(hS:S.OK){a:List V}{c:TC}{x:c.ty S.T}(h:jG [] a (Aa S c x)):Bo a (Aa S c x):=λZ l hl=>by
 let m0:M:=λ_ _=>bg
 have h1:zC (aY m0) Z a l:=hl.up (λ_ _ e=>e) (λf e=>by cases e);have h2:=jG.rep (m:=m0) (Z:=Z) (w:=default) (F:=[]) (λk t sz fz els e=>by cases e) h h1;exact zC.flat _ _ (zt2 hS c x) h2
def zg8{c:TC}{a:A S.T}{rx:Rx (c.ty S.T)}(h:BA [] c a=aY rx):rx.fz=[]/\rx.eq=[]:=by
 unfold BA at h;split at h
 .split at h
  .cases h;exact⟨rfl,rfl⟩
  .cases h
 .cases c<;>first|(cases h;done)|(cases h;exact⟨rfl,rfl⟩)
 .cases c<;>first|(cases h;done)|(cases h;exact⟨rfl,rfl⟩)
 .cases c<;>first|(cases h;done)|(simp only[sj,AH.get]at h;cases h)
 .cases c<;>first|(cases h;done)|(simp only[sj,AH.get]at h;cases h)
 .exact(WR h).2
 .cases h
mutual
def Qf:∀(f:Nat)(c:TC)(cs:List (A S.T))(rx:Rx (c.ty S.T))(r:List (A S.T)),Ve [] f c cs=aY (rx,r)->rx.fz=[]/\rx.eq=[]
 |0,_,_,_,_,h=>by cases h
 |f+1,c,cs,rx,r,h=>by
  by_cases hc:∃m,c=.st m
  .obtain⟨m,rfl⟩:=hc;rw[Ve]at h;split at h
   .rename_i x fz eq r' e;cases h;exact zg9 f (S.fl m) _ ⟨x,fz,eq⟩ r e
   .cases h
  .have pc:∀m,c≠.st m:=λm e=>hc ⟨m,e⟩
   cases cs with
   |nil=>cases c<;>first|exact aQ rfl (pc _)|cases h
   |cons a r0 =>
    have h':(match BA [] c a with|some rx=>aY (rx,r0)|none=>bg)=aY (rx,r):=by
     cases c<;>first|exact aQ rfl (pc _)|exact h
    split at h'
    .rename_i HD e;cases h';exact zg8 e
    .cases h'
def zg9:∀(f:Nat)(l:List TC)(cs:List (A S.T))(rx:Rx (HL S.T l))(r:List (A S.T)),De [] f l cs=aY (rx,r)->rx.fz=[]/\rx.eq=[]
 |0,_,_,_,_,h=>by cases h
 |_+1,[],cs,rx,r,h=>by cases h;exact⟨rfl,rfl⟩
 |f+1,[c],cs,rx,r,h=>by
  rw[De]at h;exact Qf f c cs rx r h
 |f+1,c::d::l,cs,rx,r,h=>by
  rw[De]at h;split at h
  .rename_i x fz eq Dx e;split at h
   .rename_i y rC DG SH e';cases h;obtain⟨h1,h2⟩:=Qf f c cs ⟨x,fz,eq⟩ Dx e;obtain⟨h3,h4⟩:=zg9 f (d::l) Dx ⟨y,rC,DG⟩ r e';exact⟨by rw[show fz=[] from h1,show rC=[] from h3];rfl,by rw[show eq=[] from h2,show DG=[] from h4];rfl⟩
   .cases h
  .cases h
end
def P8(hS:S.OK){f:Nat}{c:TC}{cs:List (A S.T)}{rx:Rx (c.ty S.T)}(h:Ve [] f c cs=aY (rx,[])):Bo (A.vs cs) (Aa S c rx.x):=by obtain⟨h1,h2⟩:=Qf _ _ _ _ _ h;obtain⟨u,e1,e2⟩:=JM hS _ _ _ _ _ h (by rw[h2];intro p hp;cases hp);rw[cL]at e1;subst e1;exact zHz hS (e2 [] (by rw[h1];intro k hk;cases hk))
end
end Go.EQ
namespace Go.EV
open Go Go.RowKit Go.lG
section
variable{P:bo}{ρ:Env}{dst:Option Tmp}{ty:bK}{pos:String}{aft:Array Edge}{gd:Option (Nat×Bool)}
def Step.TN{m:M}{Z:ZM}{w:bF}{R:aw}{d e sz:Nat}(h_:0<sz)(hs:w8 m Z R w)(mU:∀L,m d L=bg)(hd:d ∉ keys R):
  ∃m',Step m Z R w m' Z ((d,.row e sz 0 [])::R) w/\m' d 0=aY (0,0):=by
 let m':M:=λk' L=>if k'=d/\L=0 then aY (0,0)else m k' L
 have h1:m' d 0=aY (0,0):=by simp[m']
 have h2:∀k L loc,m k L=aY loc->m' k L=aY loc:=λk L loc e=>by
  by_cases hc:k=d/\L=0
  .obtain⟨rfl,rfl⟩:=hc;rw[mU]at e;cases e
  .simp only[m',aN hc];exact e
 have hs0:w8 m Z [] w:=⟨hs.frozen,λp hp=>(by cases hp),cZ,λp hp=>(by cases hp)⟩
 have gy:Step m Z [] w m' Z [(d,.row e sz 0 [])] w:=by
  refine⟨⟨hs.frozen,λp hp=>?_,by simp[keys],λp hp q hq _ _ _=>?_⟩,h2,λ_ _ e=>e,rfl,rfl,rfl,al,λ_ _ _=>rfl,λk hk=>(by cases hk),λk hk=>?_,λp hp b hb=>?_,λ_ _ e=>.inl e⟩
  .simp only[b_]at hp;subst hp;refine .inl ⟨h_,rfl,rfl,⟨0,h1⟩,λL loc e=>?_⟩;simp only[m']at e;split at e
   .rename_i hc;omega
   .rw[mU]at e;cases e
  .simp only[b_]at hp hq;subst hp;subst hq;rfl
  .funext L
   have:k≠d:=by simpa[keys]using hk
   simp[m',this]
  .simp only[b_]at hp;subst hp;simp[gM,oi,Obj.ver,h1]at hb
 exact⟨m',Step.Bk (F:=[]) (G:=R) (F':=[(d,.row e sz 0 [])]) hs gy λp hp q hq e'=>by
  simp only[b_]at hp;subst hp;have aed:d=q.1:=e'
  exact hd (by rw[aed];exact ax hq),h1⟩
def zel{t e sz bytes n d j:Nat}{y:bI}{ys:List (List V)}{R:aw}(hT:kQ P t=aY (e,sz,bytes))(hx:aV ρ (.tmp j)=.gg)(O1:y≠.tmp j)(hy:Src sz R (aV ρ y) ys)
  (h1:∀c∈ys,c.all V.one=bh) (nu:∀c∈ys,c.length=sz) (OD:wj d R=bf) (hn:ys.length=n) (hlen:n*bytes<=140737488355328) (rF:n<=9223372036854775807):
  Loc P ⟨dst,.call ⟨.builtin .append,#[.tmp j,y],#[t,t]⟩,ty,pos,aft,gd⟩ ρ R (.sl sz d n 0 n) ((d,.row e sz 0 ys)::R):=by
 intro ρr m Z w e9 hs mU
 have mA:d ∉ keys R:=λh=>by rw[yt.2 h]at OD;cases OD
 obtain⟨_,_,_,_,_,_,_,_,h0⟩:=kS hT;obtain⟨m',gy,pR⟩:=Step.TN (e:=e) (sz:=sz) h0 hs (λL=>mU d (by simp[keys]) mA L) mA
 have UG:∀z,z≠.tmp j->aV ((j,V.sl sz d 0 0 0)::ρ) z=aV ρ z:=λz hz=>by
  cases z with
  |tmp t' =>
   have:t'≠j:=λe=>hz (by rw[e])
   show(bif bm t' j then _ else _)=_
   cases hb:bm t' j with
   |true=>exact aQ (eb hb) this
   |false=>rfl
  |_=>rfl
 have hj:aV ((j,V.sl sz d 0 0 0)::ρ) (.tmp j)=.sl sz d 0 0 0:=by
  show(bif bm j j then _ else _)=_
  rw[cC];rfl
 have hl:=AN (P:=P) (ρ:=(j,V.sl sz d 0 0 0)::ρ) (dst:=dst) (ty:=ty) (pos:=pos) (aft:=aft) (gd:=gd) (k:=d) (fz:=0) (L:=0) (els:=[]) (ys:=ys) (R:=R) (e:=e) (n:=n) hT hj rfl (by rw[UG y O1];exact hy) h1 nu OD (cw _) hn hlen rF
 refine(hl ρr m' Z w (λz hz=>?_) gy.iW (λk hk mu L=>aQ hk mu)).mono λx w' hx=>?_
 .by_cases U9:z=.tmp j
  .subst U9;have:=e9 (.tmp j) hz;rw[hx]at this;rw[hj];exact⟨m',_,rfl,pR,al,cH _,.inr (.inl ⟨rfl,bg,this⟩)⟩
  .rw[UG z U9]
   exact(e9 z hz).up (λ_ _ e=>e) λf e=>by cases e;exact⟨m',rfl,gy.pM⟩
 .obtain⟨m2,Z2,st,hr⟩:=hx;exact⟨m2,Z2,gy.trans st,hr⟩
end
end Go.EV
namespace Go.EQ
open Go Go.RowKit Go.lG Go.EV
section
variable{S:ni}
def RX(P:bo)(d t:Nat):OR S:=match zeroV P t with
 |some cs=>.one [] [] (.raw (.ptr d 0 0)) [(d,.box t (cs.map z_))]
 |none=>.no
def SK(d t:Nat)(x:A S.T):OR S:=match x.cells with
 |some u=>.one [] [] (.raw (.ptr d 0 0)) [(d,.box t u)]
 |none=>.no
def MY(c:TC):List (A S.T)->Option (List (c.ty S.T))
 |[]=>aY []
 |a::r=>match a.cells with
  |some u=>match Ve [] 64 c u with
   |some (rx,[])=>match MY c r with
    |some zs=>bif bm u.length (zI S c)then aY (rx.x::zs)else bg
    |none=>bg
   |_=>bg
  |none=>bg
def j9(P:bo)(E:AE S.T)(cd:Nat->Option TC)(d t n:Nat)(parts:List (Nat×bI)):OR S:=match kP P t with
 |some (e,sz)=>match cd e with
  |some c=>match MY c (parts.map λp=>iL E p.2)with
   |some zs=>bif bm sz (zI S c)&&(cm (n*sz) 16777216&&(Ey n sz (parts.map λp=>(p.1,aV (eV E) p.2))).isSome)then(match cd (1000000+e)with
    |none=>.one [] [] (.rh sz d n) [(d,.row e c .zero zs ⟨_,rfl⟩)]
    |some _=>.one [] [] (.lQ (.l c) zs) [(d,.row e c .all zs ⟨_,rfl⟩)])else .no
   |none=>.no
  |none=>.no
 |none=>.no
def Ev:bI->bI->Bool
 |.tmp a,.tmp b=>bm a b
 |_,_=>bf
def Vg(P:bo)(E:AE S.T)(cd:Nat->Option TC)(d t:Nat)(x y:bI):OR S:=match kQ P t,intOf (iL E x),intOf (iL E y)with
 |some (e,sz,bytes),aY (_,n),aY (_,n')=>match cd e,zeroV P e with
  |some c,aY cs=>match Ve (S:=S) [] 64 c (cs.map z_)with
   | some (rx,[])=>bif bm sz (zI S c)&&(bm cs.length sz&&(Ev x y||decide (n=n')))then
     .mR (bD (0<=n/\n*bytes<=281474976710656/\n<=9223372036854775807)) [] [] (λ_=>aY (.rh sz d (bp (bj n) rx.x).length,[(d,.row e c .zero (bp (bj n) rx.x) ⟨_,rfl⟩)]))
    else .no
   |_=>.no
  |_,_=>.no
 |_,_,_=>.no
def Fz.grow(n:Nat):Fz->Fz
 |.zero=>.zero
 |.all=>.pre n
 |.pre n=>.pre n
def Mg(H:AH S.T)(k:Nat)(c:TC):A S.T->Option (List (c.ty S.T)×List Nat×List (Nat×Nat))
 |.lQ (.l c') l=>if h:c'=c then aY ((h▸l:List (c.ty S.T)),[],[])else bg
 |.raw .gg=>aY ([],[],[])
 |.rh sz k' n=>match H.get k' with
  |some (.row _ c' _ l w)=>if h:c'=c then bif !(bm k k')&&bm sz (zI S c)then aY ((h▸l:List (c.ty S.T)),[k'],[(n,w.n)])else bg else bg
  |_=>bg
 |_=>bg
def s6:TC->Bool
 |.m _ _=>bf
 |_=>bh
def Xt:bI->Option Nat
 |.tmp t=>aY t
 |_=>bg
def Ro(P:bo)(E:AE S.T)(H:AH S.T)(cd:Nat->Option TC)(d t t':Nat)(x y:bI):OR S:=match kQ P t with
 |some (e,sz,bytes)=>bif bm t t'&&cm 1 bytes then match iL E x with
  |.rh mo k n=>match H.get k with
   |some (.row e' c fz l w)=>match Mg H k c (iL E y)with
    |some (ys,kR,eq)=>bif bm e e'&&(bm mo sz&&(bm sz (zI S c)&&s6 c))then
      .eqs ((n,w.n)::eq) (.mR (bD ((l++ys).length*bytes<=140737488355328)) [k] kR (λ_=>aY (.rh sz k (l++ys).length,[(k,.row e c (fz.grow l.length) (l++ys) ⟨_,rfl⟩)])))
     else .no
    |none=>.no
   |_=>.no
  |.raw .gg=>match cd e,Xt x with
   |some c,aY j=>match Mg H d c (iL E y)with
    |some (ys,kR,eq)=>bif bm sz (zI S c)&&(s6 c&&!(Ev x y))then
      .eqs eq (.mR (bD (ys.length*bytes<=140737488355328)) [] kR (λ_=>aY (.rh sz d ys.length,[(d,.row e c .zero ys ⟨_,rfl⟩)])))
     else .no
    |none=>.no
   |_,_=>.no
  |_=>.no
  else .no
 |none=>.no
def Rp(a b:A S.T):OR S:=match a,b with
 |.lQ .s x,.lQ .s y=>.mR (bD (ba (α:=UInt8) x+ba (α:=UInt8) y<=9223372036854775807)) [] [] (λ_=>aY (.lQ .s (List.append (α:=UInt8) x y),[]))
 |_,_=>.no
section
variable{P:bo}{E:AE S.T}{H:AH S.T}{dst:Option Tmp}{ty:bK}{pos:String}{aft:Array Edge}{gd:Option (Nat×Bool)}
def zt4{d t:Nat}:(RX (S:=S) P d t).OK P ⟨dst,.alloc t,ty,pos,aft,gd⟩ E H:=by
 unfold RX;split
 .rename_i cs h;intro F R hF hR;cases zk hF;cases zk hR;have:=zgi (P:=P) (ρ:=eV E) (dst:=dst) (ty:=ty) (pos:=pos) (aft:=aft) (gd:=gd) (d:=d) h;simpa[hV,OA.o,FH,A.v]using this
 .trivial
def zDi(hS:S.OK){d t:Nat}{x:bI}:(SK d t (iL E x)).OK P ⟨dst,.box t x,ty,pos,aft,gd⟩ E H:=by
 unfold SK;split
 .rename_i u h;intro F R hF hR;cases zk hF;cases zk hR;obtain⟨h1,h2⟩:=A.NO hS h;have:=zst (P:=P) (ρ:=eV E) (dst:=dst) (ty:=ty) (pos:=pos) (aft:=aft) (gd:=gd) (d:=d) (t:=t) (x:=x) (by rw[yu];exact h2);rw[yu,<- h1]at this;exact this
 .trivial
def zqd{t t':bK}{x y:bI}:(Rp (iL E x) (iL E y)).OK P ⟨dst,.binOp .add t x y t',ty,pos,aft,gd⟩ E H:=by
 unfold Rp;split
 .rename_i a b h1 h2;intro z hz a F' hr F R hF hR;cases hr;cases zk hF;cases zk hR;exact zp4 (by rw[yu,h1];rfl) (by rw[yu,h2];rfl) (yY hz)
 .trivial
def zy1{x y:bI}(h:Ev x y=bh):x=y:=by
 unfold Ev at h;split at h
 .rw[eb h]
 .cases h
def zem(hS:S.OK){cd:Nat->Option TC}{d t:Nat}{x y:bI}:(Vg P E cd d t x y).OK P ⟨dst,.makeSlice t x y,ty,pos,aft,gd⟩ E H:=by
 unfold Vg;split
 .rename_i e sz bytes k n k' n' h1 h2 h3;split
  .rename_i c cs h4 h5;split
   .rename_i rx h6
    cases hb:bm sz (zI S c)&&(bm cs.length sz&&(Ev x y||decide (n=n')))with
    |false=>trivial
    |true =>
     simp only[bn,dk]at hb;have h_:=eb hb.1;subst h_
     have hn:n'=n:=by
      rcases hb.2.2 with h|h
      .have:=zy1 h;subst this;rw[h2]at h3;cases h3;rfl
      .exact(aX h).symm
     subst hn;intro u hu a F' hr F R hF hR;cases hr;cases zk hF;cases zk hR;obtain⟨g1,g2,g3⟩:=yY hu;have hlen:(bp n'.toNat rx.x).length=n'.toNat:=List.length_replicate;refine oK (cs:=cs) (cs2:=Aa S c rx.x) h1 h5 (by rw[yu];exact oM h2) (by rw[yu];exact oM h3) (by rw[ju hS,eb hb.2.1];exact cC _) g1 g2 g3 ?_ hlen ?_
     .exact(fg ..).symm
     .have:=P8 hS h6;rw[FH]at this;exact this
   .trivial
  .trivial
 .trivial
def zha(hS:S.OK){c:TC}:∀{asZ:List (A S.T)}{zs:List (c.ty S.T)},MY c asZ=aY zs->Bo ((A.vs asZ).map V.cells).flatten (zs.map (Aa S c)).flatten/\zs.length=asZ.length
 |[],zs,h=>by cases h;exact⟨zHr,rfl⟩
 |a::r,zs,h=>by
  simp only[MY]at h;split at h
  .rename_i u hu;split at h
   .rename_i rx e;split at h
    .rename_i zs' e'
     cases hb:bm u.length (zI S c)with
     |false=>rw[hb]at h;cases h
     |true =>
      rw[hb]at h;cases h;obtain⟨h1,h2⟩:=zha hS e';obtain⟨h3,_⟩:=A.NO hS hu;have h4:=P8 hS e;refine⟨?_,by simp[h2]⟩;simp only[A.vs,ij,cN];rw[<- h3];exact YW (by rw[uK,ju hS];exact eb hb) h4 h1
    .cases h
   .cases h
  .cases h
def zqe{P:bo}{ρ:Env}{o:Oper}{d t sz n:Nat}{els:List (List V)}(hl:EV.Loc P o ρ [] (.sl sz d n 0 n) [(d,.row t sz 0 els)])(hn:els.length=n):EV.Loc P o ρ [] (.vs sz els) [(d,.row t sz els.length els)]:=by subst hn;intro ρr m Z w e9 hs mU;refine(hl ρr m Z w e9 hs mU).mono ?_;rintro x w' ⟨m',Z',st,hr⟩;have gy:Step m' Z' [(d,.row t sz 0 els)] w' m' (sQ m' Z' [(d,.row t sz 0 els)] w') [(d,.row t sz els.length els)] w':=Step.freeze st.iW;refine⟨m',sQ m' Z' [(d,.row t sz 0 els)] w',st.trans gy,au.rep (w:=w') (F:=[(d,.row t sz els.length els)]) (λk t' mo rC Cv hg=>?_) (.row (t:=t) (fz:=els.length) (by simp[aw.get]) rfl) (hr.up gy.o4 λf e=>by cases e;exact⟨m',rfl,gy.pM⟩)⟩;have hm:=aw.get_mem hg;cases b_.1 hm;exact gy.iW.holds _ (b_.2 rfl)
def kE(hS:S.OK){cd:Nat->Option TC}{d t n:Nat}{parts:List (Nat×bI)}:(j9 P E cd d t n parts).OK P ⟨dst,.buildSlice t n parts.toArray,ty,pos,aft,gd⟩ E H:=by
 unfold j9;split
 .rename_i e sz h1;split
  .rename_i c h2;split
   .rename_i zs h3
    cases hb:bm sz (zI S c)&&(cm (n*sz) 16777216&&(Ey n sz (parts.map λp=>(p.1,aV (eV E) p.2))).isSome)with
    |false=>trivial
    |true =>
     simp only[bn]at hb;have h_:=eb hb.1;subst h_;obtain⟨els,h4⟩:=Option.isSome_iff_exists.1 hb.2.2;obtain⟨h5,h6⟩:=zha hS h3
     have sI:els=(A.vs (parts.map λp=>iL E p.2)).map V.cells/\els.length=n:=by
      unfold Ey at h4;split at h4
      .rename_i hr;split at h4
       .cases h4;refine⟨?_,?_⟩
        .rw[wD];simp only[cU]
         exact fa λp _=>by simp[yu]
        .have:=aP ba hr;simpa using this
       .cases h4
      .cases h4
     have LI:(zs.map (Aa S c)).length=els.length:=by rw[sI.1];simp[uK,h6]
     suffices SX:EV.Loc P ⟨dst,.buildSlice t n parts.toArray,ty,pos,aft,gd⟩ (eV E) [] (.sl (zI S c) d n 0 n) [(d,.row e (zI S c) 0 (zs.map (Aa S c)))] by
      simp only[ct];split
      .intro F R hF hR;cases zk hF;cases zk hR;exact SX
      .intro F R hF hR;cases zk hF;cases zk hR;have:=zqe SX (by rw[LI];exact sI.2);simpa[hV,OA.o,Fz.n,A.v,oL]using this
     refine ac5 (fl:=els.flatten) (fl2:=(zs.map (Aa S c)).flatten) h1 hb.2.1 h4 rfl rfl (by rw[sI.1];exact h5) (by rw[LI];exact cC _) ?_ rfl
     exact bl.2 λy hy=>by obtain⟨z,_,rfl⟩:=bL.1 hy;rw[ju hS];exact cC _
   .trivial
  .trivial
 .trivial
def Xu{c:TC}(h:s6 c=bh):∀k e,c≠.m k e:=λk e e'=>by subst e';cases h
def zt5(hS:S.OK){k:Nat}{c:TC}{y:bI}{ys:List (c.ty S.T)}{kR:List Nat}{eq:List (Nat×Nat)}(h:Mg H k c (iL E y)=aY (ys,kR,eq))(heq:w7 eq){R:AH S.T}(hR:AR kR H=aY R):
  Src (zI S c) (hV R) (aV (eV E) y) (ys.map (Aa S c))/\AH.has k R=bf:=by
 rw[yu];unfold Mg at h;split at h
 .rename_i c' l e1;split at h
  .rename_i e;subst e;cases h;cases zk hR;rw[e1];exact⟨.vs _,rfl⟩
  .cases h
 .rename_i e1;cases h;cases zk hR;rw[e1];exact⟨.gg,rfl⟩
 .rename_i sz k' n e1;split at h
  .rename_i e' c' fz l wl hg;split at h
   .rename_i e;subst e
    cases hb:!(bm k k')&&bm sz (zI S c')with
    |false=>rw[hb]at h;cases h
    |true =>
     rw[hb]at h;cases h;simp only[bn,bX]at hb;have h_:=eb hb.2;subst h_;cases qW hg hR;rw[e1];have hn:n=l.length:=(heq _ (b_.2 rfl)).trans wl.h.symm;refine⟨.sl (t:=e') (fz:=fz.n l.length) ?_ (by rw[bM];exact hn),?_⟩
     .simp[hV,aw.get,OA.o,cC]
     .simp[AH.has,hb.1]
   .cases h
  .cases h
 .cases h
def zqf(hS:S.OK){cd:Nat->Option TC}{d t t':Nat}{x y:bI}:(Ro P E H cd d t t' x y).OK P ⟨dst,.call ⟨.builtin .append,#[x,y],#[t,t']⟩,ty,pos,aft,gd⟩ E H:=by
 unfold Ro;split
 .rename_i e sz bytes h1
  cases rR:bm t t'&&cm 1 bytes with
  |false=>trivial
  |true =>
   simp only[bn]at rR;have htt:=eb rR.1;subst htt;have UE:=mi rR.2
   have aaR:∀(c:TC)(ys:List (c.ty S.T)),(∀k e,c≠.m k e)->∀u∈ys.map (Aa S c),u.all V.one=bh:=λc ys hm u hu=>by obtain⟨z,_,rfl⟩:=bL.1 hu;exact zDc hS c z hm
   have lens:∀(c:TC)(ys:List (c.ty S.T)),∀u∈ys.map (Aa S c),u.length=zI S c:=λc ys u hu=>by obtain⟨z,_,rfl⟩:=bL.1 hu;exact ju hS c z
   dsimp only[ct];split
   .rename_i mo k n e1;split
    .rename_i e' c fz l wl hg;split
     .rename_i ys kR eq h2
      cases hb:bm e e'&&(bm mo sz&&(bm sz (zI S c)&&s6 c))with
      |false=>trivial
      |true =>
       simp only[bn]at hb;have q1:=eb hb.1;have q2:=eb hb.2.1;have q3:=eb hb.2.2.1;have hm:=Xu hb.2.2.2;subst q1;subst q2;subst q3;intro heq u hu a F' hr F R hF hR;cases hr;cases qW hg hF;have hn:n=l.length:=(heq _ ak).trans wl.h.symm;obtain⟨g1,g2⟩:=zt5 hS h2 (λp hp=>heq p (iO _ hp)) hR;have np:=yY hu;have rF:=cY (ft (l++ys).length UE) np;have hl:=AN (P:=P) (ρ:=eV E) (dst:=dst) (ty:=ty) (pos:=pos) (aft:=aft) (gd:=gd) (k:=k) (fz:=fz.n l.length) (L:=n) (els:=l.map (Aa S c)) (ys:=ys.map (Aa S c)) (R:=hV R) (n:=(l++ys).length) (all:=(l++ys).map (Aa S c)) h1 (by rw[yu,e1];rfl) (by rw[bM];exact hn.symm) g1 (aaR c ys hm) (lens c ys) (by rw[Hh];exact g2) (cX ..).symm (by rw[bM]) np ab
       have hz:Fz.n (l++ys).length (fz.grow l.length)=fz.n l.length:=by cases fz<;>rfl
       show EV.Loc P _ _ _ _ ((k,.row e (zI S c) (Fz.n (l++ys).length (fz.grow l.length)) ((l++ys).map (Aa S c)))::hV R)
       rw[hz];exact hl
     .trivial
    .trivial
   .rename_i e1;split
    .rename_i c j h2 h3;split
     .rename_i ys kR eq h4
      cases hb:bm sz (zI S c)&&(s6 c&&!(Ev x y))with
      |false=>trivial
      |true =>
       simp only[bn,bX]at hb;have q1:=eb hb.1;subst q1;have hm:=Xu hb.2.1;intro heq u hu a F' hr F R hF hR;cases hr;cases zk hF;obtain⟨g1,g2⟩:=zt5 hS h4 heq hR;have np:=yY hu;have rF:=cY (ft ys.length UE) np
       have hx:x=.tmp j:=by
        cases x<;>simp only[Xt]at h3<;>first|(cases h3;done)|(cases h3;rfl)
       subst hx
       have O1:y≠.tmp j:=λe=>by subst e;simp[Ev,cC]at hb
       have hl:=zel (P:=P) (ρ:=eV E) (dst:=dst) (ty:=ty) (pos:=pos) (aft:=aft) (gd:=gd) (d:=d) (ys:=ys.map (Aa S c)) (R:=hV R) (n:=ys.length) h1 (by rw[yu,e1];rfl) O1 g1 (aaR c ys hm) (lens c ys) (by rw[Hh];exact g2) (by rw[bM]) np ab;exact hl
     .trivial
    .trivial
   .trivial
 .trivial
end
end
section
variable{S:ni}
def P9(P:bo)(cd:Nat->Option TC)(d t:Nat):OR S:=match Cn P t with
 |some (kt,et)=>match cd kt,cd et with
  |some kc,aY ec=>.one [] [] (.raw (.mp d)) [(d,.map kc ec [])]
  |_,_=>.no
 |none=>.no
def Pv(kc ec:TC)[DecidableEq (kc.ty S.T)](k:Nat)(l:List (kc.ty S.T×ec.ty S.T))(a:kc.ty S.T)(z:ec.ty S.T)(co:Bool):OR S:=.one [] [k] (bif co then .iN [.lQ ec ((zr a l).getD z),.lQ .b (zr a l).isSome]else .lQ ec ((zr a l).getD z)) []
def Tt(kc ec:TC)[DecidableEq (kc.ty S.T)](k:Nat)(l:List (kc.ty S.T×ec.ty S.T))(a:kc.ty S.T)(b:ec.ty S.T):OR S:=.one [k] [] (.raw .no) [(k,.map kc ec (vW a b l))]
def Mh:DecidableEq (TC.ty S.T .s):=inferInstanceAs (DecidableEq aj)
def Mi(k:IntKind):DecidableEq (TC.ty S.T (.i k)):=inferInstanceAs (DecidableEq Int)
def Rq(P:bo)(H:AH S.T)(t:Nat)(x ix:A S.T)(co:Bool):OR S:=match Cn P t with
 |some (kt,et)=>match x,I0 P et with
  |.raw (.mp k),aY zv=>match H.get k,ix with
   |some (.map .s ec l),.lQ .s a=>match P.underlying kt,YX [] ec (tL zv)with
    |some .string,aY rx=>@Pv S .s ec Mh k l a rx.x co
    |_,_=>.no
   |some (.map (.i q) ec l),.lQ (.i q') a=>match P.underlying kt,YX [] ec (tL zv)with
    |some (.int Cd),aY rx=>if q'=q/\Cd=q then @Pv S (.i q) ec (Mi q) k l a rx.x co else .no
    |_,_=>.no
   |_,_=>.no
  |_,_=>.no
 |none=>.no
def Pw:A S.T->A S.T
 |.raw (.bool b)=>.lQ .b b
 |a=>a
def zt6(a:A S.T):(Pw a).v=a.v:=by
 unfold Pw;split
 .rfl
 .rfl
def JO(P:bo)(H:AH S.T)(t:Nat)(x ix y:A S.T):OR S:=match Cn P t with
 |some (kt,_)=>match x,Pw y with
  |.raw (.mp k),.lQ DF b=>match H.get k,ix with
   |some (.map .s ec l),.lQ .s a=>match P.underlying kt with
    |some .string=>if h:DF=ec then @Tt S .s ec Mh k l a (h▸b)else .no
    |_=>.no
   |some (.map (.i q) ec l),.lQ (.i q') a=>match P.underlying kt with
    |some (.int Cd)=>if h:DF=ec then(if q'=q/\Cd=q then @Tt S (.i q) ec (Mi q) k l a (h▸b)else .no)else .no
    |_=>.no
   |_,_=>.no
  |_,_=>.no
 |none=>.no
section
variable{P:bo}{E:AE S.T}{H:AH S.T}{dst:Option Tmp}{ty:bK}{pos:String}{aft:Array Edge}{gd:Option (Nat×Bool)}
def HM(hS:S.OK):∀(c:TC)(x:c.ty S.T),(oL S c x).refs=[]
 |.i _,_=>rfl
 |.b,_=>rfl
 |.s,_=>rfl
 |.y,_=>rfl
 |.a _ _,x=>by cases x<;>rfl
 |.l _,_=>rfl
 |.m _ _,_=>rfl
 |.st n,x=>by simp only[oL,V.refs];exact hS.refs n x
def ai5(hS:S.OK){v:V}{c:TC}{x:c.ty S.T}(h:au [] v (oL S c x))(m:Option M)(Z:ZM)(y:bx)(hr:aT m Z v y):aT m Z (oL S c x) y:=by
 cases m with
 |some m=>exact au.rep (w:=default) (λk t sz fz els e=>by cases e) h hr
 |none =>
  let m0:M:=λ_ _=>bg
  have h1:aT (aY m0) Z v y:=hr.BU;exact aT.flat _ _ (HM hS c x) (au.rep (w:=default) (λk t sz fz els e=>by cases e) h h1)
def zk9{cd:Nat->Option TC}{d t:Nat}:(P9 (S:=S) P cd d t).OK P ⟨dst,.makeMap t bg,ty,pos,aft,gd⟩ E H:=by
 unfold P9;split
 .split
  .intro F R hF hR;cases zk hF;cases zk hR;exact YO
  .trivial
 .trivial
def znx{kc ec:TC}(D:DecidableEq (kc.ty S.T)){val:kc.ty S.T->bx}{t kt et k:Nat}{x ix:bI}{l:List (kc.ty S.T×ec.ty S.T)}{a:kc.ty S.T}{z:ec.ty S.T}{zv:V}(co:Bool)(hT:Cn P t=aY (kt,et))(K:Di P kt (oL S kc) val)(hz:I0 P et=aY zv)
  (O2:∀(m:Option M)(Z:ZM)(y:bx),aT m Z zv y->aT m Z (oL S ec z) y) (hx:iL E x=.raw (.mp k)) (hi:(iL E ix).v=oL S kc a) (hg:H.get k=aY (.map kc ec l)):(Pv kc ec k l a z co).OK P ⟨dst,.lookup t x ix co,ty,pos,aft,gd⟩ E H:=by
 intro F R hF hR;cases zk hF;cases qW hg hR;have:=Vb (P:=P) (ρ:=eV E) (dst:=dst) (ty:=ty) (pos:=pos) (aft:=aft) (gd:=gd) (x:=x) (ix:=ix) (l:=l) (a:=a) co hT K hz O2 (by rw[yu,hx];rfl) (by rw[yu];exact hi)
 cases co with
 |true=>exact this
 |false=>exact this
def zt7(hS:S.OK){kc ec:TC}(D:DecidableEq (kc.ty S.T)){val:kc.ty S.T->bx}{t kt et k:Nat}{x ix y:bI}{l:List (kc.ty S.T×ec.ty S.T)}{a:kc.ty S.T}{b:ec.ty S.T}(hT:Cn P t=aY (kt,et))(K:Di P kt (oL S kc) val)
  (hx:iL E x=.raw (.mp k)) (hi:(iL E ix).v=oL S kc a) (hy:(iL E y).v=oL S ec b) (hg:H.get k=aY (.map kc ec l)):(Tt kc ec k l a b).OK P ⟨dst,.mapUpdate t x ix y,ty,pos,aft,gd⟩ E H:=by intro F R hF hR;cases zk hR;cases qW hg hF;exact jH (P:=P) (ρ:=eV E) (dst:=dst) (ty:=ty) (pos:=pos) (aft:=aft) (gd:=gd) (x:=x) (ix:=ix) (y:=y) (l:=l) (a:=a) (c:=b) hT K (by rw[yu,hx];rfl) (by rw[yu];exact hi) (by rw[yu];exact hy) (HM hS ec b) (HM hS kc a)
def zhb(hS:S.OK){ec:TC}{zv:V}{rx:Rx (ec.ty S.T)}(h:YX [] ec (tL zv)=aY rx)(m:Option M)(Z:ZM)(y:bx)(hr:aT m Z zv y):aT m Z (oL S ec rx.x) y:=by
 have h0:rx.fz=[]/\rx.eq=[]:=by
  unfold YX at h;split at h
  .rename_i HD e;cases h;exact zg8 e
  .split at h
   .cases ec<;>first|(cases h;done)|skip
    simp only[RY]at h;split at h
    .rename_i HD e;cases h;exact Qf _ _ _ _ _ e
    .cases h
   .cases h
 have hv:=YY hS (R:=[]) h (by rw[h0.2];intro p hp;cases hp) (by rw[h0.1];intro k hk;cases hk);rw[I4]at hv;exact ai5 hS hv m Z y hr
def zqg(hS:S.OK){t:Nat}{x ix:bI}{co:Bool}:(Rq P H t (iL E x) (iL E ix) co).OK P ⟨dst,.lookup t x ix co,ty,pos,aft,gd⟩ E H:=by
 unfold Rq;split
 .rename_i kt et hT;split
  .rename_i k zv hx hz;split
   .rename_i ec l a hg hi;split
    .rename_i rx hk hd;exact znx (val:=λs:aj=>.string ⟨s.toArray⟩) Mh co hT (YS hk) hz (zhb hS hd) hx (by rw[hi];rfl) hg
    .trivial
   .rename_i q ec l q' a hg hi;split
    .rename_i Cd rx hk hd;split
     .rename_i hq;obtain⟨rfl,rfl⟩:=hq;exact znx (val:=λn:Int=>.int Cd n) (Mi Cd) co hT (zgy hk) hz (zhb hS hd) hx (by rw[hi];rfl) hg
     .trivial
    .trivial
   .trivial
  .trivial
 .trivial
def Qg(hS:S.OK){t:Nat}{x ix y:bI}:(JO P H t (iL E x) (iL E ix) (iL E y)).OK P ⟨dst,.mapUpdate t x ix y,ty,pos,aft,gd⟩ E H:=by
 unfold JO;split
 .rename_i kt et hT;split
  .rename_i k DF b hx hy;split
   .rename_i ec l a hg hi;split
    .rename_i hk;split
     .rename_i e;subst e;exact zt7 hS (val:=λs:aj=>.string ⟨s.toArray⟩) Mh hT (YS hk) hx (by rw[hi];rfl) (by rw[<- zt6,hy];rfl) hg
     .trivial
    .trivial
   .rename_i q ec l q' a hg hi;split
    .rename_i Cd hk;split
     .rename_i e;subst e;split
      .rename_i hq;obtain⟨rfl,rfl⟩:=hq;exact zt7 hS (val:=λn:Int=>.int Cd n) (Mi Cd) hT (zgy hk) hx (by rw[hi];rfl) (by rw[<- zt6,hy];rfl) hg
      .trivial
     .trivial
    .trivial
   .trivial
  .trivial
 .trivial
def zt8(hS:S.OK){t:Nat}{x y:bI}:(R4 P H t (iL E x) (iL E y)).OK P ⟨dst,.store t x y,ty,pos,aft,gd⟩ E H:=by
 unfold R4;split
 .trivial
 .rename_i u hu;obtain⟨c1,c2⟩:=A.NO hS hu;split
  .rename_i k off e;split
   .rename_i bt cs hg
    cases hb:(A.vs u).all V.one&&(vJ P t u.length&&cm (off+u.length) cs.length)with
    |false=>trivial
    |true =>
     simp only[bn]at hb;intro F R hF hR;cases zk hR;cases qW hg hF;have hl:=zgh (P:=P) (ρ:=eV E) (dst:=dst) (ty:=ty) (pos:=pos) (aft:=aft) (gd:=gd) (t:=t) (k:=k) (off:=off) (bt:=bt) (a:=x) (x:=y) (cs:=A.vs cs) (by rw[yu,e];rfl) (by rw[yu];exact c2) (by rw[yu,<- c1];exact hb.1) (by rw[yu,<- c1,uK];exact hb.2.1) (by rw[yu,<- c1,uK,uK];exact mi hb.2.2);rw[yu,<- c1,uK]at hl
     show EV.Loc P _ _ [(k,.box bt (A.vs cs))] .no [(k,.box bt (A.vs (cs.take off++u++cs.drop (off+u.length))))]
     rw[Kk,Kk,wD (cs.take off),wD (cs.drop _),ef,eA,<- wD];exact hl
   .trivial
  .rename_i k L i off sz e;split
   .rename_i et c l wl hg
    cases hb:bm sz (zI S c)&&(vJ P t u.length&&((A.vs u).all V.one&&(iL E y).v.refs.isEmpty))with
    |false=>trivial
    |true =>
     simp only[bn]at hb;have h_:=eb hb.1;subst h_;intro heq z hz a F' hr F R hF hR;have hL:L=l.length:=(heq _ (b_.2 rfl)).trans wl.h.symm;dsimp only at hr;split at hr
     .rename_i cs nD;split at hr
      .rename_i z' rC DG hd
       cases pZ:cm (off+u.length) (zI S c)with
       |false=>rw[pZ]at hr;cases hr
       |true =>
        rw[pZ]at hr;cases hr;cases zk hR;cases qW hg hF;have hw:=P8 hS hd;have aax:=Yc hS _ _ _ _ nD;have ajP:=mi pZ;have hlen:=ju hS c z
        have mY:cs.length=zI S c:=by rw[<- hlen,<- aax,uK]
        have Bx:(aV (eV E) y).refs=[]:=by rw[yu];exact List.isEmpty_iff.1 hb.2.2.2
        refine zeh (et:=et) (sz:=zI S c) (fz:=0) (L:=L) (off:=i*zI S c+off) (cs:=Aa S c z) (c1:=A.vs (cs.take off++u++cs.drop (off+u.length))) (c2:=Aa S c z') i off (by rw[yu,e];rfl) (by rw[hL,bM]) rfl (by rw[cz,hz];rfl) (cH _)
         (by rw[yu];exact c2) (by rw[yu,<- c1];exact hb.2.2.1) Bx (by rw[yu,<- c1,uK];exact hb.2.1) (by rw[yu,<- c1,uK];exact pZ) ?_ hw ?_ (iE ..).symm
        .rw[yu,<- c1,Kk,Kk,wD (cs.take off),wD (cs.drop _),ef,eA,<- wD,aax,uK]
        .rw[uK,ju hS]
         have:(cs.take off++u++cs.drop (off+u.length)).length=zI S c:=by simp only[la,bY,cF];omega
         rw[this];exact cC _
      .cases hr
     .cases hr
   .trivial
  .trivial
end
end
end Go.EQ
namespace Go.EV
open Go Go.RowKit Go.lG
section
variable{P:bo}{f:FuncId}{args:List V}{F R:aw}{v:bx}{ρ:Env}
end
section
variable{K0:List Nat}{c:Ctx K0}{P:bo}{r:Option Nat}{N:Nat}{Q:xF}{ρ:Env}{H:aw}{ds:List cr}{all rest:List Oper}{o:Oper}{v:bx}
end
section
variable{K0:List Nat}{c:Ctx K0}{P:bo}{r:Option Nat}{N:Nat}{all:List Oper}{ds:List cr}{v:bx}
end
section
variable{P:bo}{N:Nat}{all:List Oper}{ρ:Env}{H:aw}{o:Oper}
def zDl{F R F':aw}{v:V}(i:Nat)(kF kR:List Nat)(ho:all[i]?=aY o)(hn:vu o.op=bh)(hd:(match o.dst with|some d=>cm (d+1) N|none=>bh)=bh)(hw:ye all ρ o=aY bh)
  (hF:kO kF H=aY F) (hR:kO kR H=aY R) (nI:nodupB (keys F'++kR)=bh) (S7:nodupB kF=bh) (pF:(kF.all (keys F').contains)=bh) (lR:(F'.all λp=>kF.contains p.1||!wj p.1 H)=bh)
  (hl:Loc P o ρ (F++R) v (F'++R)) (D5:(keys H).Nodup) {fp:FP} (hfi:fp.i=i) (hff:fp.fk=keys F') (afO:fp.rk=kR) (aiu:Eo P o ρ.get H.get (F'++js kF H).get v fp):(keys (F'++js kF H)).Nodup/\o8 P N all fp ρ.get H.get (W7 o.dst v ρ).get (F'++js kF H).get:=by
 subst hfi;obtain⟨BZ,GL⟩:=yX hF;obtain⟨Bs,GO⟩:=yX hR
 have Ju:∀p∈F',p.1 ∉ kF->p.1 ∉ keys H:=λp hp hk G1=>by
  have:=(bl.1 lR) p hp;simp only[dk,cv,aU,bX]at this
  rcases this with h'|h'
  .exact hk h'
  .rw[yt.2 G1]at h';cases h'
 have TF:(keys F').Nodup:=(cK.1 (yB nI)).1
 have TG:(keys (js kF H)).Nodup:=by
  have:(keys (js kF H))=(keys H).filter (λk=>!kF.contains k):=by simp only[keys,js];rw[gU];rfl
  rw[this];exact D5.filter _
 refine⟨?_,o,v,ho,hn,λd mA=>?_,PX _ _ _,.inr ⟨hw,F,R,F',?_,?_,?_,?_,hff.symm,Bs.trans afO.symm,λp hp=>?_,λk hk pI=>?_,?_,aiu⟩⟩
 .rw[zA];refine cK.2 ⟨TF,TG,λa ha b hb e=>?_⟩;subst e;obtain⟨p,hp,rfl⟩:=bL.1 ha;obtain⟨q,hq,e⟩:=bL.1 hb;have mZ:=dO.1 hq
  have OO:p.1 ∉ kF:=by have:=mZ.2;simp only[bX,cv,aW]at this;rw[<- e];exact this
  exact Ju p hp OO (by rw[<- e];exact ax mZ.1)
 .rw[mA]at hd;exact mi hd
 .exact Bb.congr (g:=aV ρ) hl λx _=>Rz ρ x
 .rw[zA,Bs];exact yB nI
 .rw[BZ];exact yB S7
 .intro k hk;rw[BZ]at hk;have:=(bl.1 pF) k hk;simpa using this
 .rcases bJ.1 hp with hp|hp
  .exact get_of_mem D5 (GL p hp)
  .exact get_of_mem D5 (GO p hp)
 .obtain⟨p,hp,rfl⟩:=bL.1 hk;exact get_none.1 (Ju p hp (BZ▸pI))
 .funext k
  rw[get_append];by_cases h1:k∈keys F'
  .simp[YQ,h1]
  .rw[aN h1,xz h1]
   refine HJ λhk=>h1 ?_
   have:=(bl.1 pF) k hk;simpa using this
end
end Go.EV
namespace Go.EQ
open Go Go.RowKit Go.lG Go.EV
mutual
def P_{σ:Nat->Nat}:∀v:V,v.refs=[]->v.fM σ=v
 |.undef,_=>rfl
 |.no,_=>rfl
 |.int ..,_=>rfl
 |.bool _,_=>rfl
 |.str _,_=>rfl
 |.mx,_=>rfl
 |.ptr ..,h=>by simp[V.refs]at h
 |.vp ..,_=>rfl
 |.gg,_=>rfl
 |.sl ..,h=>by simp[V.refs]at h
 |.vs ..,_=>rfl
 |.fn f a b,h=>by
  simp only[V.refs,eG]at h;simp only[V.fM,Ac a h.1,Ac b h.2]
 |.nd,_=>rfl
 |.agg cs,h=>by simp only[V.fM,Ac cs h]
 |.iN xs,h=>by simp only[V.fM,Ac xs h]
 |.mD,_=>rfl
 |.mp _,h=>by simp[V.refs]at h
 |.nM,_=>rfl
 |.mP t v,h=>by simp only[V.fM,P_ v h]
 |.gv ..,h=>by simp[V.refs]at h
 |.pv _,_=>rfl
def Ac{σ:Nat->Nat}:∀vs:List V,wh vs=[]->rr σ vs=vs
 |[],_=>rfl
 |v::vs,h=>by simp only[wh,eG]at h;simp only[rr,P_ v h.1,Ac vs h.2]
end
section
variable{S:ni}
mutual
def A.fM(σ:Nat->Nat):A S.T->A S.T
 |.raw v=>.raw (v.fM σ)
 |.lQ c x=>.lQ c x
 |.ag cs=>.ag (A.rZ σ cs)
 |.iN xs=>.iN (A.rZ σ xs)
 |.rh sz k n=>.rh sz (σ k) n
 |.oh k=>.oh (σ k)
 |.nh sz k n=>.nh sz (σ k) n
 |.rp k L i off sz=>.rp (σ k) L i off sz
 |.vp c x off=>.vp c x off
 |.fn f a b=>.fn f (A.rZ σ a) (A.rZ σ b)
 |.mP t a=>.mP t (a.fM σ)
def A.rZ(σ:Nat->Nat):List (A S.T)->List (A S.T)
 |[]=>[]
 |a::r=>a.fM σ::A.rZ σ r
end
def OA.fM(σ:Nat->Nat):OA S.T->OA S.T
 |.box t cs=>.box t (A.rZ σ cs)
 |o=>o
def HC(σ:Nat->Nat)(F:AH S.T):AH S.T:=F.map λp=>(σ p.1,p.2.fM σ)
mutual
def IZ(hS:S.OK){σ:Nat->Nat}:∀a:A S.T,(a.fM σ).v=a.v.fM σ
 |.raw _=>by simp only[A.fM,A.v]
 |.lQ c x=>by simp only[A.fM,A.v];exact(P_ _ (HM hS c x)).symm
 |.ag cs=>by simp only[A.fM,A.v,V.fM,HN hS cs]
 |.iN xs=>by simp only[A.fM,A.v,V.fM,HN hS xs]
 |.rh ..=>by simp only[A.fM,A.v,V.fM]
 |.oh ..=>by simp only[A.fM,A.v,V.fM]
 |.nh ..=>by simp only[A.fM,A.v,V.fM]
 |.rp ..=>by simp only[A.fM,A.v,V.fM]
 |.vp ..=>by simp only[A.fM,A.v,V.fM]
 |.fn f a b=>by simp only[A.fM,A.v,V.fM,HN hS a,HN hS b]
 |.mP t a=>by simp only[A.fM,A.v,V.fM,IZ hS a]
def HN(hS:S.OK){σ:Nat->Nat}:∀l:List (A S.T),A.vs (A.rZ σ l)=rr σ (A.vs l)
 |[]=>by simp only[A.rZ,A.vs,rr]
 |a::r=>by simp only[A.rZ,A.vs,rr,IZ hS a,HN hS r]
end
def WS(hS:S.OK){σ:Nat->Nat}:∀o:OA S.T,(o.fM σ).o=o.o.fM σ
 |.box t cs=>by simp only[OA.fM,OA.o,Obj.fM,HN hS]
 |.row ..=>rfl
 |.map ..=>rfl
 |.rw i=>by simp only[OA.fM,OA.o,hS.aaV]
 |.gn ..=>by simp only[OA.fM,OA.o,hS.aaq]
structure Ct(S:ni) where
 ins:List Tp
 hin:List (Nat×TO)
 ci:List TC
 out:Tp
 lZ:List (Nat×TO)
 co:List TC
 alt:Bool
 fn:HL S.T ci->Option (HL S.T co)
def Ct.OK(P:bo)(f:Nat)(c:Ct S):Prop:=∀x r,c.fn x=aY r ->
 mz P f (A.vs (Tp.mJ c.hin (wZ c.ci x) c.ins)) (hV (We c.hin (wZ c.ci x))) (c.out.put c.lZ (wZ c.ci x++wZ c.co r)).v (hV (We c.lZ (wZ c.ci x++wZ c.co r)))
end
mutual
/-- The names in a template. -/
def Tp.names:Tp->List Nat
 |.ptr k _=>[k]
 |.mp k=>[k]
 |.row _ k=>[k]
 |.om k=>[k]
 |.tU _ k=>[k]
 |.rp _ k _ _=>[k]
 |.ag l=>Tp.zJ l
 |.iN l=>Tp.zJ l
 |.fn _ a b=>Tp.zJ a++Tp.zJ b
 |.mP _ a=>a.names
 |_=>[]
def Tp.zJ:List Tp->List Nat
 |[]=>[]
 |t::r=>t.names++Tp.zJ r
end
def TO.names:TO->List Nat
 |.box _ cs=>Tp.zJ cs
 |_=>[]
section
variable{S:ni}
mutual
def P'(hS:S.OK){hp:List (Nat×TO)}{ds:List (Dy S.T)}:∀t:Tp,(t.put hp ds).v.refs=t.names
 |.mx=>by simp only[Tp.put,A.v,V.refs,Tp.names]
 |.gg=>by simp only[Tp.put,A.v,V.refs,Tp.names]
 |.nd=>by simp only[Tp.put,A.v,V.refs,Tp.names]
 |.mD=>by simp only[Tp.put,A.v,V.refs,Tp.names]
 |.nM=>by simp only[Tp.put,A.v,V.refs,Tp.names]
 |.no=>by simp only[Tp.put,A.v,V.refs,Tp.names]
 |.L9=>by simp only[Tp.put,A.v,V.refs,Tp.names]
 |.d c j=>by simp only[Tp.put,A.v,Tp.names];exact HM hS c _
 |.ptr ..=>by simp only[Tp.put,A.v,V.refs,Tp.names]
 |.mp _=>by simp only[Tp.put,A.v,V.refs,Tp.names]
 |.row ..=>by simp only[Tp.put,A.v,V.refs,Tp.names]
 |.om _=>by simp only[Tp.put,A.v,V.refs,Tp.names]
 |.tU ..=>by simp only[Tp.put,A.v,V.refs,Tp.names]
 |.rp ..=>by simp only[Tp.put,A.v,V.refs,Tp.names]
 |.ci ..=>by simp only[Tp.put,A.v,oL,V.refs,Tp.names]
 |.ag l=>by simp only[Tp.put,A.v,V.refs,Tp.names];exact jI hS l
 |.iN l=>by simp only[Tp.put,A.v,V.refs,Tp.names];exact jI hS l
 |.fn f a b=>by simp only[Tp.put,A.v,V.refs,Tp.names,jI hS a,jI hS b]
 |.mP t a=>by simp only[Tp.put,A.v,V.refs,Tp.names];exact P' hS a
def jI(hS:S.OK){hp:List (Nat×TO)}{ds:List (Dy S.T)}:∀l:List Tp,wh (A.vs (Tp.mJ hp ds l))=Tp.zJ l
 |[]=>by simp only[Tp.mJ,A.vs,wh,Tp.zJ]
 |t::r=>by simp only[Tp.mJ,A.vs,wh,Tp.zJ,P' hS t,jI hS r]
end
def AS(ins:List Tp)(hin:List (Nat×TO)):Bool:=(Tp.zJ ins).all (hin.map (·.1)).contains&&hin.all λp=>p.2.names.all (hin.map (·.1)).contains
def kT{hp:List (Nat×TO)}{ds:List (Dy S.T)}:keys (hV (We (S:=S) hp ds))=hp.map (·.1):=by simp only[ztr,We,cU];rfl
def Vh(hS:S.OK){ins:List Tp}{hin:List (Nat×TO)}{ds:List (Dy S.T)}(h:AS ins hin=bh):EV.Kx (A.vs (Tp.mJ hin ds ins)) (hV (We hin ds))=bh:=by
 simp only[AS,bn]at h;simp only[EV.Kx,bn,jI hS,kT];refine⟨h.1,bl.2 λp hp=>?_⟩;simp only[hV,We,cU,bL]at hp;obtain⟨q,hq,rfl⟩:=hp;have:=(bl.1 h.2) q hq;obtain⟨k,o⟩:=q
 cases o with
 |box t cs=>simpa[OA.o,TO.put,Obj.refs,jI hS,TO.names]using this
 |row=>rfl
 |map=>rfl
 |rw i=>show((S.ro i).refs.all _)=bh;rw[hS.Tl];rfl
 |gn i c j=>show((S.go i c (Wd ds j c)).refs.all _)=bh;rw[hS.SQ];rfl
end
end Go.EQ
