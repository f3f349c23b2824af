/- texts that the proof reaches, part 2 -/
import Derived.Test.YtkmjhipiiifekaaGreatDoorKa
import Derived.Sort.Row
import Derived.Sort.Grow
import Derived.Lib.SlicesCompact
import Derived.MapKept
import Derived.Maps.RangeRun
import Derived.Laws.MakeOwn
import Derived.Scope
import Derived.Laws.BytesArg
import Derived.Lib.FrozenHead
import Derived.Laws.IdiomRangeMap
import Derived.ChangeKeysEq
set_option linter.all false
open Array renaming getElem?_eq_some_iff->bP,getElem?_modify->dp,getElem?_append_left->dZ,toList_modify->eP,toList_push->fq
open Bool renaming false->bf,true->bg,not_eq_true'->bL,or_eq_true->cM,eq_iff_iff->ek,and_self->fU
open Go renaming Program->bl,TypeId->bu,Value->bw,Operand->bE,World->bG,execOp->bU,Deferred->ca
open Int renaming toNat->bB
open List renaming length->ba,all_eq_true->bm,mem_cons->bo,getElem?_eq_some_iff->bq,getElem?_eq_getElem->bx,mem_map->bF,mem_append->bI,mem_append_left->bJ,length_map->bM,mem_append_right->bO,eq_nil_of_length_eq_zero->bW,contains_eq_mem->bX,replicate->bY,getElem?_take->cb,nil_append->cq,nodup_cons->cr,mem_map_of_mem->cv,getElem?_map->cw,append_nil->cy,nodup_append->cz,map_map->cF,flatten_cons->cI,cons_append->cK,map->cN,map_append->cO,getElem?_append_left->cR,length_drop->cS,length_set->da,range->dc,nodup_nil->dj,map_nil->dm,getElem_of_mem->dn,getElem_mem->dq,mem_filter->du,drop_eq_nil_of_le->dx,perm_append_comm->dA,length_nil->dD,take_left->dH,append_eq_nil_iff->dL,getElem?_append_right->dX,map_congr_left->eg,map_take->eh,map_drop->ej,isEmpty_iff->eG,mem_nil_iff->eE,getElem?_set_ne->eK,flatten_append->eO,getElem_modify->eQ,pairwise_iff_getElem->fm,drop_eq_getElem_cons->fi,getElem?_cons_succ->fB,isEmpty->fH,take_append_drop->fK,length_modify->fX,map_replicate->fW,filter_map->gF,drop_left->gI,drop->gN,mem_set->gO,map_set->gQ
open Nat renaming beq->bk,ble->ck,zero_add->cj,beq_refl->cl,zero_le->cx,zero_mul->dw,ble_eq_true_of_le->dB,le_trans->dN,add_zero->ea,le_mul_of_pos_right->eu,mul_one->fM
open Option renaming some->aY,none->bh,isSome_iff_exists->cE,map_some->cP,bind_eq_some_iff->cQ
namespace Go.EV
open Go Go.RowKit Go.lA
def Cq(P:bl)(o:Oper)(ρ:Env)(f:FuncId)(vs:List V):Prop:=
 ∀ρr m Z w,(∀x∈o.op.operands,dQ (aY m) Z (fQ ρ x) (ev ρr x))->∃vals:List bw,zu (aY m) Z vs vals/\∀Rr:bw->bG->Prop,(Calls P f vals.toArray w λen w'=>∃x,en=.returned x/\Rr x w')->Bp P o ρr w Rr
section
variable{P:bl}{ρ:Env}{dst:Option Tmp}{ty:bu}{pos:String}{aft:Array Edge}{gd:Option (Nat×Bool)}{f:FuncId}{l:List bE}{ts:Array bu}{args:List V}{F F' R:aw}{r:V}
def zkb{vs:List V}(hf:zb P f)(he:l.map (fQ ρ)=vs):Cq P ⟨dst,.call ⟨.value (.func f),l.toArray,ts⟩,ty,pos,aft,gd⟩ ρ f vs:=λρr m Z w gY=>by subst he;exact⟨_,zu.tmps (ρ:=ρ) l λx hx=>gY x (by simp[Op.operands,Call.operands,hx]),λRr h=>zmy hf h⟩
def znb{ρr:ye}{w:bG}{x:bE}{l1 l2:List bw}(hx:ev ρr x=.func (.func f) l1.toArray l2.toArray)(hf:zb P f):
  (bU (ev ρr) ⟨dst,.call ⟨.value x,l.toArray,ts⟩,ty,pos,aft,gd⟩).run P w=.ok (.enter f (l1++l.map (ev ρr)++l2).toArray) w:=by
 obtain⟨fn,h1,h2,h3⟩:=hf
 have sH : ¬ fn.name = "runtime.NumGoroutine" := by simpa using h2
 have sI:¬fn.body=bh:=by intro e;rw[e]at h3;cases h3
 simp[bU,resolve,hx,Deferred.ofValue,invoke,callFunc,program,Sem.run,h1,sH,sI]
def znc{vs first ml:List V}{x:bE}(hf:zb P f)(hx:fQ ρ x=.fn f first ml)(he:first++l.map (fQ ρ)++ml=vs):Cq P ⟨dst,.call ⟨.value x,l.toArray,ts⟩,ty,pos,aft,gd⟩ ρ f vs:=λρr m Z w gY=>by subst he;have h:=gY x (by simp[Op.operands,Call.operands]);rw[hx]at h;obtain⟨l1,l2,e,h1,h2⟩:=h;exact⟨l1++l.map (ev ρr)++l2,(h1.append (zu.tmps (ρ:=ρ) l λx hx=>gY x (by simp[Op.operands,Call.operands,hx]))).append h2,λRr h=>⟨rfl,.inr (.inr ⟨f,_,w,znb e hf,h⟩)⟩⟩
def znd{o:Oper}{vs:List V}(σ:List (Nat×Nat))(hc:Cq P o ρ f vs)(h:mN P f args F r F')(hv:vB R vs (ZF (j_ σ) args))(hR:iw R=R)(rV:nodupB ((keys F').map (j_ σ))=bg)(mR:Kl args F=bg)(nU:((keys F).all (keys F').contains)=bg)
  (tt:((keys (HQ (j_ σ) F')).all λk=>!(jP k R))=bg):
  Loc P o ρ (HQ (j_ σ) F++R) (r.gz (j_ σ)) (HQ (j_ σ) F'++R):=by
 intro ρr m Z w gY hs mf;obtain⟨vals,NJ,hex⟩:=hc ρr m Z w gY
 have C2:∀k t sz fz els,R.get k=aY (.row t sz fz els)->Holds m Z w k (.row t sz els.length els):=λk t sz fz els hg=>by
  have lg:=aw.get_mem hg;have h1:=hs.holds _ (bO _ lg)
  have:fz=els.length:=by
   rw[<- hR]at lg
   rcases jC lg with⟨k',t',lz,nw,tR,h2,h3⟩|⟨h2,h3⟩
   .simp only[Prod.mk.injEq,Obj.row.injEq]at h3;obtain⟨_,_,_,e1,e2⟩:=h3;rw[e1,e2]
   .exact aQ rfl (h3 t sz fz els)
  subst this;exact h1
 have NN:=vB.rep C2 hv NJ
 have Xa:∀p∈HQ (j_ σ) F',∀q∈R,p.1≠q.1:=λp hp q hq e=>by have:=(bm.1 tt) p.1 (ax hp);simp only[bL]at this;rw[e,yp.2 (ax hq)]at this;cases this
 refine hex _ (Calls.mono (h.at rV mR nU w m Z _ hs.left NN λk hk na L=>mf k (by rw[zr];exact bJ _ hk) (λh'=>?_) L) ?_)
 .rw[zr,bI]at h'
  rcases h' with h'|h'
  .exact na h'
  .obtain⟨p,hp,e1⟩:=bF.1 hk;obtain⟨q,hq,e2⟩:=bF.1 h';exact Xa p hp q hq (e1.trans e2.symm)
 .rintro en w' ⟨x,m',Z',he,iy,hr⟩;exact⟨x,he,m',Z',Step.By hs iy Xa,hr⟩
def zkc{o:Oper}{vs:List V}(hc:Cq P o ρ f vs)(h:mN P f args [] r [])(hv:vB R vs args)(hb:r.bare=bg)(tz:r.refs=[])(C_:y8 args=[]):
  Loc P o ρ R r R:=by
 intro ρr m Z w gY hs mf;obtain⟨vals,NJ,hex⟩:=hc ρr m Z w gY;have iy:=Step.freeze hs;have ae2:zu (aY m) (nB m Z R w) vs vals:=NJ.up iy.ng (λg e=>by cases e;exact⟨m,rfl,λ_ _ _ e=>e⟩)
 have C2:∀k t sz fz els,R.get k=aY (.row t sz fz els)->Holds m (nB m Z R w) w k (.row t sz els.length els):=λk t sz fz els hg=>by
  refine iy.iV.holds (k,.row t sz els.length els) ?_
  have:∀(F:aw),(k,Obj.row t sz fz els)∈F->(k,Obj.row t sz els.length els)∈iw F:=λF=>by
   induction F with
   |nil=>intro h;cases h
   |cons p F ih =>
    intro h;obtain⟨k',o'⟩:=p
    rcases bo.1 h with h1|h1
    .cases h1;exact ak
    .cases o'<;>exact iT _ (ih h1)
  exact this R (aw.get_mem hg)
 have NN:=vB.rep C2 hv ae2
 let m0:M:=λ_ _=>bh
 have ae1:zu (aY m0) (nB m Z R w) args vals:=NN.swap λk hk=>by rw[C_]at hk;cases hk
 refine hex _ (Calls.mono (h w m0 (nB m Z R w) _ ⟨iy.iV.frozen,λp hp=>(by cases hp),dj,λp hp=>(by cases hp)⟩ ae1 λ_ _ _=>rfl) ?_);rintro en w' ⟨x,m',Z',he,Ek,hr⟩
 have NM:∀b,b<w.heap.size->w'.heap[b]?=w.heap[b]?:=λb hb=>Ek.frame b hb λp hp=>by cases hp
 refine⟨x,he,m,Z,⟨⟨λa y ha=>?_,λp hp=>?_,hs.nodup,hs.nT⟩,λ_ _ _ e=>e,λ_ _ e=>e,Ek.os,Ek.tape,Ek.output,Ek.size,λb hb _=>NM b hb,λ_ h=>h,λ_ _=>rfl,λp hp b hb=>.inr ⟨p,hp,hb⟩,λ_ _ h=>.inl h⟩,?_⟩
 .rw[kT (NM _ (xo hs.frozen ha))];exact hs.frozen a y ha
 .exact(hs.holds p hp).keep (λ_ _ _ e=>e) rfl (λ_ _ e=>e) λb hb=>⟨NM b ((hs.holds p hp).gT b hb),λ_ _ e _=>e⟩
 .have h1:dQ bh Z' r x:=dQ.flat r x tz hr;exact dQ.tV (dQ.bare r x hb h1)
end
def Jt{α:Type}(f:α->V):∀l:List α,(l.map λa=>[f a]).flatten=l.map f
 |[]=>rfl
 |a::l=>by simp[Jt f l]
def AU{α:Type}{enc:α->V}{f:α->bw}{m:Option M}{Z:ZM}(h:∀a x,dQ m Z (enc a) x->x=f a):∀{l:List α}{xs:List bw},zu m Z (l.map enc) xs->xs=l.map f
 |[],xs,hx=>hx
 |a::l,xs,hx=>by obtain⟨x,xs,rfl,h1,h2⟩:=hx;rw[h a x h1,AU h h2];rfl
def kU{α:Type}{enc:α->V}{f:α->bw}{m:Option M}{Z:ZM}(h:∀a,dQ m Z (enc a) (f a)):∀l:List α,zu m Z (l.map enc) (l.map f)
 |[]=>rfl
 |a::l=>⟨_,_,rfl,h a,kU h l⟩
section
variable{α:Type}[Inhabited α]{enc:α->V}{f:α->bw}{m:M}{Z:ZM}{w:bG}{k e:Nat}{l l':List α}
def SH(h1:∀Z a x,dQ bh Z (enc a) x->x=f a)(h2:∀Z a,dQ bh Z (enc a) (f a))(hl:l'.length=l.length)(hs:kp m Z [(k,.row e 1 0 (l.map λa=>[enc a]))] w){b cap:Nat}(hm:m k l.length=aY (b,cap))(hc:0<cap):
  Sort.Holds f w b 0 l.toArray/\b<w.heap.size/\l.length<=cap/\cap<=maxLen/\∀n os,Step m Z [(k,.row e 1 0 (l.map λa=>[enc a]))] w m Z [(k,.row e 1 0 (l'.map λa=>[enc a]))] (Sort.grow (Sort.putRow f (Sort.ahead w n) b 0 l'.toArray) os):=by
 have hh:=hs.holds _ (gX.2 rfl)
 rcases hh with⟨_,_,_,⟨b',ll⟩,hle⟩|⟨b',pT,cur,fr,g1,g0,g2,g3,g4,g5,g6,g7,g8,g9,g10,g11,g12,g13⟩
 .have:=hle _ _ hm;have h0:l.length=0:=ab;rw[h0]at hm;rw[hm]at ll;cases ll;omega
 .simp only[bM]at g1 g3 g7 g10 g12;rw[hm]at g1;cases g1;rw[Jt]at g7;have OW:=AU (h1 Z) g7;rw[fM]at OW g5;have hb:b<w.heap.size:=(bP.1 g2).1;refine⟨λj hj=>?_,hb,g3,g4,λn os=>?_⟩
  .simp only[List.size_toArray]at hj
   have tv:j<cur.toList.length:=by simp;omega
   have e1:(cur.toList.take l.length)[j]?=(l.map f)[j]?:=by rw[OW]
   rw[cb,aO hj]at e1
   have e2:cur[j]?=aY (f l.toArray[j]!):=by have e3:cur[j]?=cur.toList[j]?:=ae;rw[e3,e1];simp[bx hj,hj]
   refine⟨?_,?_⟩
   .rw[cell_of_row w b _ cur e _ g2,cj];exact e2
   .have:fr.2=0:=ab;simp[World.frozen?,g2,this]
  .have aef:(Sort.grow (Sort.putRow f (Sort.ahead w n) b 0 l'.toArray) os).heap[b]?=aY (.cells (Sort.putCells f 0 l'.toArray cur) e fr):=by simp only[Sort.grow,Sort.putRow,Sort.mapBlock,Sort.ahead];rw[dZ (by simpa using hb),dp,aO rfl,g2];rfl
   have Xj:∀i,i<w.heap.size->i≠b->(Sort.grow (Sort.putRow f (Sort.ahead w n) b 0 l'.toArray) os).heap[i]?=w.heap[i]?:=λi hi lE=>by simp only[Sort.grow,Sort.putRow,Sort.mapBlock,Sort.ahead];rw[dZ (by simpa using hi),dp,aN (λh=>lE h.symm)]
   have nf:gT m (k,Obj.row e 1 0 (l.map λa=>[enc a])) b:=by have:cap≠0:=ab;simp[gT,qK,Obj.iZ,hm,this]
   refine⟨⟨λa x ha=>?_,λp hp=>?_,by simp[keys],λp hp q hq b _ _=>?_⟩,λ_ _ _ h=>h,λ_ _ h=>h,rfl,rfl,rfl,by simp[Sort.grow,Sort.putRow,Sort.mapBlock,Sort.ahead],λi hi lE=>?_,λk hk=>by simpa[keys]using hk,λ_ _=>rfl,λp hp i hi=>.inr ⟨_,gX.2 rfl,?_⟩,λ_ _ h=>.inl h⟩
   .have lE:a.block≠b:=λIi=>by have:=g11 a x ha Ii;omega
    have iB:a.block<w.heap.size:=xo hs.frozen ha;rw[kT (Xj _ iB lE)];exact hs.frozen a x ha
   .rw[gX]at hp;subst hp;refine .inr ⟨b,cap,_,fr,?_,hc,aef,?_,g4,?_,ab,?_,?_,ab,ae,λa x ha Ii=>?_,λL loc hL=>?_,λoff x ho=>ab⟩
    .simpa[hl]using hm
    .simpa[hl]using g3
    .simp[Sort.putCells];omega
    .rw[Jt]
     have e5:(Sort.putCells f 0 l'.toArray cur).toList.take ((l'.map λa=>[enc a]).length*1)=l'.map f:=by
      apply List.ext_getElem?;intro j;rw[cb];by_cases hj:j<l'.length
      .have EP:j<cur.size:=ab;rw[aO (by simpa using hj)];simp[Sort.putCells,EP,hj]
      .rw[aN (by simpa using hj),List.getElem?_eq_none (by simp;omega)]
     rw[e5];exact kU (h2 Z) l'
    .intro z hz;obtain⟨a,_,rfl⟩:=bF.1 hz;rfl
    .have:=g11 a x ha Ii;omega
    .simpa[hl]using g12 L loc hL
   .rw[gX]at hp hq;subst hp;subst hq;rfl
   .exact Xj i hi λIv=>lE _ (gX.2 rfl) (by rw[Iv];exact nf)
   .rw[gX]at hp;subst hp
    have:gT m (k,Obj.row e 1 0 (l'.map λa=>[enc a]))=gT m (k,Obj.row e 1 0 (l.map λa=>[enc a])):=by funext b;simp[gT,qK,Obj.iZ,hl]
    rw[<- this];exact hi
variable{P:bl}{F:FuncId}
def SI{m:M}{k n:Nat}{els:List (List V)}(hs:kp m Z [(k,.row e 1 0 els)] w){b:Nat}(h:m k els.length=aY (b,0)):els=[]:=by
 have hh:=hs.holds _ (gX.2 rfl)
 rcases hh with⟨_,h0,_⟩|⟨b',pT,cur,fr,g1,g0,_⟩
 .exact h0
 .rw[h]at g1;cases g1;omega
def zsr(h1:∀Z a x,dQ bh Z (enc a) x->x=f a)(h2:∀Z a,dQ bh Z (enc a) (f a))(hl:l'.length=l.length)
  (hc:∀(gT cap:Nat) w,Sort.Holds f w gT 0 l.toArray->gT<w.heap.size->l.length<=maxLen->Calls P F #[.slice (aY ⟨gT,0,bh⟩) l.length cap] w λen w'=>en=.returned (.tuple #[])/\∃n os,w'=Sort.grow (Sort.putRow f (Sort.ahead w n) gT 0 l'.toArray) os)
  (nJ:∀A c w,Calls P F #[.slice A 0 c] w λen w'=>en=.returned (.tuple #[])/\w'=w):
  mN P F [.sl 1 k l.length 0 l.length] [(k,.row e 1 0 (l.map λa=>[enc a]))] (.ij []) [(k,.row e 1 0 (l'.map λa=>[enc a]))]:=by
 rintro w m Z vals hs ⟨x,xs,rfl,hx,pJ⟩ _;cases pJ;obtain⟨f',⟨b,cap⟩,e1,e2,e3,e4,hx⟩:=hx;cases e1
 have Ec:cap=0->l=[]/\l'=[]:=λh0=>by
  subst h0;have:=SI (n:=0) (els:=l.map λa=>[enc a]) hs (by simpa using e2)
  have h:l=[]:=by simpa using this
  refine⟨h,bW (by rw[hl,h];rfl)⟩
 have hz:∀A c,l=[]->l'=[]->Calls P F #[.slice A 0 c] w λen w'=>∃x m' Z',en=.returned x/\Step m Z [(k,.row e 1 0 (l.map λa=>[enc a]))] w m' Z' [(k,.row e 1 0 (l'.map λa=>[enc a]))] w'/\dQ (aY m') Z' (.ij []) x:=λA c h h'=>by
  subst h h'
  refine Calls.mono (nJ A c w) λen w' ⟨he,hw⟩=>?_
  subst hw;exact⟨_,m,Z,he,Step.refl hs,[],rfl,rfl⟩
 rcases hx with rfl|⟨h0,A,rfl⟩|⟨h0,_⟩
 .by_cases h0:cap=0
  .obtain⟨rfl,rfl⟩:=Ec h0;exact hz _ _ rfl rfl
  .obtain⟨g1,g2,g3,g4,g5⟩:=SH (l':=l') h1 h2 hl hs e2 ab;have:=hc b (cap-0) w g1 g2 ab;simp only[dw]at this ⊢
   refine Calls.mono this λen w' ⟨he,n,os,hw⟩=>?_
   subst hw;exact⟨_,m,Z,he,g5 n os,[],rfl,rfl⟩
 .have B4:cap=0:=h0;obtain⟨rfl,rfl⟩:=Ec B4;exact hz _ _ rfl rfl
 .omega
def zft{c:List α}{z:α}(h1:∀Z a x,dQ bh Z (enc a) x->x=f a)(h2:∀Z a,dQ bh Z (enc a) (f a))(hl:c.length<=l.length)
  (hc:∀(gT cap:Nat) w,Sort.Holds f w gT 0 l.toArray->l.length<=cap->l.length<=maxLen->Calls P F #[.slice (aY ⟨gT,0,bh⟩) l.length cap] w λen w'=>en=.returned (.slice (aY ⟨gT,0,bh⟩) c.length cap)/\∃q,w'=Sort.putRow f (Sort.ahead w q) gT 0 (c++bY (l.length-c.length) z).toArray)
  (nJ:∀A cp w,Calls P F #[.slice A 0 cp] w λen w'=>en=.returned (.slice A 0 cp)/\w'=w):
  mN P F [.sl 1 k l.length 0 l.length] [(k,.row e 1 0 (l.map λa=>[enc a]))] (.vs 1 (c.map λa=>[enc a])) [(k,.row e 1 l.length ((c++bY (l.length-c.length) z).map λa=>[enc a]))]:=by
 rintro w m Z vals hs ⟨x,xs,rfl,hx,pJ⟩ _;cases pJ;obtain⟨f',⟨b,cap⟩,e1,e2,e3,e4,hx⟩:=hx;cases e1
 have hlen:(c++bY (l.length-c.length) z).length=l.length:=by simp;omega
 have Ec:cap=0->l=[]/\c=[]:=λh0=>by
  subst h0;have:=SI (n:=0) (els:=l.map λa=>[enc a]) hs (by simpa using e2)
  have h:l=[]:=by simpa using this
  refine⟨h,bW (by rw[h]at hl;simpa using hl)⟩
 have hz:∀A cp,cp<=maxLen->l=[]->c=[]->Calls P F #[.slice A 0 cp] w λen w'=>∃x m' Z',en=.returned x/\Step m Z [(k,.row e 1 0 (l.map λa=>[enc a]))] w m' Z' [(k,.row e 1 l.length ((c++bY (l.length-c.length) z).map λa=>[enc a]))] w'/\dQ (aY m') Z' (.vs 1 (c.map λa=>[enc a])) x:=λA cp Io h h'=>by
  subst h h'
  refine Calls.mono (nJ A cp w) λen w' ⟨he,hw⟩=>?_
  subst hw;exact⟨_,m,Z,he,Step.refl hs,A,cp,rfl,cx _,Io,.inl rfl⟩
 rcases hx with rfl|⟨h0,A,rfl⟩|⟨h0,_⟩
 .by_cases h0:cap=0
  .obtain⟨rfl,rfl⟩:=Ec h0;exact hz _ _ (by simp;exact e4) rfl rfl
  .obtain⟨g1,g2,g3,g4,g5⟩:=SH (l':=c++bY (l.length-c.length) z) h1 h2 hlen hs e2 ab;have:=hc b (cap-0) w g1 (by simpa using g3) (dN g3 e4);simp only[dw]at this ⊢
   refine Calls.mono this λen w' ⟨he,q,hw⟩=>?_
   have st:=g5 q #[];rw[Sort.grow_empty,<- hw]at st;have fz:=Step.freeze st.iV;have I9:=st.trans fz;simp only[iw,bM,hlen]at I9;refine⟨_,m,_,he,I9,aY ⟨b,0,bh⟩,cap-0,ae,?_,by simpa using e4,?_⟩
   .simp;omega
   .by_cases ni:c=[]
    .left;simp[ni]
    right;refine⟨⟨b,0,bh⟩,rfl,?_⟩;have hH:=I9.iV.holds _ (gX.2 rfl)
    rcases hH with⟨_,ta,_⟩|⟨b',pT,cur,fr,k1,k0,k2,k3,k4,k5,k6,k7,k8,k9,E0,O3,O4,aaO⟩
    .have:=aP ba ta;rw[bM,hlen]at this;simp only[dD]at this;have:c.length=0:=ab;exact aQ (bW this) ni
    .rw[bM,hlen]at k1;rw[e2]at k1;cases k1;rw[Jt,bM,hlen,fM]at k7;have aa_:=AU (h1 _) k7
     have pD:∀j,j<l.length->nB m Z [(k,.row e 1 0 ((c++bY (l.length-c.length) z).map λa=>[enc a]))] w' ⟨b,j,bh⟩=cur[j]?:=λj hj=>by have EP:j<cur.size:=ab;have:=aaO j cur[j] ab (by simp[EP]);rw[this];simp[EP]
     have aep:∀(cs:List α)(o:Nat),(∀j a,cs[j]?=aY a->nB m Z [(k,.row e 1 0 ((c++bY (l.length-c.length) z).map λa=>[enc a]))] w' ⟨b,o+j,bh⟩=aY (f a))->yT (nB m Z [(k,.row e 1 0 ((c++bY (l.length-c.length) z).map λa=>[enc a]))] w') ⟨b,0,bh⟩ 1 o (cs.map λa=>[enc a]):=λcs=>by
      induction cs with
      |nil=>intro o _;trivial
      |cons a cs ih =>
       intro o ho;refine⟨⟨rfl,⟨_,?_,h2 _ a⟩,trivial⟩,ih (o+1) λj a' hj=>?_⟩
       .have:=ho 0 a rfl;simp only[ea]at this;rw[fM,Addr.add_lit,Addr.add_lit,cj,ea];exact this
       .have:=ho (j+1) a' (by simpa using hj);rw[<- this];congr 2;omega
     refine aep c 0 λj a hj=>?_
     have Cb:j<c.length:=(bq.1 hj).1;rw[cj,pD j ab];have e3:cur[j]?=cur.toList[j]?:=ae
     have e6:(cur.toList.take l.length)[j]?=((c++bY (l.length-c.length) z).map f)[j]?:=by rw[aa_]
     rw[cb,aO ab,cw,cR Cb,hj]at e6;rw[e3,e6];rfl
 .have B4:cap=0:=h0;obtain⟨rfl,rfl⟩:=Ec B4;exact hz _ _ (by simp[maxLen]) rfl rfl
 .omega
end
section
variable{K0:List Nat}{c:Ctx K0}{P:bl}{r:Option Nat}{N:Nat}{Q:xE}{ρ:Env}{H:aw}{ds:List ca}{all rest:List Oper}{ty:bu}{pos:String}{aft:Array Edge}{gd:Option (Nat×Bool)}{t t':bu}{x y:bE}
end
def vC{α β:Type}[DecidableEq α](a:α):List (α×β)->Option β
 |[]=>bh
 |(k,b)::r=>if a=k then aY b else vC a r
def Hx{α β:Type}[DecidableEq α](a:α)(b:β):List (α×β)->List (α×β)
 |[]=>[(a,b)]
 |(k,c)::r=>if a=k then(a,b)::r else(k,c)::Hx a b r
def rH{α β:Type}(f:α->V)(g:β->V)(l:List (α×β)):List (V×V):=l.map λp=>(f p.1,g p.2)
def ZP{α:Type}[DecidableEq α](a:α):List α->List MapEntry->Nat->Option (Nat×bw)
 |k::ks,e::es,i=>if a=k then aY (i,e.val)else ZP a ks es (i+1)
 |_,_,_=>bh
structure Bk(P:bl)(kt:bu){α:Type}[DecidableEq α](f:α->V)(val:α->bw):Prop where
 Ey:∀m Z a x,dQ m Z (f a) x->x=val a
 rep:∀m Z a,dQ m Z (f a) (val a)
 check:∀e a w,(Instr.checkKey e 10000 kt (val a)).run P w=.ok () w
 find:∀(a:α)(es:List MapEntry)(ks:List α) w,es.map (·.key)=ks.map val->(Instr.findKey kt (val a) es).run P w=.ok (ZP a ks es 0) w
 bits:∀a,Instr.sameBits 10000 (val a) (val a)=bg
def YH{α:Type}[DecidableEq α]{d:TypeDesc}{val:α->bw}(h:∀a b,Instr.sameNow d (val a) (val b)=aY (decide (a=b)))(a:α):∀(es:List MapEntry)(ks:List α)(i:Nat),es.map (·.key)=ks.map val->Instr.findNow d (val a) es i=aY (ZP a ks es i)
 |[],ks,i,he=>by
  cases ks with
  |nil=>rfl
  |cons=>simp at he
 |e::es,[],i,he=>by simp at he
 |e::es,k::ks,i,he=>by
  simp only[ig,List.cons.injEq]at he;have ih:=YH h a es ks (i+1) he.2;simp only[Instr.findNow,he.1,h,ZP];by_cases e1:a=k
  .simp[e1]
  .simp[e1,ih]
section
variable{P:bl}
def SJ{α:Type}[DecidableEq α]{kt:bu}{d:TypeDesc}{f:α->V}{val:α->bw}(hk:P.underlying kt=aY d)(hd:∀m Z a x,dQ m Z (f a) x->x=val a)(hr:∀m Z a,dQ m Z (f a) (val a))
  (hc:∀e a w,(Instr.checkKey e 10000 kt (val a)).run P w=.ok () w) (h:∀a b,Instr.sameNow d (val a) (val b)=aY (decide (a=b))) (hb:∀a,Instr.sameBits 10000 (val a) (val a)=bg):Bk P kt f val:=⟨hd,hr,hc,λa es ks w he=>by simp[Instr.findKey,run_underlying hk,YH h a es ks 0 he],hb⟩
def bytes_beq(a b:aj):((⟨a.toArray⟩:ByteArray)==⟨b.toArray⟩)=decide (a=b):=by rw[show((⟨a.toArray⟩:ByteArray)==⟨b.toArray⟩)=(a.toArray==b.toArray) from rfl,ek];simp
def Ra{kt:bu}(hk:P.underlying kt=aY .string):Bk P kt V.str (λs=>.string ⟨s.toArray⟩):=
 SJ hk (λ_ _ _ _ h=>h) (λ_ _ _=>rfl) (λe a w=>by
  unfold Instr.checkKey
  simp[run_underlying hk]) (λa b=>by simp only[Instr.sameNow,bytes_beq]) λa=>by simp only[Instr.sameBits,bytes_beq];simp
def Rb{kt:bu}{q:IntKind}(hk:P.underlying kt=aY (.int q)):Bk P kt (V.int q) (λn=>.int q n):=
 SJ hk (λ_ _ _ _ h=>h) (λ_ _ _=>rfl) (λe a w=>by
  unfold Instr.checkKey
  simp[run_underlying hk]) (λa b=>by simp[Instr.sameNow];rfl) λa=>by simp[Instr.sameBits]
def sW(P:bl)(t:Nat):Option (Nat×Nat):=match P.underlying t with|some (.map k e)=>aY (k,e)|_=>bh
def TN{t k e:Nat}(h:sW P t=aY (k,e)):P.underlying t=aY (.map k e):=by
 unfold sW at h;split at h
 .cases h;assumption
 .cases h
def D1(P:bl)(t:Nat):Option V:=match P.info? t with|some i=>i.zero.map Cf|none=>bh
def zst{t:Nat}{v:V}{m:Option M}{Z:ZM}{w:bG}(h:D1 P t=aY v):∃z,(zeroValue t).run P w=.ok z w/\dQ m Z v z:=by
 unfold D1 at h;split at h
 .rename_i i hi;obtain⟨z,hz,rfl⟩:=Option.map_eq_some_iff.1 h;exact⟨z,by simp[zeroValue,typeInfo,hi,hz,Sem.run],TG z⟩
 .cases h
def aev(c:Bool)(v:V)(b:Bool):V:=match c with|true=>.ij [v,.bool b]|false=>v
def pM.find{α β:Type}[DecidableEq α]{Z:ZM}{f:α->V}{g:β->V}{val:α->bw}(hd:∀m Z a x,dQ m Z (f a) x->x=val a)(a:α):∀{l:List (α×β)}{es:List MapEntry}(i:Nat),pM Z (rH f g l) es ->
  es.map (·.key)=(l.map (·.1)).map val/\match vC a l with
   |some b=>∃j e,ZP a (l.map (·.1)) es i=aY (i+j,e.val)/\es[j]?=aY e/\e.key=val a/\dQ bh Z (g b) e.val/\∀(c:β)(y:bw),dQ bh Z (g c) y->pM Z (rH f g (Hx a c l)) (es.modify j λe=>{ e with key:=val a,val:=y })
   |none=>ZP a (l.map (·.1)) es i=bh/\∀(c:β)(y:bw)(n:Nat),dQ bh Z (f a) (val a)->dQ bh Z (g c) y->pM Z (rH f g (Hx a c l)) (es++[{ key:=val a,val:=y,born:=n }])
 |[],es,i,h=>by
  cases h;exact⟨rfl,rfl,λc y n h1 h2=>⟨_,[],rfl,h1,h2,rfl⟩⟩
 |(k,b)::l,es,i,h=>by
  obtain⟨e,es,rfl,h1,h2,h3⟩:=h;have hk:=hd _ _ _ _ h1;obtain⟨h4,h5⟩:=pM.find hd a (i+1) h3;refine⟨by simp[hk,h4],?_⟩;simp only[vC];by_cases e1:a=k
  .subst e1;simp only[aO];refine⟨0,e,by simp[ZP],rfl,hk,h2,λc y hy=>?_⟩;simp only[Hx,aO];exact⟨_,es,rfl,by rw[<- hk];exact h1,hy,h3⟩
  .rw[aN e1]
   cases hm:vC a l with
   |some b' =>
    rw[hm]at h5;obtain⟨j,e',g1,g2,g3,g4,g5⟩:=h5;refine⟨j+1,e',by simp only[ig,ZP,aN e1,g1];congr 2;omega,by simpa using g2,g3,g4,λc y hy=>?_⟩;simp only[Hx,aN e1];exact⟨e,_,ae,h1,h2,g5 c y hy⟩
   |none =>rw[hm]at h5;obtain⟨g1,g2⟩:=h5;refine⟨by simp only[ig,ZP,aN e1,g1],λc y n q1 q2=>?_⟩;simp only[Hx,aN e1];exact⟨e,_,rfl,h1,h2,g2 c y n q1 q2⟩
variable{ρ:Env}{dst:Option Tmp}{ty:bu}{pos:String}{aft:Array Edge}{gd:Option (Nat×Bool)}
def zkd{α β:Type}[DecidableEq α]{f:α->V}{val:α->bw}{g:β->V}{t kt et k:Nat}{x ix:bE}{l:List (α×β)}(c:Bool){a:α}{z:β}{zv:V}(hT:sW P t=aY (kt,et))(K:Bk P kt f val)(hz:D1 P et=aY zv)
  (IX:∀(m:Option M)(Z:ZM)(y:bw),dQ m Z zv y->dQ m Z (g z) y) (hx:fQ ρ x=.mp k) (hi:fQ ρ ix=f a):
  Loc P ⟨dst,.lookup t x ix c,ty,pos,aft,gd⟩ ρ [(k,.map (rH f g l))] (aev c (g ((vC a l).getD z)) (vC a l).isSome) [(k,.map (rH f g l))]:=by
 intro ρr m Z w gY hs _;have hX:=gY x (by simp[Op.operands]);have hI:=K.Ey _ _ _ _ (hi▸gY ix (by simp[Op.operands]));rw[hx]at hX;obtain⟨m1,loc,e1,e2,hX⟩:=hX;cases e1;obtain⟨b,es,clock,g1,g2,g3,g4,g5,g6,g7⟩:=hs.holds _ (gX.2 rfl);rw[g1]at e2;cases e2;obtain⟨h1,h2⟩:=g3.find K.Ey a 0;obtain⟨aax,IV,hz2⟩:=zst (m:=aY m) (Z:=Z) (w:=w) hz;have tb:=K.find a es.toList _ w h1;have hc:=K.check es.isEmpty a w;have hu:=TN hT
 have key:∃v b',(Instr.lookup t (.map (aY b)) (val a) c).run P w=.ok (if c then .tuple #[v,.bool b']else v) w/\dQ (aY m) Z (g ((vC a l).getD z)) v/\b'=(vC a l).isSome:=by
  cases hm:vC a l with
  |some b' =>
   rw[hm]at h2;obtain⟨j,e',q1,q2,q3,q4,q5⟩:=h2;rw[q1]at tb;exact⟨e'.val,bg,by simp[Instr.lookup,run_underlying hu,MapKept.run_getObj_map g2,hc,tb],dQ.up (λ_ _ e=>e) (λf e=>by cases e) q4,rfl⟩
  |none =>rw[hm]at h2;rw[h2.1]at tb;exact⟨aax,bf,by simp[Instr.lookup,run_underlying hu,MapKept.run_getObj_map g2,hc,tb,IV],IX _ _ _ hz2,rfl⟩
 obtain⟨v,b',mg,hv,hb⟩:=key;refine⟨rfl,.inl ⟨_,w,by simp only[bU,hX,hI,Sem.run_bind,mg,Result.andThen_ok,Sem.run_pure];rfl,m,Z,Step.refl hs,?_⟩⟩
 cases c with
 |true=>exact⟨[v,.bool b'],rfl,v,_,rfl,hv,_,_,rfl,by rw[hb];rfl,rfl⟩
 |false=>exact hv
def ZQ{α β:Type}[DecidableEq α]{f:α->V}{val:α->bw}{g:β->V}{t kt et k:Nat}{x ix y:bE}{l:List (α×β)}{a:α}{c:β}(hT:sW P t=aY (kt,et))(K:Bk P kt f val)
  (hx:fQ ρ x=.mp k) (hi:fQ ρ ix=f a) (hy:fQ ρ y=g c) (hr:(g c).refs=[]) (hra:(f a).refs=[]):
  Loc P ⟨dst,.mapUpdate t x ix y,ty,pos,aft,gd⟩ ρ [(k,.map (rH f g l))] .no [(k,.map (rH f g (Hx a c l)))]:=by
 intro ρr m Z w gY hs _;have hX:=gY x (by simp[Op.operands]);have hI0:=gY ix (by simp[Op.operands]);have hY:=gY y (by simp[Op.operands]);have hI:=K.Ey _ _ _ _ (hi▸hI0);rw[hx]at hX;rw[hy]at hY;have hY:dQ bh Z (g c) (ev ρr y):=dQ.flat _ _ hr hY;obtain⟨m1,loc,e1,e2,hX⟩:=hX;cases e1;obtain⟨b,es,clock,g1,g2,g3,g4,g5,g6,g7⟩:=hs.holds _ (gX.2 rfl);rw[g1]at e2;cases e2;obtain⟨h1,h2⟩:=g3.find K.Ey a 0;have tb:=K.find a es.toList _ w h1;have hc:=K.check bf a w;have hu:=TN hT;have Il:b<w.heap.size:=(bP.1 g2).1
 have key:∃B2 GH,(Instr.mapUpdate t (.map (aY b)) (val a) (ev ρr y)).run P w=.ok () { w with heap:=w.heap.setIfInBounds b (.map B2 GH) }/\pM Z (rH f g (Hx a c l)) B2.toList/\(B2.toList.Pairwise λx y=>x.born<y.born)/\(∀e∈B2.toList,e.born<GH):=by
  cases hm:vC a l with
  |some b' =>
   rw[hm]at h2;obtain⟨j,e',q1,q2,q3,q4,q5⟩:=h2;rw[q1]at tb
   have Bd:es[0+j]?=aY e':=by simpa using q2
   have lg:∀e∈(es.toList.modify (0+j) λe=>{ e with key:=val a,val:=ev ρr y }),∃e0∈es.toList,e.born=e0.born:=λe he=>by obtain⟨i,hi,rfl⟩:=dn he;rw[eQ];simp only[fX]at hi;refine⟨es.toList[i],dq _,?_⟩;split<;>rfl
   refine⟨es.modify (0+j) λe=>{ e with key:=val a,val:=ev ρr y },clock,?_,?_,?_,?_⟩
   .have acr:es[j]?=aY e':=by simpa using Bd
    simp[Instr.mapUpdate,run_underlying hu,MapKept.run_getObj_map g2,hc,tb,Instr.keyThatStays,acr,q3,K.bits,MapKept.run_setObj_map _ g2]
   .rw[eP];simpa using q5 c _ hY
   .rw[eP,fm];intro i j' hi hj EO;rw[eQ,eQ];simp only[fX]at hi hj;have:=fm.1 g4 i j' hi hj EO;split<;>split<;>exact this
   .rw[eP];intro e he;obtain⟨e0,h3,h4⟩:=lg e he;rw[h4];exact g5 e0 h3
  |none =>
   rw[hm]at h2;rw[h2.1]at tb;refine⟨es.push { key:=val a,val:=ev ρr y,born:=clock },clock+1,by simp[Instr.mapUpdate,run_underlying hu,MapKept.run_getObj_map g2,hc,tb,MapKept.run_setObj_map _ g2],?_,?_,?_⟩
   .rw[fq];exact h2.2 c _ _ (K.rep _ _ _) hY
   .rw[fq,List.pairwise_append];exact⟨g4,ae,λp hp q hq=>by simp at hq;subst hq;exact g5 p hp⟩
   .rw[fq];intro e he
    rcases bI.1 he with he|he
    .have:=g5 e he;omega
    .simp at he;subst he;simp
 obtain⟨B2,GH,mg,k1,k2,k3⟩:=key;refine⟨rfl,.inr (.inl ⟨_,by simp only[bU,hX,hI,Sem.run_bind,mg,Result.andThen_ok,Sem.run_pure];rfl,m,Z,?_,rfl⟩)⟩;refine Step.write (b:=b) hs (by simp[gT,qK,Obj.iZ,g1]) (LG rfl rfl rfl) rfl rfl rfl ae (λj hj=>by simp[Array.getElem?_setIfInBounds_ne (Ne.symm hj)]) (λa x ha e=>aQ e (g6 a x ha)) ?_;exact⟨b,B2,GH,g1,by simp[Il],k1,k2,k3,g6,g7⟩
end
section
variable{P:bl}{N:Nat}{Q:Yb}{ρ:ye}{ds:List ca}{w:bG}
end
section
variable{K0:List Nat}{c:Ctx K0}{P:bl}{N:Nat}{Q:xE}{ds:List ca}{ty:bu}{pos:String}{aft:Array Edge}
end
def Rc{α:Type}(f:Nat->α)(sz:Nat):∀n,(dc (n*sz)).map (λj=>f (j % sz))=(bY n ((dc sz).map f)).flatten
 |0=>ae
 |n+1=>by
  rw[Nat.succ_mul,List.range_add,cO,Rc f sz n,List.replicate_succ',eO,cF]
  congr 1
  simp only[cI,List.flatten_nil,cy]
  refine eg λj hj=>?_
  have hj:=List.mem_range.1 hj;simp only[Function.comp];rw[Nat.add_comm,Nat.add_mul_mod_self_right,Nat.mod_eq_of_lt hj]
def zsu{m:Option M}{Z:ZM}{zc:Array bw}{n:Nat}(h0:0<zc.size):zu m Z (bY n (zc.toList.map pN)).flatten (madeCells zc (n*zc.size)).toList:=by
 have e:(madeCells zc (n*zc.size)).toList=(bY n zc.toList).flatten:=by
  have h1:(dc zc.size).map (λj=>zc[j]!)=zc.toList:=by
   apply List.ext_getElem
   .simp
   .intro i h1 h2;simp at h1;simp[h1]
  rw[<- h1,<- Rc];simp[madeCells]
 rw[e,<- fW,<- List.map_flatten];exact uc _
def zu.ν{Z:ZM}{cs cs2:List V}(hw:∀(Z:ZM)(l:List bw),zu bh Z cs l->zu bh Z cs2 l):∀(n:Nat)(l:List bw),zu bh Z (bY n cs).flatten l->zu bh Z (bY n cs2).flatten l
 |0,l,h=>h
 |n+1,l,h=>by rw[List.replicate_succ,cI]at h ⊢;have h1:=h.take cs.length;have h2:=h.drop cs.length;rw[dH]at h1;rw[gI]at h2;rw[<- fK cs.length l];exact zu.append (hw _ _ h1) (zu.ν hw n _ h2)
section
variable{P:bl}{ρ:Env}{dst:Option Tmp}{ty:bu}{pos:String}{aft:Array Edge}{gd:Option (Nat×Bool)}
def ZR{t d e sz bytes n:Nat}{x y:bE}{k k2:IntKind}{cs cs2:List V}(hT:Js P t=aY (e,sz,bytes))(hz:zeroV P e=aY cs)(hx:fQ ρ x=.int k n)(hy:fQ ρ y=.int k2 n)(hlen:n*bytes<=281474976710656)(rA:n<=9223372036854775807)
  (hw:∀(Z:ZM)(l:List bw),zu bh Z cs l->zu bh Z cs2 l) (IE:cs2.length=cs.length):
  Loc P ⟨dst,.makeSlice t x y,ty,pos,aft,gd⟩ ρ [] (.sl sz d n 0 n) [(d,.row e sz 0 (bY n cs2))]:=by
 intro ρr m Z w gY hs ln
 have hX:ev ρr x=.int k n:=by have:=gY x (by simp[Op.operands]);rw[hx]at this;exact this
 have hY:ev ρr y=.int k2 n:=by have:=gY y (by simp[Op.operands]);rw[hy]at this;exact this
 obtain⟨i,z,hu,hi,OE,iz,hb,h0,G1⟩:=Vn hT
 have nx:cs=z.cells.toList.map pN:=by simp only[zeroV,hi,OE,Option.some.injEq]at hz;exact hz.symm
 subst nx;have mg:=run_make (P:=P) (w:=w) t e i z hu hi OE k k2 (n:Int) (n:Int) ab ab (by rw[hb,Int.mul_comm];omega) ab;have e1:((n:Int).toNat)=n:=ab;rw[e1]at mg
 have Xo:z.cells.size=i.size:=by rw[h0,iz]
 have mR:cs2.length=i.size:=by rw[IE];simp[Xo]
 have oT:(bY n cs2).length=n:=ae
 obtain⟨m',h2,h3⟩:=Step.new (m:=m) (Z:=Z) (w:=w) (k:=d) (o:=.row e sz 0 (bY n cs2)) (.cells (madeCells z.cells (n*i.size)) e) n hs.frozen (λL=>ln d (by simp[keys]) (by simp[keys]) L) λm' g1 g2 g3=>by
  by_cases nK:n=0
  .subst nK;have tA:(Obj.row e sz 0 (bY 0 cs2)).iZ=0:=rfl;rw[tA]at g1;exact .inl ⟨G1,rfl,rfl,⟨_,g1⟩,λL l e=>by have:=g2 L l e;rw[tA]at this;omega⟩
  have rU:(Obj.row e sz 0 (bY n cs2)).iZ=n:=oT;rw[rU]at g1;have GA:=zsu (m:=bh) (Z:=Z) (zc:=z.cells) (n:=n) ab;rw[Xo]at GA;have GA:=zu.ν hw n _ GA;refine .inr ⟨w.heap.size,n,madeCells z.cells (n*i.size),(0,0),by rw[oT];exact g1,ab,World.alloc_heap_new w _,by rw[oT];exact Nat.le_refl _,by simp only[maxLen];omega,by rw[size_madeCells,iz],ab,?_,?_,ae,ae,λa x ha e=>by have:=xo hs.frozen ha;omega,λL l e=>by have:=g2 L l e;rw[rU]at this;rw[oT];omega,λoff x ho=>ab⟩
  .rw[oT,<- iz,List.take_of_length_le (by simp[size_madeCells])];exact GA
  .intro c hc;rw[List.eq_of_mem_replicate hc,mR,iz]
 have rU:(Obj.row e sz 0 (bY n cs2)).iZ=n:=oT;rw[rU]at h3;refine⟨rfl,.inl ⟨.slice (aY ⟨w.heap.size,0,bh⟩) n n,w.alloc (.cells (madeCells z.cells (n*i.size)) e),?_,m',Z,h2,m',_,rfl,h3,ae,by simp only[maxLen];omega,.inl ae⟩⟩;simp only[bU,hX,hY,Sem.run_bind,mg,Result.andThen_ok,Sem.run_pure]
def Yg{t d e sz bytes L:Nat}{q:Int}{x y:bE}{k k2:IntKind}{cs cs2:List V}{all:List (List V)}(hT:Js P t=aY (e,sz,bytes))(hz:zeroV P e=aY cs)(hx:fQ ρ x=.int k q)(hy:fQ ρ y=.int k2 q)(IE:bk cs2.length cs.length=bg)(h0:0<=q)(hlen:q*bytes<=281474976710656)(rA:q<=9223372036854775807)(pU:bY q.toNat cs2=all)(hL:L=q.toNat)(hw:∀(Z:ZM)(l:List bw),zu bh Z cs l->zu bh Z cs2 l):
  Loc P ⟨dst,.makeSlice t x y,ty,pos,aft,gd⟩ ρ [] (.sl sz d L 0 L) [(d,.row e sz 0 all)]:=by
 subst pU hL;have e1:q=((q.toNat:Nat):Int):=ab
 exact ZR hT hz (by rw[<- e1];exact hx) (by rw[<- e1];exact hy) (by
   have:((q.toNat*bytes:Nat):Int)<=281474976710656:=by rw[Int.natCast_mul,<- e1];exact hlen
   omega) ab hw (eb IE)
end
section
variable{m:M}{Z:ZM}{w w':bG}
end
section
variable{P:bl}{ρ:Env}{dst:Option Tmp}{ty:bu}{pos:String}{aft:Array Edge}{gd:Option (Nat×Bool)}
end
section
variable{K0:List Nat}{ρ:Env}{H:aw}
def LJ{k t:Nat}{cs ly:List V}(R:aw)(ks:List Nat)(hg:H.get k=aY (.box t cs))(hR:ua ks H=aY R)(np:iw R=R)(hv:vB R cs ly){H1:aw}(nI:(k,.box t ly)::kr [k] H=H1):Cut K0 ρ H ρ H1:=λc ρr w S=>by
 subst nI;obtain⟨m,Z,S,hr⟩:=S;have hp:=ku (ks:=[k]) (F:=[(k,.box t cs)]) S.step.iV.nodup ae (zwf hg);have S1:Step c.m0 c.Z0 c.F0 c.W0 m Z ((k,.box t cs)::kr [k] H) w:=S.step.GF hp
 have NK:∀l,zu (aY m) Z cs l->zu (aY m) Z ly l:=λl hl=>hv.rep (F:=R) (w:=w) (λk t' sz fz els hg=>by
  have lg:=aw.get_mem hg;have h1:=S.step.iV.holds _ ((yK hR).2 _ lg)
  have:fz=els.length:=by
   rw[<- np]at lg
   rcases jC lg with⟨k',abp,lz,nw,tR,h2,h3⟩|⟨h2,h3⟩
   .simp only[Prod.mk.injEq,Obj.row.injEq]at h3;obtain⟨_,_,_,e1,e2⟩:=h3;rw[e1,e2]
   .exact aQ rfl (h3 t' sz fz els)
  subst this
  exact h1) hl
 have nf:∀p∈((k,.box t ly)::kr [k] H:aw),∃q∈((k,.box t cs)::kr [k] H:aw),q.1=p.1/\gT m q=gT m p:=λp hp=>by
  rcases bo.1 hp with rfl|hp
  .exact⟨(k,.box t cs),ak,rfl,rfl⟩
  .exact⟨p,iT _ hp,rfl,rfl⟩
 have hk:keys ((k,.box t ly)::kr [k] H)=keys ((k,.box t cs)::kr [k] H):=rfl;refine⟨m,Z,⟨⟨⟨S1.iV.frozen,λp hp=>?_,by rw[hk];exact S1.iV.nodup,λp hp q hq b h1 h2=>?_⟩,S1.nn,S1.ng,S1.os,S1.tape,S1.output,S1.size,S1.frame,λa ha=>by rw[hk];exact S1.keep a ha,λa ha=>S1.pV a (by rw[<- hk];exact ha),λp hp b hb=>?_,S1.pC⟩,λa ha=>S.p6 a λh=>ha ?_⟩,hr⟩
 .rcases bo.1 hp with rfl|hp
  .obtain⟨b,cur,g1,g2,g3,g4,g5⟩:=S1.iV.holds (k,.box t cs) ak;exact⟨b,cur,g1,g2,NK _ g3,g4,g5⟩
  .exact S1.iV.holds p (iT _ hp)
 .obtain⟨p',lu,e1,e2⟩:=nf p hp;obtain⟨q',l_,e3,e4⟩:=nf q hq;rw[<- e1,<- e3];exact S1.iV.nT p' lu q' l_ b (by rw[e2];exact h1) (by rw[e4];exact h2)
 .obtain⟨p',lu,e1,e2⟩:=nf p hp;exact S1.mO p' lu b (by rw[e2];exact hb)
 .rw[hk];exact(hp.map _).mem_iff.1 h
end
def rX(a b:List V):Prop:=∀(Z:ZM)(l:List bw),zu bh Z a l->zu bh Z b l
def zA4:rX [] []:=λ_ _ h=>h
def Step.X'{m m':M}{Z Z':ZM}{F:aw}{w w':bG}{d:Nat}{o o':Obj}(h:Step m Z F w m' Z' [(d,o)] w')(hb:gT m' (d,o')=gT m' (d,o))(hh:Holds m' Z' w' d o->Holds m' Z' w' d o'):Step m Z F w m' Z' [(d,o')] w':=by
 refine⟨⟨h.iV.frozen,λp hp=>?_,h.iV.nodup,λp hp q hq _ _ _=>?_⟩,h.nn,h.ng,h.os,h.tape,h.output,h.size,h.frame,h.keep,h.pV,λp hp b ll=>?_,h.pC⟩
 .simp only[gX]at hp;subst hp;exact hh (h.iV.holds _ (gX.2 rfl))
 .simp only[gX]at hp hq;subst hp;subst hq;rfl
 .simp only[gX]at hp;subst hp;exact h.mO (d,o) (gX.2 rfl) b (by rw[<- hb];exact ll)
section
variable{P:bl}{ρ:Env}{dst:Option Tmp}{ty:bu}{pos:String}{aft:Array Edge}{gd:Option (Nat×Bool)}
def Vr{t d e sz n:Nat}{parts:List (Nat×bE)}{els Gy all:List (List V)}{fl fl2:List V}(hT:oM P t=aY (e,sz))(iz:ck (n*sz) 16777216=bg)(h:Cj n sz (parts.map λp=>(p.1,fQ ρ p.2))=aY els)
  (h1:els.flatten=fl) (h2:Gy.flatten=fl2) (hw:rX fl fl2) (hl:bk Gy.length els.length=bg) (hc:Gy.all (λe=>bk e.length sz)=bg) (ha:Gy=all):
  Loc P ⟨dst,.buildSlice t n parts.toArray,ty,pos,aft,gd⟩ ρ [] (.sl sz d n 0 n) [(d,.row e sz 0 all)]:=by
 subst ha;have hL:=Ye (dst:=dst) (ty:=ty) (pos:=pos) (aft:=aft) (gd:=gd) (d:=d) hT iz h;have hl:=eb hl;intro ρr m Z w gY hs ln
 refine(hL ρr m Z w gY hs (λk hk mi L=>ln k (by simpa[keys]using hk) mi L)).mono λx w' hx=>?_
 obtain⟨m',Z',st,hr⟩:=hx;refine⟨m',Z',st.X' (by funext b;simp only[gT,qK,Obj.iZ];rw[hl]) λhh=>?_,hr⟩
 rcases hh with⟨g1,g2,g3,g4,g5⟩|⟨b,cap,cur,fr,g1,g2,g3,g4,g5,g6,g7,g8,g9,g10,g11,g12,g13,g14⟩
 .exact .inl ⟨g1,by rw[g2]at hl;exact bW hl,g3,g4,g5⟩
 .refine .inr ⟨b,cap,cur,fr,by rw[hl];exact g1,g2,g3,by rw[hl];exact g4,g5,g6,g7,?_,λe he=>eb ((bm.1 hc) e he),g10,by rw[hl];exact g11,g12,by rw[hl];exact g13,g14⟩;rw[hl,h2];rw[h1]at g8;exact hw _ _ g8
end
section
variable{m:M}{Z:ZM}{w:bG}
end
section
variable{K0:List Nat}{ρ:Env}{H:aw}
end
section
variable{P:bl}{ρ:Env}{dst:Option Tmp}{ty:bu}{pos:String}{aft:Array Edge}{gd:Option (Nat×Bool)}{α:Type}
end
section
variable{m:M}{Z:ZM}{w w':bG}
end
section
variable{K0:List Nat}{ρ:Env}{H:aw}
end
section
variable{P:bl}{ρ:Env}{dst:Option Tmp}{ty:bu}{pos:String}{aft:Array Edge}{gd:Option (Nat×Bool)}
end
section
variable{P:bl}
end
section
variable{P:bl}{ρ:Env}{dst:Option Tmp}{ty:bu}{pos:String}{aft:Array Edge}{gd:Option (Nat×Bool)}
end
section
variable{P:bl}{m:M}{Z:ZM}{w:bG}
end
section
variable{P:bl}{ρ:Env}{dst:Option Tmp}{ty:bu}{pos:String}{aft:Array Edge}{gd:Option (Nat×Bool)}{α:Type}
def ZS{t e sz k L n:Nat}{x:bE}{lo hi:Option bE}{l h:Int}(ht:oM P t=aY (e,sz))(hx:fQ ρ x=.sl sz k L 0 n)(hl:pB ρ lo 0 l)(hh:pB ρ hi n h)(h0:0<=l)(h1:l<=h)(h2:h<=n):
  Loc P ⟨dst,.slice t x lo hi bh,ty,pos,aft,gd⟩ ρ [] (.sl sz k L l.toNat (h.toNat-l.toNat)) []:=by
 have:=zbq (P:=P) (ρ:=ρ) (dst:=dst) (ty:=ty) (pos:=pos) (aft:=aft) (gd:=gd) ht hx hl hh h0 h1 h2
 rwa [cj]at this
end
section
variable{P:bl}{ρ:Env}{o:Oper}{v:V}
def TP{Fa R F2 F1:aw}(h2:Fa++iw R=F2)(hl:Loc P o ρ F2 v F1):Loc P o ρ (Fa++R) v F1:=by
 subst h2;intro ρr m Z w gY hs mf;have IK:kp m Z R w:=kp.left (F:=R) (G:=Fa) (hs.perm dA)
 have iy:Step m Z (R++Fa) w m (nB m Z R w) (iw R++Fa) w:=Step.By (hs.perm dA) (Step.freeze IK) λp hp q hq e=>by
  have h1:p.1∈keys R:=by rw[<- xH];exact ax hp
  obtain⟨p',lu,e'⟩:=bF.1 h1;exact Hs hs.nodup hq lu (by rw[e'];exact e.symm)
 have iy:=(iy.aeB dA).GF (dA (l₁:=iw R) (l₂:=Fa));refine(hl ρr m _ w (λx hx=>(gY x hx).up iy.ng λf e=>by cases e;exact⟨m,rfl,iy.nn⟩) iy.iV (λk hk hn=>mf k hk λh=>hn ?_)).mono ?_
 .rw[zr]at h ⊢;rw[xH];exact h
 .rintro x w' ⟨m',Z',st,hr⟩;exact⟨m',Z',iy.trans st,hr⟩
end
section
variable{K0:List Nat}{ρ:Env}{H:aw}
def zke(kb j d e sz:Nat){t:Nat}{cs ly:List V}(iz:ck 1 sz=bg)(hF:ua [kb] H=aY [(kb,.box t cs)])(hj:cs[j]?=aY .iO)(nx:cs.set j (.sl sz d 0 0 0)=ly)(hd:jP d H=bf){H1:aw}(nI:(d,.row e sz 0 [])::(kb,.box t ly)::kr [kb] H=H1):
  Cut K0 ρ H ρ H1:=λc ρr w S=>by
 subst nI;subst nx
 have l5:d ∉ keys H:=λh=>by rw[yp.2 h]at hd;cases hd
 have pH:kb∈keys H:=by have:=(yK hF).2 _ (gX.2 rfl);exact ax this
 have lE:d≠kb:=λe=>l5 (e▸pH)
 have:=Qh.step (c:=c) (ρ:=ρ) (H:=H) (F:=[(kb,.box t cs)]) (F':=[(d,.row e sz 0 []),(kb,.box t (cs.set j (.sl sz d 0 0 0)))]) (ks:=[kb]) (ρ':=ρ) (ρr:=ρr) (w:=w) (by simp[nodupB]) hF (by simp[Jk,l5,lE]) (λm Z hs mf hR=>by
  have Em:∀L,m d L=bh:=λL=>mf d (by simp[keys]) (by simp[keys];exact lE) L
  let m':M:=λk' L=>if k'=d/\L=0 then aY (0,0)else m k' L
  have h1:m' d 0=aY (0,0):=by simp[m']
  have h2:∀k L loc,m k L=aY loc->m' k L=aY loc:=λk L loc e=>by
   by_cases hc:k=d/\L=0
   .obtain⟨rfl,rfl⟩:=hc;rw[Em]at e;cases e
   .simp only[m',aN hc];exact e
  have h3:∀k,k≠d->m' k=m k:=λk hk=>by funext L;simp[m',hk]
  obtain⟨b,cur,g1,g2,g3,g4,g5⟩:=hs.holds _ (gX.2 rfl)
  have w_:∀b',gT m' (d,.row e sz 0 []) b'->False:=λb' h=>by simp[gT,qK,Obj.iZ,h1]at h
  have nY:∀b',gT m' (kb,.box t (cs.set j (.sl sz d 0 0 0))) b'->gT m (kb,.box t cs) b':=λb' h=>by simp only[gT,qK,Obj.iZ,h3 kb (Ne.symm lE)]at h ⊢;exact h
  refine⟨m',Z,⟨⟨hs.frozen,λp hp=>?_,by simp[keys];exact lE,λp hp q hq b' q1 q2=>?_⟩,h2,λ_ _ e=>e,rfl,rfl,rfl,al,λ_ _ _=>rfl,λk hk=>?_,λk hk=>?_,λp hp b' hb=>?_,λ_ _ e=>.inl e⟩,λu=>(hR u).up (λ_ _ e=>e) (λf e=>by cases e;exact⟨m',rfl,h2⟩)⟩
  .simp only[bo,eE,or_false]at hp
   rcases hp with rfl|rfl
   .refine .inl ⟨lR iz,rfl,rfl,⟨0,h1⟩,λL loc e=>?_⟩;simp only[m']at e;split at e
    .rename_i hc;omega
    .rw[Em]at e;cases e
   .have GX:=g3.up (Z':=Z) (m':=aY m') (λ_ _ e=>e) (λf e=>by cases e;exact⟨m',rfl,h2⟩);refine⟨b,cur,by rw[h3 kb (Ne.symm lE)];exact g1,g2,?_,g4,by rw[h3 kb (Ne.symm lE)];exact g5⟩;obtain⟨x,IT,Dc⟩:=GX.get hj;have Dc:x=.slice bh 0 0:=Dc
    refine zu.nu (by rw[da];exact GX.length) λi v y hv hy=>?_
    by_cases EO:j=i
    .subst EO;have Cb:=(bq.1 hj).1;rw[List.getElem?_set,aO rfl,aO Cb]at hv;cases hv;rw[IT]at hy;cases hy;exact⟨m',_,rfl,h1,al,cx _,.inr (.inl ⟨rfl,bh,Dc⟩)⟩
    .rw[eK EO]at hv;obtain⟨z,hz,hr⟩:=GX.get hv;rw[hy]at hz;cases hz;exact hr
  .simp only[bo,eE,or_false]at hp hq
   rcases hp with rfl|rfl<;>rcases hq with rfl|rfl
   .rfl
   .exact(w_ _ q1).elim
   .exact(w_ _ q2).elim
   .rfl
  .simp only[keys,ig,dm,gX]at hk;subst hk;simp[keys]
  .simp only[keys,ig,dm,bo,eE,or_false,not_or]at hk;exact h3 k hk.1
  .simp only[bo,eE,or_false]at hp
   rcases hp with rfl|rfl
   .exact(w_ _ hb).elim
   .exact .inr ⟨_,gX.2 rfl,nY _ hb⟩) S
 exact this
end
section
variable{P:bl}{ρ:Env}{dst:Option Tmp}{ty:bu}{pos:String}{aft:Array Edge}{gd:Option (Nat×Bool)}
def Vs{a b c d:List V}(hl:a.length=b.length)(h1:rX a b)(h2:rX c d):rX (a++c) (b++d):=λZ l h=>by have h3:=h.take a.length;have h4:=h.drop a.length;rw[dH]at h3;rw[gI]at h4;rw[<- fK a.length l];exact(h1 _ _ h3).append (h2 _ _ h4)
def TQ{a:List V}:rX a a:=λ_ _ h=>h
def zwm{m:M}{Z:ZM}{w:bG}{k t sz fz:Nat}{els:List (List V)}(hs:kp m Z [(k,.row t sz fz els)] w){n:Nat}(hn:n<els.length):els[n].length=sz:=by
 rcases hs.holds _ (gX.2 rfl)with⟨_,g1,_⟩|⟨b,cap,cur,fr,g1,g0,g2,g3,g4,g5,g6,g7,g8,_⟩
 .subst g1;simp at hn
 .exact g8 _ (dq hn)
def ZT{t et sz fz k L off:Nat}{a x:bE}{els all:List (List V)}{cs c1 c2:List V}(i j:Nat)(ha:fQ ρ a=.ptr k L off)(hL:L=els.length)(Eh:off=i*sz+j)(hc:els[i]?=aY cs)(np:fz<=i)
  (hp:(fQ ρ x).plain=bg) (h1:(fQ ρ x).cells.all V.one=bg) (tz:(fQ ρ x).refs=[]) (iz:uR P t (fQ ρ x).cells.length=bg) (Ee:ck (j+(fQ ρ x).cells.length) sz=bg) (ni:cs.take j++(fQ ρ x).cells++cs.drop (j+(fQ ρ x).cells.length)=c1)
  (hw:rX c1 c2) (hl:bk c1.length c2.length=bg) (pU:els.set i c2=all):
  Loc P ⟨dst,.store t a x,ty,pos,aft,gd⟩ ρ [(k,.row et sz fz els)] .no [(k,.row et sz fz all)]:=by
 subst ni;subst pU;have hl:=eb hl;have h0:=zbo (P:=P) (dst:=dst) (ty:=ty) (pos:=pos) (aft:=aft) (gd:=gd) (et:=et) i j ha hL Eh hc np hp h1 tz iz (lR Ee);generalize cs.take j++(fQ ρ x).cells++cs.drop (j+(fQ ρ x).cells.length)=c1 at h0 hw hl;have hi:=(bq.1 hc).1;intro ρr m Z w gY hs mf
 refine(h0 ρr m Z w gY hs (λk hk mi L=>by exact mf k (by simpa[keys]using hk) mi L)).mono λy w' hy=>?_
 obtain⟨m',Z',st,hr⟩:=hy;refine⟨m',Z',st.X' (by funext b;simp only[gT,qK,Obj.iZ,da]) λhh=>?_,hr⟩
 rcases hh with⟨_,g1,_⟩|⟨b,cap,cur,fr,g1,g0,g2,g3,g4,g5,g6,g7,g8,g9,g10,g11,g12,g13⟩
 .have:=aP ba g1;simp only[da,dD]at this;omega
 .simp only[da]at g1 g3 g7 g10 g12;refine .inr ⟨b,cap,cur,fr,by rw[da];exact g1,g0,g2,by rw[da];exact g3,g4,g5,g6,?_,λe he=>?_,g9,by rw[da];exact g10,g11,by rw[da];exact g12,g13⟩
  .rw[da];rw[List.set_eq_take_append_cons_drop,aO hi,eO,cI]at g7 ⊢;exact Vs rfl TQ (Vs hl hw TQ) _ _ g7
  .rcases List.mem_or_eq_of_mem_set he with h|h
   .obtain⟨n,hn,rfl⟩:=dn h;by_cases OM:i=n
    .subst OM
     -- the old element's length: the element itself is gone; its length is that of the new one's
     have hm:=g8 c1 (gO hi c1);exact(zwm hs hn)
    .exact g8 _ (by
      have:(els.set i c1)[n]?=aY els[n]:=by rw[eK OM,bx hn]
      exact List.mem_of_getElem? this)
   .subst h;have hm:=g8 c1 (gO hi c1);rw[<- hl];exact hm
end
section
variable{α β:Type}[DecidableEq α]
end
section
variable{e sz:Nat}{l:List (V×List (List V))}{ho:Option Nat}{mk:Nat->Option (Nat×Nat)}{Z:ZM}{w:bG}
end
def gone:Fu where
 holds _ _ _:=True
 mO _ _:=False
 some_ _ _ h:=h.elim
 own _ _ _ _ _ h:=h.elim
 keep _ _ _ _ _ h _ _:=h
section
variable{m:M}{Z:ZM}{w w':bG}
end
section
variable{P:bl}{ρ:Env}{dst:Option Tmp}{ty:bu}{pos:String}{aft:Array Edge}{gd:Option (Nat×Bool)}{α β:Type}[DecidableEq α]
end
section
variable{m:M}{Z:ZM}{w:bG}{K0:List Nat}{ρ:Env}{H:aw}
end
section
variable{P:bl}{ρ:Env}{dst:Option Tmp}{ty:bu}{pos:String}{aft:Array Edge}{gd:Option (Nat×Bool)}
end
section
variable{m:M}{Z:ZM}{w:bG}{K0:List Nat}{ρ:Env}{H:aw}
end
section
variable{α β:Type}[DecidableEq α]
variable{P:bl}{ρ:Env}{dst:Option Tmp}{ty:bu}{pos:String}{aft:Array Edge}{gd:Option (Nat×Bool)}
end
section
variable{K0:List Nat}{ρ:Env}{H:aw}
end
section
variable{P:bl}{f:FuncId}{args:List V}{F F':aw}{r:V}
end
section
variable{P:bl}
end
section
variable{P:bl}{F:Fence}{n:Nat}{b:Frame}{a:Act}{k:List Item}{cs:List Frame}{w:bG}{Q:Exit->Act->bG->Prop}
end
section
variable{K0:List Nat}{c:Ctx K0}{P:bl}{r:Option Nat}{N:Nat}{Q:xE}{ρ:Env}{H:aw}{ds:List ca}
end
def ab_:Nat×Obj->Bool|(_,.my _ _ _)=>bg|_=>bf
section
variable{P:bl}{f:FuncId}{args:List V}{F F' F2 G:aw}{r:V}{s:Nat->Bool}
end
end Go.EV
namespace Go.lA
open Go Go.RowKit
section
variable{P:bl}{r:Option Nat}{N:Nat}{Q:Yb}{ρ:ye}{ds:List ca}{w W0:bG}{L:List Own}
variable{all rest:List Oper}{ty:bu}{pos:String}{aft:Array Edge}{gd:Option (Nat×Bool)}{jl:Nat}{S:bG->Prop}{K:ye->List ca->bG->Prop}
open Go.Sort
end
section
variable{P:bl}{ρ:ye}{w W:bG}{dst:Option Tmp}{ty:bu}{pos:String}{aft:Array Edge}{gd:Option (Nat×Bool)}{α:Type}{enc:α->List bw}{k:Nat}{v:bw}{l:List α}
end
section
variable{P:bl}{r:Option Nat}{N:Nat}{Q:Yb}{ρ:ye}{ds:List ca}{w W0:bG}{L:List Own}
variable{all rest:List Oper}{ty:bu}{pos:String}{aft:Array Edge}{gd:Option (Nat×Bool)}
end
end Go.lA
namespace Go.EV
open Go Go.RowKit Go.lA
section
variable{P:bl}{f:FuncId}{args:List V}{r:V}
def zkf{w w':bG}{m:M}{Z:ZM}(hf:∀a x,Z a=aY x->w.cell? a=aY x)(hb:Below w.heap.size w w'):Step m Z [] w m Z [] w':=⟨⟨λa x ha=>by rw[kT (hb.block _ (xo hf ha))];exact hf a x ha,λp hp=>(by cases hp),dj,λp hp=>(by cases hp)⟩,λ_ _ _ h=>h,λ_ _ h=>h,hb.os,hb.tape,hb.output,hb.size,λb ll _=>hb.block b ll,λ_ h=>h,λ_ _=>rfl,λp hp=>(by cases hp),λ_ _ h=>.inl h⟩
end
section
variable{P:bl}{ρ:Env}{dst:Option Tmp}{ty:bu}{pos:String}{aft:Array Edge}{gd:Option (Nat×Bool)}
end
open Go Go.RowKit Go.lA Go.Lib
section
variable{P:bl}{ρ:Env}{dst:Option Tmp}{ty:bu}{pos:String}{aft:Array Edge}{gd:Option (Nat×Bool)}
def D2(G:aw):Bool:=G.all λp=>match p.2 with|.my _ _ cs=>Jr cs|_=>bf
def zwn{G:aw}(h:D2 G=bg){p:Nat×Obj}(hp:p∈G):∃g t cs,p.2=.my g t cs/\Jr cs=bg:=by
 have:=(bm.1 h) p hp;split at this
 .exact⟨_,_,_,by assumption,this⟩
 .cases this
def QV{f:FuncId}{args:List V}{r:V}{G:aw}(hG:D2 G=bg)(C_:y8 args=[])
  (h:∀w Z vals,(∀a y,Z a=aY y->w.cell? a=aY y)->(∀p∈G,∀g ob cs,p.2=.my g ob cs->∃cur u fr,w.heap[g]?=aY (.cells cur u fr)/\zu bh Z cs cur.toList)->zu bh Z args vals->Calls P f vals.toArray w λen w'=>∃x,en=.returned x/\(∀m,dQ m Z r x)/\Below w.heap.size w w'):mN P f args G r G:=by intro w m Z vals hs hv ln;refine Calls.mono (h w Z vals hs.frozen (λp hp g ob cs hl=>by have hh:=hs.holds p hp;rw[hl]at hh;obtain⟨_,⟨h2,cur,u,fr,h5,h3⟩,_⟩:=hh;exact⟨cur,u,fr,by rw[h2,h5],h3⟩) (zu.flat args vals C_ hv)) ?_;rintro en w' ⟨x,he,hr,hb⟩;refine⟨x,m,Z,he,?_,hr _⟩;have:=Step.By (F:=[]) (F':=[]) (G:=G) hs (zkf hs.frozen hb) (λp hp=>by cases hp);exact this
end
section
variable{P:bl}{m:M}{Z:ZM}{w:bG}
end
section
variable{P:bl}{ρ:Env}{dst:Option Tmp}{ty:bu}{pos:String}{aft:Array Edge}{gd:Option (Nat×Bool)}
end
section
variable{K0:List Nat}{c:Ctx K0}{P:bl}{r:Option Nat}{N:Nat}{Q:xE}{ρ:Env}{H:aw}{ds:List ca}
end
section
variable{P:bl}{ρ:Env}{dst:Option Tmp}{ty:bu}{pos:String}{aft:Array Edge}{gd:Option (Nat×Bool)}{α β:Type}[DecidableEq α]
end
section
variable{P:bl}{m:M}{Z:ZM}{w:bG}
end
section
variable{P:bl}{ρ:Env}{dst:Option Tmp}{ty:bu}{pos:String}{aft:Array Edge}{gd:Option (Nat×Bool)}{α:Type}
end
section
variable{m:M}{Z:ZM}{w:bG}
end
section
variable{K0:List Nat}{ρ:Env}{H:aw}
end
section
variable{K0:List Nat}{c:Ctx K0}{P:bl}{r:Option Nat}{N:Nat}{all rest:List Oper}{o:Oper}{Q:xE}{ρ:Env}{H:aw}{ds:List ca}
end
section
variable{P:bl}{ρ:Env}{dst:Option Tmp}{ty:bu}{pos:String}{aft:Array Edge}{gd:Option (Nat×Bool)}
end
section
variable{α β:Type}
variable[DecidableEq α]
variable{P:bl}{ρ:Env}{dst:Option Tmp}{ty:bu}{pos:String}{aft:Array Edge}{gd:Option (Nat×Bool)}
end
section
variable{K0:List Nat}{ρ:Env}{H:aw}
end
section
variable{P:bl}{f:FuncId}{args afN:List V}{F F' F2 oV G:aw}{r r2:V}{s:Nat->Bool}
end
section
variable{P:bl}{ρ:Env}{dst:Option Tmp}{ty:bu}{pos:String}{aft:Array Edge}{gd:Option (Nat×Bool)}{x y:bE}{t t' k:Nat}{a:Nat->Nat}{i:Nat}
end
def aez(mk:Nat->Option (Nat×Nat))(Z:ZM)(w:bG):List (List (V×V))->Prop
 |[]=>(∃b,mk 0=aY (b,0))/\∀L loc,mk L=aY loc->L=0
 |l::_=>∃(b:Nat)(es:Array MapEntry)(clock:Nat),mk 0=aY (b,1)/\w.heap[b]?=aY (.map es clock)/\pM Z l es.toList/\(es.toList.Pairwise λx y=>x.born<y.born)/\(∀e∈es.toList,e.born<clock)/\(∀a x,Z a=aY x->a.block≠b)/\(∃L0,∀L loc,mk L=aY loc->L<=L0)
def Ps(mk:Nat->Option (Nat×Nat))(b:Nat):List (List (V×V))->Prop
 |[]=>False
 |_::_=>((mk 0).bind λloc=>if loc.2=0 then bh else aY loc.1)=aY b
def Pt(l:List (List (V×V))):Fu where
 holds:=λmk Z w=>aez mk Z w l
 mO:=λmk b=>Ps mk b l
 some_:=λmk b h=>by
  cases l with
  |nil=>exact h.elim
  |cons x r =>
   have h:((mk 0).bind λloc=>if loc.2=0 then bh else aY loc.1)=aY b:=h;obtain⟨loc,e1,e2⟩:=cQ.1 h;split at e2
   .cases e2
   .rename_i hc;cases e2;exact⟨_,loc.2,e1,hc⟩
 own:=λmk Z w b h hb=>by
  cases l with
  |nil=>exact hb.elim
  |cons x r =>
   obtain⟨b',es,clock,h1,h2,_⟩:=h;have hb:((mk 0).bind λloc=>if loc.2=0 then bh else aY loc.1)=aY b:=hb;rw[h1]at hb;simp at hb;subst hb;exact⟨_,h2,rfl⟩
 keep:=λmk Z Z' w w' h hZ hb=>by
  cases l with
  |nil=>exact h
  |cons x r =>
   obtain⟨b',es,clock,h1,h2,h3,h4,h5,h6,h7⟩:=h
   have Il:Ps mk b' (x::r):=by
    show((mk 0).bind λloc=>if loc.2=0 then bh else aY loc.1)=aY b'
    rw[h1];simp
   obtain⟨g1,g2⟩:=hb b' Il;exact⟨b',es,clock,h1,g1.trans h2,h3.up hZ,h4,h5,λa y ha e=>h6 a y (g2 a y ha e) e,h7⟩
def aeA:MY where
 rep:=λmk x=>∃loc,mk 0=aY loc/\x=.map (if loc.2=0 then bh else aY loc.1)
 mono:=λmk mk' x hm ⟨loc,h1,h2⟩=>⟨loc,hm 0 loc h1,h2⟩
 one:=λmk x h=>by obtain⟨loc,_,rfl⟩:=h;split<;>exact⟨rfl,rfl⟩
section
variable{P:bl}{o:Oper}{ρ pq:Env}{k:Nat}{l l':List (V×V)}{v:V}
end
section
variable{P:bl}{ρ:Env}{dst:Option Tmp}{ty t t':bu}{pos:String}{aft:Array Edge}{gd:Option (Nat×Bool)}
end
end Go.EV
namespace Go.EQ
open Go Go.RowKit Go.lA Go.EV
inductive TC where
 |i (k:IntKind)
 |b
 |s
 |y
 |l (t:TC)
 |m (k e:TC)
 |st (n:Nat)
 |a (ti ts:Nat)
 deriving DecidableEq
def M0(ti ts:Nat):Int⊕aj->V
 |.inl n=>.lN ti (.int .i64 n)
 |.inr s=>.lN ts (.str s)
def TC.ty(T:Nat->Type):TC->Type
 |.i _=>Int
 |.b=>Bool
 |.s=>aj
 |.y=>UInt8
 |.l t=>List (t.ty T)
 |.m k e=>List (k.ty T×e.ty T)
 |.st n=>T n
 |.a _ _=>Int⊕aj
def HL(T:Nat->Type):List TC->Type
 |[]=>Unit
 |[c]=>c.ty T
 |c::d::r=>c.ty T×HL T (d::r)
abbrev Dy(T:Nat->Type):=(c:TC)×c.ty T
structure lW where
 T:Nat->Type
 M9:(n:Nat)->T n
 fl:Nat->List TC
 cn:Nat->Nat
 out:(n:Nat)->T n->HL T (fl n)
 inj:(n:Nat)->HL T (fl n)->T n
 enc:(n:Nat)->T n->List V
 ro:Nat->EV.Obj
 go:Nat->(c:TC)->c.ty T->EV.Obj:=λ_ _ _=>.gen gone
 gl:Nat->Option (Nat×Nat×List aj):=λ_=>bh
 ga:Nat->Option (Nat×Dy T×List V):=λ_=>bh
 om:Bool:=bf
section
variable(S:lW)
def zw:TC->Nat
 |.st n=>S.cn n
 |_=>1
def ub:(c:TC)->c.ty S.T->List V
 |.i k,n=>[.int k n]
 |.b,t=>[.bool t]
 |.s,x=>[.str x]
 |.y,x=>[.int .u8 (UInt8.toNat x)]
 |.l t,l=>[.vs (zw S t) (l.map (ub t))]
 |.m _ _,_=>[.undef]
 |.st n,x=>S.enc n x
 |.a ti ts,x=>[M0 ti ts x]
def qM:(c:TC)->c.ty S.T->V
 |.i k,n=>.int k n
 |.b,t=>.bool t
 |.s,x=>.str x
 |.y,x=>.int .u8 (UInt8.toNat x)
 |.l t,l=>.vs (zw S t) (l.map (ub S t))
 |.m _ _,_=>.undef
 |.st n,x=>.agg (S.enc n x)
 |.a ti ts,x=>M0 ti ts x
def MA:(c:TC)->c.ty S.T
 |.i _=>(0:Int)
 |.b=>bf
 |.s=>([]:aj)
 |.y=>(0:UInt8)
 |.l _=>[]
 |.m _ _=>[]
 |.st n=>S.M9 n
 |.a _ _=>.inl (0:Int)
def D3:(cs:List TC)->HL S.T cs->List V
 |[],_=>[]
 |[c],x=>ub S c x
 |c::d::r,x=>ub S c x.1++D3 (d::r) x.2
structure lW.OK:Prop where
 CR:∀n x,S.enc n x=D3 S (S.fl n) (S.out n x)
 GI:∀n h,S.out n (S.inj n h)=h
 len:∀n x,(S.enc n x).length=S.cn n
 one:∀n x,(S.enc n x).all V.one=bg
 refs:∀n x,y8 (S.enc n x)=[]
 Pm:S.ro 0=.gen gone
 XV:∀i σ,(S.ro i).gz σ=S.ro i
 NA:∀i,(S.ro i).refs=[]
 XT:∀i k,iw [(k,S.ro i)]=[(k,S.ro i)]
 W_:∀i c x σ,(S.go i c x).gz σ=S.go i c x:=by intros;rfl
 M':∀i c x,(S.go i c x).refs=[]:=by intros;rfl
 W8:∀i c x k,iw [(k,S.go i c x)]=[(k,S.go i c x)]:=by intros;rfl
 V_:∀t i d cs,S.ga t=aY (i,d,cs)->∀m Z w k,Holds m Z w k (.box t cs)->Holds m Z w k (S.go i d.1 d.2)/\∀b,gT m (k,S.go i d.1 d.2) b->gT m (k,.box t cs) b:=by intro t i d cs h;cases h
 ggl:∀i c x k,ab_ (k,S.go i c x)=bf:=by intros;rfl
 my:∀i g t l,S.gl i=aY (g,t,l)->∃ob,S.ro i=.my g ob (l.map V.str):=by intro i g t l h;cases h
 gom:S.om=bg->∀(kc ec:TC)(x:List (List (kc.ty S.T×ec.ty S.T))),S.go 7 (.l (.m kc ec)) x=.gen (Pt (x.map (rH (qM S kc) (qM S ec)))):=by intro h;cases h
end
inductive A(T:Nat->Type) where
 |raw (v:V)
 |iR (c:TC) (x:c.ty T)
 |ag (cs:List (A T))
 |ij (xs:List (A T))
 |rh (sz k n:Nat)
 |oh (k:Nat)
 |nh (sz k n:Nat)
 |rp (k L i off sz:Nat)
 |vp (c:TC) (x:c.ty T) (off:Nat)
 |fn (f:Nat) (first ml:List (A T))
 |lN (t:Nat) (a:A T)
section
variable{S:lW}
mutual
def A.v:A S.T->V
 |.raw v=>v
 |.iR c x=>qM S c x
 |.ag cs=>.agg (A.vs cs)
 |.ij xs=>.ij (A.vs xs)
 |.rh sz k n=>.sl sz k n 0 n
 |.oh k=>.gv k aeA
 |.nh sz k n=>.gv k (Nx sz n)
 |.rp k L i off sz=>.ptr k L (i*sz+off)
 |.vp c x off=>.vp (ub S c x) off
 |.fn f a b=>.fn f (A.vs a) (A.vs b)
 |.lN t a=>.lN t a.v
def A.vs:List (A S.T)->List V
 |[]=>[]
 |a::r=>a.v::A.vs r
end
def rD:V->A S.T
 |.int k n=>.iR (.i k) n
 |.bool t=>.iR .b t
 |.str x=>.iR .s x
 |v=>.raw v
def q6:V->A S.T
 |.agg cs=>.ag (cs.map rD)
 |v=>rD v
def Pu(v:V):(rD (S:=S) v).v=v:=by cases v<;>simp[rD,A.v,qM]
def YI:∀l:List V,A.vs (l.map (rD (S:=S)))=l
 |[]=>by simp[A.vs]
 |v::l=>by rw[ig,A.vs,Pu,YI l]
def D4(v:V):(q6 (S:=S) v).v=v:=by
 cases v<;>first|(rw[q6,A.v,YI];done)|simp[q6,rD,A.v,qM]
def xp:∀l:List (A S.T),A.vs l=l.map A.v
 |[]=>by simp[A.vs]
 |a::l=>by rw[A.vs,xp l,ig]
def kV(l:List (A S.T)):(A.vs l).length=l.length:=by rw[xp,bM]
def Hy(a b:List (A S.T)):A.vs (a++b)=A.vs a++A.vs b:=by simp only[xp,cO]
end
inductive Fz where
 |zero
 |all
 |pre (n:Nat)
def Fz.n(L:Nat):Fz->Nat
 |.zero=>0
 |.all=>L
 |.pre n=>n
structure acA{α:Type}(l:List α) where
 n:Nat
 h:l.length=n
inductive OA(T:Nat->Type) where
 |box (t:Nat) (cs:List (A T))
 |row (e:Nat) (c:TC) (fz:Fz) (l:List (c.ty T)) (w:acA l)
 |map (kc ec:TC) (l:List (kc.ty T×ec.ty T))
 |rw(i:Nat)
 |gn (i:Nat) (c:TC) (x:c.ty T)
abbrev AE(T:Nat->Type):=List (Nat×A T)
abbrev AH(T:Nat->Type):=List (Nat×OA T)
section
variable{S:lW}
def OA.o:OA S.T->EV.Obj
 |.box t cs=>.box t (A.vs cs)
 |.row e c fz l _=>.row e (zw S c) (fz.n l.length) (l.map (ub S c))
 |.map kc ec l=>.map (rH (qM S kc) (qM S ec) l)
 |.rw i=>S.ro i
 |.gn i c x=>S.go i c x
def eV(E:AE S.T):Env:=E.map λp=>(p.1,p.2.v)
def hV(H:AH S.T):aw:=H.map λp=>(p.1,p.2.o)
def AE.get:AE S.T->Nat->A S.T
 |[],_=>.raw .undef
 |(d,a)::r,t=>bif bk t d then a else AE.get r t
def AH.get:AH S.T->Nat->Option (OA S.T)
 |[],_=>bh
 |(k,o)::r,j=>bif bk j k then aY o else AH.get r j
def AH.set:AH S.T->Nat->OA S.T->AH S.T
 |[],_,_=>[]
 |(k',o')::r,k,o=>bif bk k k' then(k',o)::r else(k',o')::AH.set r k o
def AH.has(k:Nat):AH S.T->Bool
 |[]=>bf
 |(k',_)::r=>bif bk k k' then bg else AH.has k r
def Ju(E:AE S.T)(t:Nat):(eV E).get t=(E.get t).v:=by
 induction E with
 |nil=>simp[eV,Env.get,AE.get,A.v]
 |cons p r ih =>
  obtain⟨d,a⟩:=p;simp only[eV,ig,Env.get,AE.get]at ih ⊢
  cases bk t d with
  |true=>rfl
  |false=>exact ih
def DN(H:AH S.T)(k:Nat):(hV H).get k=(H.get k).map OA.o:=by
 induction H with
 |nil=>rfl
 |cons p r ih =>
  obtain⟨d,a⟩:=p;simp only[hV,ig,aw.get,AH.get]at ih ⊢
  cases bk k d with
  |true=>rfl
  |false=>exact ih
def TR(H:AH S.T):keys (hV H)=H.map (·.1):=by simp[keys,hV]
def zA8(a b:AH S.T):hV (a++b)=hV a++hV b:=by simp[hV]
def ow(H:AH S.T)(k:Nat):jP k (hV H)=H.has k:=by
 induction H with
 |nil=>rfl
 |cons p r ih =>
  obtain⟨d,a⟩:=p;simp only[hV,ig,jP,AH.has]at ih ⊢
  cases bk k d with
  |true=>rfl
  |false=>exact ih
def Ux(H:AH S.T)(k:Nat)(o:OA S.T):hV (H.set k o)=(hV H).set k o.o:=by
 induction H with
 |nil=>rfl
 |cons p r ih =>
  obtain⟨d,a⟩:=p;simp only[hV,ig,aw.set,AH.set]at ih ⊢
  cases bk k d with
  |true=>rfl
  |false=>simp only[cf,ig,ih]
def M7:V->A S.T
 |.bool b=>.raw (.bool b)
 |v=>q6 v
def zA9(v:V):(M7 (S:=S) v).v=v:=by
 unfold M7;split
 .simp[A.v]
 .exact D4 _
def ib(E:AE S.T):bE->A S.T
 |.tmp t=>E.get t
 |.const v=>M7 (Cf v)
 |.global _=>.raw .undef
 |.func f=>.fn f [] []
def zY(E:AE S.T)(x:bE):fQ (eV E) x=(ib E x).v:=by
 cases x with
 |tmp t=>exact Ju E t
 |const v=>exact(zA9 _).symm
 |global g=>simp[fQ,ib,A.v]
 |func f=>simp[fQ,ib,A.v,A.vs]
end
inductive Pg:Type->Type 1 where
 |fail {R:Type}:Pg R
 |ret {R:Type} (o:Option R):Pg R
 |lD {R α:Type} (o:Option α) (k:α->Pg R):Pg R
 |rv {R:Type} (b:Bool) (x y:Pg R):Pg R
 |jn {R S:Type} (p:Pg S) (k:S->Pg R):Pg R
 |jr {R R0 S:Type} (p:Pg (R0⊕S)) (l:R0->Option R) (k:S->Pg R):Pg R
 |nW {R α:Type} (a b:α) (p:Pg R):Pg R
 |tC {R α:Type} (o:Option α) (l:α->Pg R) (k:Pg R):Pg R
 |lp {R R0 X:Type} (p:X->Pg R0) (f:X->Option R0) (k:Pg R):Pg R
def yg{R0 S R:Type}(l:R0->Option R)(k:S->Option R):R0⊕S->Option R
 |.inl r=>l r
 |.inr s=>k s
def orC{α R:Type}(o:Option α)(l:α->Option R)(k:Option R):Option R:=match o with
 |some a=>l a
 |none=>k
def Pg.run:{R:Type}->Pg R->Option R
 |_,.fail=>bh
 |_,.ret o=>o
 |_,.lD o k=>o.bind λa=>(k a).run
 |_,.rv b x y=>bif b then x.run else y.run
 |_,.jn p k=>p.run.bind λs=>(k s).run
 |_,.jr p l k=>p.run.bind (yg l λs=>(k s).run)
 |_,.nW _ _ p=>p.run
 |_,.tC o l k=>orC o (λa=>(l a).run) k.run
 |_,.lp _ _ k=>k.run
def Pg.ob:{R:Type}->Pg R->Prop
 |_,.fail=>True
 |_,.ret _=>True
 |_,.lD _ k=>∀a,(k a).ob
 |_,.rv _ x y=>x.ob/\y.ob
 |_,.jn p k=>p.ob/\∀s,(k s).ob
 |_,.jr p _ k=>p.ob/\∀s,(k s).ob
 |_,.nW a b p=>a=b/\p.ob
 |_,.tC _ l k=>(∀a,(l a).ob)/\k.ob
 |_,.lp p f k=>(∀x,(p x).run=f x/\(p x).ob)/\k.ob
inductive Tr:Type 1 where
 |nil
 |all {α:Type} (f:α->Tr)
 |two (x y:Tr)
 |note {α:Type} (a:α) (t:Tr)
def Pg.tr(t:Bool):{R:Type}->Pg R->Tr
 |_,.fail=>.nil
 |_,.ret _=>.nil
 |_,.lD _ k=>.all λa=>(k a).tr t
 |_,.rv _ x y=>.two (x.tr t) (y.tr t)
 |_,.jn p k=>.two (p.tr t) (.all λs=>(k s).tr t)
 |_,.jr p _ k=>.two (p.tr t) (.all λs=>(k s).tr t)
 |_,.nW a b p=>.note (bif t then a else b) (p.tr t)
 |_,.tC _ l k=>.two (.all λa=>(l a).tr t) (k.tr t)
 |_,.lp p f k=>.two (.all λx=>.note (bif t then(p x).run else f x) ((p x).tr t)) (k.tr t)
def wi:{R:Type}->(p:Pg R)->p.tr bg=p.tr bf->p.ob
 |_,.fail,_=>trivial
 |_,.ret _,_=>trivial
 |_,.lD _ k,h=>λa=>wi (k a) (by
   simp only[Pg.tr,Tr.all.injEq,heq_eq_eq,true_and]at h
   exact congrFun h a)
 |_,.rv _ x y,h=>by
   simp only[Pg.tr,Tr.two.injEq]at h;exact⟨wi x h.1,wi y h.2⟩
 |_,.jn p k,h=>by
   simp only[Pg.tr,Tr.two.injEq,Tr.all.injEq,heq_eq_eq,true_and]at h;exact⟨wi p h.1,λs=>wi (k s) (congrFun h.2 s)⟩
 |_,.jr p _ k,h=>by
   simp only[Pg.tr,Tr.two.injEq,Tr.all.injEq,heq_eq_eq,true_and]at h;exact⟨wi p h.1,λs=>wi (k s) (congrFun h.2 s)⟩
 |_,.nW a b p,h=>by
   simp only[Pg.tr,Tr.note.injEq,heq_eq_eq,true_and,ct,cf]at h;exact⟨h.1,wi p h.2⟩
 |_,.tC _ l k,h=>by
   simp only[Pg.tr,Tr.two.injEq,Tr.all.injEq,heq_eq_eq,true_and]at h;exact⟨λa=>wi (l a) (congrFun h.1 a),wi k h.2⟩
 |_,.lp p f k,h=>by simp only[Pg.tr,Tr.two.injEq,Tr.all.injEq,heq_eq_eq,true_and]at h;refine⟨λx=>?_,wi k h.2⟩;have h1:=congrFun h.1 x;simp only[Tr.note.injEq,heq_eq_eq,true_and,ct,cf]at h1;exact⟨h1.1,wi (p x) h1.2⟩
def Pg.Is{R:Type}(p:Pg R)(r:R):Prop:=p.run=aY r/\p.ob
section
variable{R:Type}{r:R}
def Is.ret{o:Option R}(h:(Pg.ret o).Is r):o=aY r:=h.1
def Is.fail(h:(Pg.fail:Pg R).Is r):False:=by cases h.1
def Is.lD{α:Type}{o:Option α}{k:α->Pg R}(h:(Pg.lD o k).Is r):∃a,o=aY a/\(k a).Is r:=by obtain⟨h1,h2⟩:=h;obtain⟨a,e,h3⟩:=cQ.1 h1;exact⟨a,e,h3,h2 a⟩
def Is.rv{b:Bool}{x y:Pg R}(h:(Pg.rv b x y).Is r):(b=bg->x.Is r)/\(b=bf->y.Is r):=by obtain⟨h1,h2,h3⟩:=h;exact⟨λe=>by subst e;exact⟨h1,h2⟩,λe=>by subst e;exact⟨h1,h3⟩⟩
def Is.jn{S:Type}{p:Pg S}{k:S->Pg R}(h:(Pg.jn p k).Is r):∃s,p.Is s/\(k s).Is r:=by obtain⟨h1,h2,h3⟩:=h;obtain⟨s,e,h4⟩:=cQ.1 h1;exact⟨s,⟨e,h2⟩,h4,h3 s⟩
def Is.jr{R0 S:Type}{p:Pg (R0⊕S)}{l:R0->Option R}{k:S->Pg R}(h:(Pg.jr p l k).Is r):(∃q,p.Is (.inl q)/\l q=aY r)∨∃s,p.Is (.inr s)/\(k s).Is r:=by
 obtain⟨h1,h2,h3⟩:=h;obtain⟨z,e,h4⟩:=cQ.1 h1
 cases z with
 |inl q=>exact .inl ⟨q,⟨e,h2⟩,h4⟩
 |inr s=>exact .inr ⟨s,⟨e,h2⟩,h4,h3 s⟩
def Is.tC{α:Type}{o:Option α}{l:α->Pg R}{k:Pg R}(h:(Pg.tC o l k).Is r):(∃a,o=aY a/\(l a).Is r)∨(o=bh/\k.Is r):=by
 obtain⟨h1,h2,h3⟩:=h
 cases o with
 |some a=>exact .inl ⟨a,rfl,h1,h2 a⟩
 |none=>exact .inr ⟨rfl,h1,h3⟩
def Is.lp{R0 X:Type}{p:X->Pg R0}{f:X->Option R0}{k:Pg R}(h:(Pg.lp p f k).Is r):(∀x z,f x=aY z->(p x).Is z)/\k.Is r:=⟨λx z e=>⟨(h.2.1 x).1.trans e,(h.2.1 x).2⟩,h.1,h.2.2⟩
def Is.nW{α:Type}{a b:α}{p:Pg R}(h:(Pg.nW a b p).Is r):a=b/\p.Is r:=⟨h.2.1,h.1,h.2.2⟩
end
inductive Tp where
 |lF|iO|lZ|lP|mn|no|Fh
 |d (c:TC) (j:Nat)
 |ptr (k off:Nat)
 |mp (k:Nat)
 |row (sz k:Nat)
 |om (k:Nat)
 |rj (sz k:Nat)
 |rp (sz k j off:Nat)
 |ci (k:IntKind) (n:Int)
 |ag (l:List Tp)
 |ij (l:List Tp)
 |fn (f:Nat) (a b:List Tp)
 |lN (t:Nat) (a:Tp)
inductive TO where
 |box (t:Nat) (cs:List Tp)
 |row (e:Nat) (c:TC) (j:Nat) (fz:Bool)
 |map (kc ec:TC) (j:Nat)
 |rw(i:Nat)
 |gn (i:Nat) (c:TC) (j:Nat)
structure Tm where
 sl:List (Nat×Tp)
 hp:List (Nat×TO)
 cs:List TC
 vs:List TC
section
variable{S:lW}
def KZ(ds:List (Dy S.T))(j:Nat)(c:TC):c.ty S.T:=
 match ds[j]? with
 |some ⟨c',x⟩=>if h:c'=c then h▸x else MA S c
 |none=>MA S c
def xN:(cs:List TC)->HL S.T cs->List (Dy S.T)
 |[],_=>[]
 |[c],x=>[⟨c,x⟩]
 |c::d::r,x=>⟨c,x.1⟩::xN (d::r) x.2
def SK:∀(cs:List TC)(x:HL S.T cs),(xN cs x).length=cs.length
 |[],_=>rfl
 |[c],x=>rfl
 |c::d::r,x=>by simp only[xN,lX,SK (d::r) x.2]
def Br(ds:List (Dy S.T)):List (Nat×TO)->Nat->Nat
 |[],_=>0
 |(k',.row _ c j _)::r,k=>bif bk k k' then(KZ ds j (.l c):List (c.ty S.T)).length else Br ds r k
 |_::r,k=>Br ds r k
mutual
def Tp.put(hp:List (Nat×TO))(ds:List (Dy S.T)):Tp->A S.T
 |.lF=>.raw .lF
 |.iO=>.raw .iO
 |.lZ=>.raw .lZ
 |.lP=>.raw .lP
 |.mn=>.raw .mn
 |.no=>.raw .no
 |.Fh=>.raw .undef
 |.d c j=>.iR c (KZ ds j c)
 |.ptr k off=>.raw (.ptr k 0 off)
 |.mp k=>.raw (.mp k)
 |.row sz k=>.rh sz k (Br ds hp k)
 |.om k=>.oh k
 |.rj sz k=>.nh sz k (Br ds hp k)
 |.rp sz k j off=>.rp k (Br ds hp k) (bB (KZ ds j (.i .i64))) off sz
 |.ci k n=>.iR (.i k) n
 |.ag l=>.ag (Tp.lK hp ds l)
 |.ij l=>.ij (Tp.lK hp ds l)
 |.fn f a b=>.fn f (Tp.lK hp ds a) (Tp.lK hp ds b)
 |.lN t a=>.lN t (a.put hp ds)
def Tp.lK(hp:List (Nat×TO))(ds:List (Dy S.T)):List Tp->List (A S.T)
 |[]=>[]
 |t::r=>t.put hp ds::Tp.lK hp ds r
end
def TO.put(hp:List (Nat×TO))(ds:List (Dy S.T)):TO->OA S.T
 |.box t cs=>.box t (Tp.lK hp ds cs)
 |.row e c j fz=>.row e c (bif fz then .all else .zero) (KZ ds j (.l c)) ⟨_,rfl⟩
 |.map kc ec j=>.map kc ec (KZ ds j (.m kc ec))
 |.rw i=>.rw i
 |.gn i c j=>.gn i c (KZ ds j c)
def K1(hp:List (Nat×TO))(ds:List (Dy S.T)):AH S.T:=hp.map λp=>(p.1,p.2.put hp ds)
def oP(hp:List (Nat×TO))(sl:List (Nat×Tp))(ds:List (Dy S.T)):AE S.T:=sl.map λp=>(p.1,p.2.put hp ds)
structure Rx(α:Type) where
 x:α
 fz:List Nat
 eq:List (Nat×Nat)
def aew:(c:TC)->Option (Rx (c.ty S.T))
 |.l _=>aY ⟨([]:List _),[],[]⟩
 |_=>bh
def pg(H:AH S.T)(sz k n:Nat):(c:TC)->Option (Rx (c.ty S.T))
 |.l t=>match H.get k with
  |some (.row _ t' _ l w)=>if h:t'=t then bif bk sz (zw S t)then aY ⟨(h▸l:List (t.ty S.T)),[k],[(n,w.n)]⟩else bh else bh
  |_=>bh
 |_=>bh
def acJ(b:Bool):(c:TC)->Option (Rx (c.ty S.T))
 |.b=>aY ⟨b,[],[]⟩
 |_=>bh
def Ns(t:Nat)(a:A S.T):(c:TC)->Option (Rx (c.ty S.T))
 |.a ti ts=>match a with
  |.iR .s x=>bif bk t ts then aY ⟨.inr x,[],[]⟩else bh
  |.iR (.i .i64) n=>bif bk t ti then aY ⟨.inl n,[],[]⟩else bh
  |_=>bh
 |_=>bh
def Yh(H:AH S.T)(c:TC):A S.T->Option (Rx (c.ty S.T))
 |.iR c' x=>if h:c'=c then aY ⟨h▸x,[],[]⟩else bh
 |.raw .iO=>aew c
 |.raw (.bool b)=>acJ b c
 |.rh sz k n=>pg H sz k n c
 |.nh sz k n=>pg H sz k n c
 |.lN t a=>Ns t a c
 |_=>bh
mutual
/-- One datum at the head of these cells. -/
def Ko(H:AH S.T):Nat->(c:TC)->List (A S.T)->Option (Rx (c.ty S.T)×List (A S.T))
 |0,_,_=>bh
 |f+1,.st m,cs=>match tG H f (S.fl m) cs with
  |some (⟨h,fz,eq⟩,r)=>aY (⟨S.inj m h,fz,eq⟩,r)
  |none=>bh
 |_+1,c,a::r=>match Yh H c a with
  |some rx=>aY (rx,r)
  |none=>bh
 |_+1,_,[]=>bh
def tG(H:AH S.T):Nat->(cs:List TC)->List (A S.T)->Option (Rx (HL S.T cs)×List (A S.T))
 |0,_,_=>bh
 |_+1,[],asZ=>aY (⟨(),[],[]⟩,asZ)
 |f+1,[c],asZ=>Ko H f c asZ
 |f+1,c::d::r,asZ=>match Ko H f c asZ with
  |some (⟨x,fz,eq⟩,tX)=>match tG H f (d::r) tX with
   |some (⟨y,nw,uD⟩,M3)=>aY (⟨(x,y),fz++nw,eq++uD⟩,M3)
   |none=>bh
  |none=>bh
end
def L4(H:AH S.T)(cs:List (A S.T)):(c:TC)->Option (Rx (c.ty S.T))
 |.st m=>match Ko H 64 (.st m) cs with
  |some (rx,[])=>aY rx
  |_=>bh
 |_=>bh
def Vt(H:AH S.T)(c:TC)(a:A S.T):Option (Rx (c.ty S.T)):=match Yh H c a with
 |some rx=>aY rx
 |none=>match a with
  |.ag cs=>L4 H cs c
  |_=>bh
structure Rd(T:Nat->Type) where
 ps:List (Nat×Dy T):=[]
 ns:List (Nat×Nat):=[]
 fz:List Nat:=[]
 eq:List (Nat×Nat):=[]
def Rd.app{T:Nat->Type}(a b:Rd T):Rd T:=⟨a.ps++b.ps,a.ns++b.ns,a.fz++b.fz,a.eq++b.eq⟩
def sw:List (Nat×TO)->Nat->Option (TC×Nat)
 |[],_=>bh
 |(k',.row _ c j _)::r,k=>bif bk k k' then aY (c,j)else sw r k
 |_::r,k=>sw r k
def Nr(a b:Int):Bool:=decide (a=b)
def zwq{a b:Int}(h:Nr a b=bg):a=b:=aX h
def acK(b:Bool):(c:TC)->Option (c.ty S.T)
 |.b=>aY b
 |_=>bh
def M8(c:TC):A S.T->Option (c.ty S.T)
 |.iR c' x=>if h:c'=c then aY (h▸x)else bh
 |.raw (.bool b)=>acK b c
 |_=>bh
mutual
/-- Reads a value; ex: asZ it is, no row seen asZ data. -/
def Tp.read(hp:List (Nat×TO))(ex:Bool)(H:AH S.T):Tp->A S.T->Option (Rd S.T)
 |.d c j,a=>bif ex then(match M8 c a with
   |some x=>aY ⟨[(j,⟨c,x⟩)],[],[],[]⟩
   |none=>bh)
  else match Vt H c a with
   |some rx=>aY ⟨[(j,⟨c,rx.x⟩)],[],rx.fz,rx.eq⟩
   |none=>bh
 |.lF,.raw .lF=>aY {}
 |.iO,.raw .iO=>aY {}
 |.lZ,.raw .lZ=>aY {}
 |.lP,.raw .lP=>aY {}
 |.mn,.raw .mn=>aY {}
 |.no,.raw .no=>aY {}
 |.ptr k off,.raw (.ptr k' 0 pW)=>bif bk off pW then aY { ns:=[(k,k')] }else bh
 |.mp k,.raw (.mp k')=>aY { ns:=[(k,k')] }
 |.row sz k,.rh lz k' n=>match H.get k',sw hp k with
  |some (.row _ _ _ _ w),aY _=>bif bk sz lz then aY { ns:=[(k,k')],eq:=[(n,w.n)] }else bh
  |_,_=>bh
 |.rj sz k,.nh lz k' n=>match H.get k',sw hp k with
  |some (.row _ _ _ _ w),aY _=>bif bk sz lz then aY { ns:=[(k,k')],eq:=[(n,w.n)] }else bh
  |_,_=>bh
 |.rp sz k j off,.rp k' L i pW lz=>match H.get k',sw hp k with
  |some (.row _ _ _ _ w),aY _=>bif bk sz lz&&bk off pW then aY { ps:=[(j,⟨.i .i64,Int.ofNat i⟩)],ns:=[(k,k')],eq:=[(L,w.n)] }else bh
  |_,_=>bh
 |.om k,.oh k'=>aY { ns:=[(k,k')] }
 |.ci k n,.iR (.i k') m=>bif decide (k'=k)&&Nr m n then aY {}else bh
 |.ag l,.ag l'=>Tp.reads hp ex H l l'
 |.ij l,.ij l'=>Tp.reads hp bg H l l'
 |.fn f a b,.fn f' a' b'=>bif bk f f' then
   match Tp.reads hp bg H a a' with
   |some r=>match Tp.reads hp bg H b b' with
    |some r'=>aY (r.app r')
    |none=>bh
   |none=>bh
  else bh
 |.lN t a,.lN t' a'=>bif bk t t' then a.read hp bg H a' else bh
 |_,_=>bh
def Tp.reads(hp:List (Nat×TO))(ex:Bool)(H:AH S.T):List Tp->List (A S.T)->Option (Rd S.T)
 |[],[]=>aY {}
 |t::r,a::r'=>match t.read hp ex H a with
  |some x=>match Tp.reads hp ex H r r' with
   |some y=>aY (x.app y)
   |none=>bh
  |none=>bh
 |_,_=>bh
end
def Gh:List (Nat×Nat)->Nat->Option Nat
 |[],_=>bh
 |(k,k')::r,j=>bif bk j k then aY k' else Gh r j
def GU:Bool->Fz->Bool
 |true,.all=>bg
 |false,.zero=>bg
 |_,_=>bf
def TO.read(hp:List (Nat×TO))(H:AH S.T):TO->OA S.T->Option (Rd S.T)
 |.box t cs,.box t' ly=>bif bk t t' then Tp.reads hp bg H cs ly else bh
 |.row e c j fz,.row e' c' nw l _=>bif bk e e'&&GU fz nw then
   if h:c'=c then aY { ps:=[(j,⟨.l c,(h▸l:List (c.ty S.T))⟩)] }else bh
  else bh
 |.rw i,.rw j=>bif bk i j then aY {}else bh
 |.gn i c j,.gn i' c' x=>bif bk i i' then(if h:c'=c then aY { ps:=[(j,⟨c,(h▸x:c.ty S.T)⟩)] }else bh)else bh
 |.map kc ec j,.map I5 t_ l=>if h:I5=kc/\t_=ec then aY { ps:=[(j,⟨.m kc ec,(h.1▸h.2▸l:List (kc.ty S.T×ec.ty S.T))⟩)] }else bh
 |_,_=>bh
def ZU(hp:List (Nat×TO))(H:AH S.T):List (Nat×Nat)->List (Nat×TO)->Option (Rd S.T)
 |_,[]=>aY {}
 |ns,(k,o)::r=>match Gh ns k with
  |some k'=>match H.get k' with
   |some o'=>match o.read hp H o' with
    |some x=>match ZU hp H (ns++x.ns) r with
     |some y=>aY (x.app y)
     |none=>bh
    |none=>bh
   |none=>bh
  |none=>bh
def pick(j:Nat)(c:TC):List (Nat×Dy S.T)->Option (c.ty S.T)
 |[]=>bh
 |(j',⟨c',x⟩)::r=>bif bk j j' then(if h:c'=c then aY (h▸x)else bh)else pick j c r
def tF(ps:List (Nat×Dy S.T)):(j:Nat)->(cs:List TC)->Option (HL S.T cs)
 |_,[]=>aY ()
 |j,[c]=>pick j c ps
 |j,c::d::r=>match pick j c ps with
  |some x=>match tF ps (j+1) (d::r)with
   |some y=>aY (x,y)
   |none=>bh
  |none=>bh
end
section
variable{S:lW}
def FW(n off:Nat):Option Nat->Bool
 |some k=>bk k n&&bk off 0
 |none=>bf
mutual
/-- What lies at cell off of a datum: one cell (none), or so many. -/
def BA:Nat->(c:TC)->c.ty S.T->Nat->Option Nat->Option (A S.T)
 |0,_,_,_,_=>bh
 |f+1,.st n,x,off,k=>bif FW (S.cn n) off k then aY (.iR (.st n) x)else BB f (S.fl n) (S.out n x) off k
 |_+1,.m _ _,_,_,_=>bh
 |_+1,c,x,off,k=>bif bk off 0&&k.isNone then aY (.iR c x)else bh
def BB:Nat->(cs:List TC)->HL S.T cs->Nat->Option Nat->Option (A S.T)
 |0,_,_,_,_=>bh
 |_+1,[],_,_,_=>bh
 |f+1,[c],x,off,k=>bif ck (off+1) (zw S c)then BA f c x off k else bh
 |f+1,c::d::r,x,off,k=>bif ck (off+1) (zw S c)then BA f c x.1 off k else BB f (d::r) x.2 (off-zw S c) k
end
def CU(cs:List (A S.T))(off:Nat):Option Nat->Option (A S.T)
 |none=>match cs[off]? with|some a=>bif a.v.one then aY a else bh|none=>bh
 |some k=>bif ck (off+k) cs.length then aY (.ag ((cs.drop off).take k))else bh
mutual
/-- A datum asZ cells. -/
def Cr:Nat->(c:TC)->c.ty S.T->Option (List (A S.T))
 |0,_,_=>bh
 |f+1,.st n,x=>D5 f (S.fl n) (S.out n x)
 |_+1,.m _ _,_=>bh
 |_+1,c,x=>aY [.iR c x]
def D5:Nat->(cs:List TC)->HL S.T cs->Option (List (A S.T))
 |0,_,_=>bh
 |_+1,[],_=>aY []
 |f+1,[c],x=>Cr f c x
 |f+1,c::d::r,x=>match Cr f c x.1 with
  |some u=>match D5 f (d::r) x.2 with
   |some v=>aY (u++v)
   |none=>bh
  |none=>bh
end
def A.cells:A S.T->Option (List (A S.T))
 |.iR c x=>Cr 64 c x
 |.ag cs=>aY cs
 |.raw .undef=>bh
 |.raw .no=>bh
 |.raw (.agg _)=>bh
 |a=>aY [a]
def D6(places:List (Nat×Nat))(cells:List (A S.T)):List (Nat×A S.T)->Option (List (A S.T))
 |[]=>aY cells
 |(i,a)::rest=>match places[i]? with
  |none=>bh
  |some (off,size)=>match a.cells with
   |none=>bh
   |some u=>bif bk u.length size&&ck (off+size) cells.length then D6 places (cells.take off++u++cells.drop (off+size)) rest else bh
def zwr(hS:S.OK):∀(c:TC)(x:c.ty S.T),(∀k e,c≠.m k e)->(ub S c x).all V.one=bg
 |.i _,_,_=>rfl
 |.b,_,_=>rfl
 |.s,_,_=>rfl
 |.y,_,_=>rfl
 |.a _ _,x,_=>by cases x<;>rfl
 |.l _,_,_=>rfl
 |.m k e,_,h=>aQ rfl (h k e)
 |.st n,x,_=>hS.one n x
def zsw:∀(c:TC)(x:c.ty S.T),(∀n,c≠.st n)->(∀k e,c≠.m k e)->ub S c x=[qM S c x]/\(qM S c x).one=bg/\zw S c=1
 |.i _,_,_,_=>⟨rfl,rfl,rfl⟩
 |.b,_,_,_=>⟨rfl,rfl,rfl⟩
 |.s,_,_,_=>⟨rfl,rfl,rfl⟩
 |.y,_,_,_=>⟨rfl,rfl,rfl⟩
 |.a _ _,x,_,_=>by cases x<;>exact⟨rfl,rfl,rfl⟩
 |.l _,_,_,_=>⟨rfl,rfl,rfl⟩
 |.m k e,_,_,h=>aQ rfl (h k e)
 |.st n,_,h,_=>aQ rfl (h n)
mutual
def QW(hS:S.OK):∀(f:Nat)(c:TC)(x:c.ty S.T)(cs:List (A S.T)),Cr f c x=aY cs->A.vs cs=ub S c x
 |0,_,_,_,h=>by cases h
 |f+1,.st n,x,cs,h=>by
  rw[Cr]at h;exact(Sm hS f _ _ _ h).trans (hS.CR n x).symm
 |_+1,.m _ _,_,_,h=>by cases h
 |_+1,.i _,x,cs,h=>by cases h;rfl
 |_+1,.b,x,cs,h=>by cases h;rfl
 |_+1,.s,x,cs,h=>by cases h;rfl
 |_+1,.y,x,cs,h=>by cases h;rfl
 |_+1,.a _ _,x,cs,h=>by cases h;rfl
 |_+1,.l _,x,cs,h=>by cases h;rfl
def Sm(hS:S.OK):∀(f:Nat)(l:List TC)(x:HL S.T l)(cs:List (A S.T)),D5 f l x=aY cs->A.vs cs=D3 S l x
 |0,_,_,_,h=>by cases h
 |_+1,[],_,cs,h=>by cases h;rfl
 |f+1,[c],x,cs,h=>by
  rw[D5]at h;exact QW hS f c x cs h
 |f+1,c::d::r,x,cs,h=>by
  rw[D5]at h;split at h
  .rename_i u hu;split at h
   .rename_i v hv;cases h;rw[Hy,QW hS f c x.1 u hu,Sm hS f (d::r) x.2 v hv];rfl
   .cases h
  .cases h
end
def A.GK(hS:S.OK){a:A S.T}{cs:List (A S.T)}(h:a.cells=aY cs):A.vs cs=a.v.cells/\a.v.plain=bg:=by
 cases a with
 |raw v=>cases v<;>first|(cases h;done)|(cases h;exact⟨rfl,rfl⟩)
 |iR c x =>
  have h1:=QW hS _ c x cs h
  cases c<;>first|(cases h;done)|exact⟨h1,rfl⟩|(cases x<;>exact⟨h1,rfl⟩)
 |ag l=>cases h;exact⟨rfl,rfl⟩
 |ij l=>cases h;exact⟨rfl,rfl⟩
 |rh=>cases h;exact⟨rfl,rfl⟩
 |oh=>cases h;exact⟨rfl,rfl⟩
 |nh=>cases h;exact⟨rfl,rfl⟩
 |rp=>cases h;exact⟨rfl,rfl⟩
 |vp=>cases h;exact⟨rfl,rfl⟩
 |fn=>cases h;exact⟨rfl,rfl⟩
 |lN=>cases h;exact⟨rfl,rfl⟩
def Part(cs:List V)(off:Nat)(k:Option Nat)(v:V):Prop:=match k with
 |none=>cs[off]?=aY v/\v.one=bg
 |some k=>off+k<=cs.length/\v=.agg ((cs.drop off).take k)
def Part.left{cs ds:List V}{off:Nat}{k:Option Nat}{v:V}(h:Part cs off k v):Part (cs++ds) off k v:=by
 cases k with
 |none =>
  have:=(bq.1 h.1).1;exact⟨by rw[cR this];exact h.1,h.2⟩
 |some k =>
  have h1:off+k<=cs.length:=h.1;refine⟨by rw[pa];omega,?_⟩;rw[h.2,List.drop_append_of_le_length ab,List.take_append_of_le_length (by rw[cS];omega)]
def Part.right{cs ds:List V}{off:Nat}{k:Option Nat}{v:V}(ho:cs.length<=off)(h:Part ds (off-cs.length) k v):Part (cs++ds) off k v:=by
 cases k with
 |none=>exact⟨by rw[dX ho];exact h.1,h.2⟩
 |some k =>
  have h1:off-cs.length+k<=ds.length:=h.1;refine⟨by rw[pa];omega,?_⟩;rw[h.2,List.drop_append,dx ho,cq]
def Part.at{P:bl}{t off:Nat}{cs:List V}{k:Option Nat}{v:V}(hk:qs P t=aY k)(h:Part cs off k v):mQ P t cs off=aY v:=by
 unfold mQ;rw[hk]
 cases k with
 |none=>simp only[h.1,h.2,if_true]
 |some k=>simp only[show ck (off+k) cs.length=bg from dB h.1,if_true,h.2]
def wZ(hS:S.OK):∀(c:TC)(x:c.ty S.T),(ub S c x).length=zw S c
 |.i _,_=>rfl
 |.b,_=>rfl
 |.s,_=>rfl
 |.y,_=>rfl
 |.a _ _,_=>rfl
 |.l _,_=>rfl
 |.m _ _,_=>rfl
 |.st n,x=>hS.len n x
def AV(c:TC)(x:c.ty S.T)(h1:∀n,c≠.st n)(h2:∀k e,c≠.m k e){off:Nat}{k:Option Nat}{a:A S.T}(h:(bif bk off 0&&k.isNone then aY (A.iR c x)else bh)=aY a):Part (ub S c x) off k a.v:=by
 cases hb:bk off 0&&k.isNone with
 |false=>rw[hb]at h;cases h
 |true =>
  rw[hb]at h;cases h;simp only[bn]at hb;have h0:=eb hb.1;subst h0;obtain⟨e1,e2,_⟩:=zsw c x h1 h2
  cases k with
  |none=>exact⟨by rw[e1];rfl,e2⟩
  |some k=>simp at hb
mutual
def Jv(hS:S.OK):∀(f:Nat)(c:TC)(x:c.ty S.T)(off:Nat)(k:Option Nat)(a:A S.T),BA f c x off k=aY a->Part (ub S c x) off k a.v
 |0,_,_,_,_,_,h=>by cases h
 |f+1,.st n,x,off,k,a,h=>by
  change (bif FW (S.cn n) off k then aY (A.iR (.st n) x)else BB f (S.fl n) (S.out n x) off k)=aY a at h
  cases hb:FW (S.cn n) off k with
  |true =>
   rw[hb]at h;cases h
   cases k with
   |none=>cases hb
   |some k =>
    simp only[FW,bn]at hb;have h0:=eb hb.1;have h1:=eb hb.2;subst h0;subst h1;have hl:=hS.len n x;refine⟨?_,?_⟩
    .show 0+S.cn n<=(S.enc n x).length
     omega
    .show V.agg (S.enc n x)=.agg ((S.enc n x).drop 0 |>.take (S.cn n))
     rw[List.drop_zero,<- hl,List.take_length]
  |false =>
   rw[hb]at h;have:=Sn hS f _ _ _ _ _ h
   show Part (S.enc n x) off k a.v
   rw[hS.CR n x];exact this
 |_+1,.m _ _,_,_,_,_,h=>by cases h
 |_+1,.i _,x,off,k,a,h=>AV _ x (λ_ e=>by cases e) (λ_ _ e=>by cases e) h
 |_+1,.b,x,off,k,a,h=>AV _ x (λ_ e=>by cases e) (λ_ _ e=>by cases e) h
 |_+1,.y,x,off,k,a,h=>AV _ x (λ_ e=>by cases e) (λ_ _ e=>by cases e) h
 |_+1,.a _ _,x,off,k,a,h=>AV _ x (λ_ e=>by cases e) (λ_ _ e=>by cases e) h
 |_+1,.s,x,off,k,a,h=>AV _ x (λ_ e=>by cases e) (λ_ _ e=>by cases e) h
 |_+1,.l _,x,off,k,a,h=>AV _ x (λ_ e=>by cases e) (λ_ _ e=>by cases e) h
def Sn(hS:S.OK):∀(f:Nat)(l:List TC)(x:HL S.T l)(off:Nat)(k:Option Nat)(a:A S.T),BB f l x off k=aY a->Part (D3 S l x) off k a.v
 |0,_,_,_,_,_,h=>by cases h
 |_+1,[],_,_,_,_,h=>by cases h
 |f+1,[c],x,off,k,a,h=>by
  rw[BB]at h
  cases hb:ck (off+1) (zw S c)with
  |true=>rw[hb]at h;exact Jv hS f c x off k a h
  |false=>rw[hb]at h;cases h
 |f+1,c::d::r,x,off,k,a,h=>by
  rw[BB]at h
  cases hb:ck (off+1) (zw S c)with
  |true=>rw[hb]at h;exact(Jv hS f c x.1 off k a h).left
  |false =>
   rw[hb]at h
   have iB:zw S c<=off:=by
    have:¬off+1<=zw S c:=λh'=>by rw[dB h']at hb;cases hb
    omega
   refine Part.right (by rw[wZ hS];exact iB) ?_;rw[wZ hS];exact Sn hS f (d::r) x.2 _ k a h
end
def Sp{cs:List (A S.T)}{off:Nat}{k:Option Nat}{a:A S.T}(h:CU cs off k=aY a):Part (A.vs cs) off k a.v:=by
 cases k with
 |none =>
  simp only[CU]at h;split at h
  .rename_i b hb
   cases ho:b.v.one with
   |true =>
    rw[ho]at h;cases h;exact⟨by rw[xp,cw,hb];rfl,ho⟩
   |false=>rw[ho]at h;cases h
  .cases h
 |some k =>
  simp only[CU]at h
  cases hb:ck (off+k) cs.length with
  |true =>
   rw[hb]at h;cases h;refine⟨by rw[kV];exact lR hb,?_⟩;simp only[A.v,xp,eh,ej]
  |false=>rw[hb]at h;cases h
def LK(hS:S.OK)(places:List (Nat×Nat)):∀(parts:List (Nat×A S.T))(cells out:List (A S.T)),D6 places cells parts=aY out->Vk places (A.vs cells) (parts.map λp=>(p.1,p.2.v))=aY (A.vs out)
 |[],cells,out,h=>by cases h;rfl
 |(i,a)::rest,cells,out,h=>by
  simp only[D6]at h;simp only[ig,Vk];split at h
  .cases h
  .rename_i off size hp;rw[hp];split at h
   .cases h
   .rename_i u hu;obtain⟨e1,e2⟩:=A.GK hS hu
    cases hb:bk u.length size&&ck (off+size) cells.length with
    |false=>rw[hb]at h;cases h
    |true =>
     rw[hb]at h;have ih:=LK hS places rest _ _ h;rw[Hy,Hy,xp (List.take off cells),xp (gN (off+size) cells),eh,ej,<- xp,e1]at ih;simp only[e2,<- e1,kV,hb,fU,if_true];rw[e1];exact ih
end
section
variable{S:lW}
def Uy(P:bl)(s f:Nat):Option (Nat×Nat):=match P.underlying s with
 |some (.struct fs)=>match fs[f]? with
  |some nH=>aY (nH.type,nH.offset)
  |none=>bh
 |_=>bh
def L5(P:bl)(t:Nat)(parts:List (Nat×A S.T)):Option (List (A S.T)):=
 match P.info? t,P.underlying t with
 |some it,aY (.struct fields) =>
  match it.zero,fields.toList.mapM (λf=>(P.info? f.type).map λi=>(f.offset,i.size))with
  |some z,aY places=>D6 places ((z.cells.toList.map pN).map rD) parts
  |_,_=>bh
 |some it,aY (.array n e) =>
  match it.zero,P.info? e with
  |some z,aY ie=>D6 ((dc n).map λi=>(i*ie.size,ie.size)) ((z.cells.toList.map pN).map rD) parts
  |_,_=>bh
 |_,_=>bh
def zsx(hS:S.OK){P:bl}{t:Nat}{parts:List (Nat×A S.T)}{cs:List (A S.T)}(h:L5 P t parts=aY cs):F3 P t (parts.map λp=>(p.1,p.2.v))=aY (A.vs cs):=by
 unfold L5 at h;unfold F3;split at h
 .rename_i it fields e1 e2;rw[e1,e2];simp only;split at h
  .rename_i z places e3 e4;rw[e3,e4];have:=LK hS _ _ _ _ h;rw[YI]at this;exact this
  .cases h
 .rename_i it n e e1 e2;rw[e1,e2];simp only;split at h
  .rename_i z ie e3 e4;rw[e3,e4];have:=LK hS _ _ _ _ h;rw[YI]at this;exact this
  .cases h
 .cases h
def L6(P:bl)(s f:Nat)(a:A S.T):Option (A S.T):=match Uy P s f with
 |some (t,o)=>match qs P t with
  |some k=>match a with
   |.iR (.st n) x=>BA 64 (.st n) x o k
   |.ag cs=>CU cs o k
   |_=>bh
  |none=>bh
 |none=>bh
def zsy(hS:S.OK){P:bl}{s f:Nat}{a b:A S.T}(h:L6 P s f a=aY b):∃cs,a.v=.agg cs/\DM P s f cs=aY b.v:=by
 unfold L6 at h;split at h
 .rename_i t o e1
  have e2:∀cs,DM P s f cs=mQ P t cs o:=λcs=>by
   unfold Uy at e1;unfold DM;split at e1
   .split at e1
    .rename_i fs e3 _ nH e4;simp only[e3,e4];cases e1;rfl
    .cases e1
   .cases e1
  split at h
  .rename_i k hk;split at h
   .exact⟨_,rfl,by rw[e2];exact(Jv hS _ _ _ _ _ _ h).at hk⟩
   .exact⟨_,rfl,by rw[e2];exact(Sp h).at hk⟩
   .cases h
  .cases h
 .cases h
def P0:A S.T->Option (A S.T)
 |.raw (.ptr k L off)=>aY (.raw (.ptr k L off))
 |.raw (.fn f a b)=>aY (.raw (.fn f a b))
 |.vp c x off=>aY (.vp c x off)
 |.rp k L i off sz=>aY (.rp k L i off sz)
 |.fn f a b=>aY (.fn f a b)
 |_=>bh
def YJ(P:bl)(s f:Nat)(a:A S.T):Option (A S.T):=match QT P s f with
 |some o=>match a with
  |.raw (.ptr k L off)=>aY (.raw (.ptr k L (off+o)))
  |.vp c x off=>aY (.vp c x (off+o))
  |.rp k L i off sz=>aY (.rp k L i (off+o) sz)
  |_=>bh
 |none=>bh
def PH(P:bl)(t:Nat):A S.T->Option (A S.T)
 |.vp c x off=>match qs P t with
  |some k=>BA 64 c x off k
  |none=>bh
 |_=>bh
def Xr(P:bl)(t:Nat):A S.T->Option (A S.T)
 |.iR (.l c) l=>bif qt P t then aY (.iR (.i .i64) ((ba (α:=c.ty S.T) l:Nat):Int))else bh
 |.iR .s l=>match P.underlying t with|some .string=>aY (.iR (.i .i64) ((ba (α:=UInt8) l:Nat):Int))|_=>bh
 |.rh _ _ n=>bif qt P t then aY (.iR (.i .i64) ((n:Nat):Int))else bh
 |_=>bh
def FB:A S.T->Bool
 |.raw .lF=>bg
 |.raw .iO=>bg
 |.raw .lZ=>bg
 |.raw .lP=>bg
 |.raw .mn=>bg
 |_=>bf
def I_(a b:A S.T)(v:V):A S.T:=bif FB a||FB b then .raw v else q6 v
def aeE(a b:A S.T)(v:V):(I_ a b v).v=v:=by
 unfold I_
 cases FB a||FB b with
 |true=>simp only[ct,A.v]
 |false=>exact D4 v
def U':BinOp->bE->Bool
 |.quo,.const _=>bf
 |.rem,.const _=>bf
 |.quo,_=>bg
 |.rem,_=>bg
 |.shl,.const _=>bf
 |.shr,.const _=>bf
 |.shl,_=>bg
 |.shr,_=>bg
 |_,_=>bf
def MB(P:bl)(E:AE S.T):Op->Option (A S.T)
 |.move x=>aY (ib E x)
 |.assign x=>aY (ib E x)
 |.nilCheck x=>P0 (ib E x)
 |.extract x i=>match ib E x with|.ij xs=>xs[i]?|_=>bh
 |.makeFunc (.func f) a b=>aY (.fn f (a.toList.map (ib E)) (b.toList.map (ib E)))
 |.field s x f=>L6 P s f (ib E x)
 |.fieldAddr s x f=>YJ P s f (ib E x)
 |.load t a=>PH P t (ib E a)
 |.build t parts=>match L5 P t (parts.toList.map λp=>(p.1,ib E p.2))with|some cs=>aY (.ag cs)|none=>bh
 |.call ⟨.builtin .len,args,ts⟩=>match args.toList,ts.toList with|[x],[t]=>Xr P t (ib E x)|_,_=>bh
 |.binOp op t x y t'=>bif U' op y then bh else match uQ P (eV E) (.binOp op t x y t')with|some v=>aY (I_ (ib E x) (ib E y) v)|none=>bh
 |.unOp op t x=>match uQ P (eV E) (.unOp op t x)with|some v=>aY (q6 v)|none=>bh
 |.convert a b x=>match uQ P (eV E) (.convert a b x)with|some v=>aY (q6 v)|none=>bh
 |.pick a b x=>match ib E a with
  |.raw (.bool bg)=>aY (ib E b)
  |.raw (.bool bf)=>aY (ib E x)
  |_=>match uQ P (eV E) (.pick a b x)with|some v=>aY (q6 v)|none=>bh
 |.call ⟨.builtin b,args,ts⟩=>match uQ P (eV E) (.call ⟨.builtin b,args,ts⟩)with|some v=>aY (q6 v)|none=>bh
 |_=>bh
def LL(E:AE S.T)(l:List bE):l.map (fQ (eV E))=A.vs (l.map (ib E)):=by
 rw[xp,cF]
 exact eg λx _=>zY E x
def zwt(a b:V):Bj bg a b=a:=by
 unfold Bj
 split<;>first|rfl|(split<;>rfl)
def zwu(a b:V):Bj bf a b=b:=by
 unfold Bj
 split<;>first|rfl|(split<;>first|rfl|(rename_i h;subst h;rfl))
def zwv(hS:S.OK){P:bl}{E:AE S.T}{op:Op}{a:A S.T}(h:MB P E op=aY a):uQ P (eV E) op=aY a.v:=by
 unfold MB at h;split at h
 .cases h;exact aP aY (zY E _)
 .cases h;exact aP aY (zY E _)
 .rename_i x;simp only[uQ,zY];unfold P0 at h
  split at h<;>first|(cases h;done)|(rename_i e;rw[e];cases h;rfl)
 .rename_i x i;simp only[uQ,zY];split at h
  .rename_i xs e;rw[e];simp only[A.v,xp,cw,h,cP]
  .cases h
 .rename_i f x y;cases h;simp only[uQ,LL,A.v]
 .rename_i s x f;obtain⟨cs,e1,e2⟩:=zsy hS h;simp only[uQ,zY,e1,e2]
 .rename_i s x f;simp only[uQ,zY];unfold YJ at h;split at h
  .rename_i o e;rw[e]
   split at h<;>first|(cases h;done)|(rename_i e';rw[e'];cases h;first|rfl|simp only[A.v,Nat.add_assoc])
  .cases h
 .rename_i t x;simp only[uQ,zY];unfold PH at h;split at h
  .rename_i c x off e;rw[e];split at h
   .rename_i k hk;exact(Jv hS _ _ _ _ _ _ h).at hk
   .cases h
  .cases h
 .rename_i t parts;split at h
  .rename_i cs e;cases h;have:=zsx hS e;rw[cF]at this;simp only[uQ];rw[show(parts.toList.map λp=>(p.1,fQ (eV E) p.2))=parts.toList.map ((λp:Nat×A S.T=>(p.1,p.2.v)) ∘ λp=>(p.1,ib E p.2)) from eg λp _=>by simp[zY],this];rfl
  .cases h
 .rename_i args ts;split at h
  .rename_i x t e1 e2;simp only[uQ,e1,e2,ig,dm,zY,GN];unfold Xr at h;split at h
   .rename_i c l e;rw[e]
    cases hb:qt P t with
    |true =>
     rw[hb]at h;cases h;have hl:(cN (ub S c) l).length=ba (α:=c.ty S.T) l:=bM ..;simp only[CO,A.v,qM,hb,if_true,hl]
    |false=>rw[hb]at h;cases h
   .rename_i l e;rw[e];split at h
    .rename_i hb;cases h;simp[CO,A.v,qM,hb]
    .cases h
   .rename_i n e;rw[e]
    cases hb:qt P t with
    |true=>rw[hb]at h;cases h;simp[CO,A.v,qM,hb]
    |false=>rw[hb]at h;cases h
   .cases h
  .cases h
 .rename_i op t x y t'
  cases hb:U' op y with
  |true=>rw[hb]at h;cases h
  |false =>
   rw[hb,cf]at h
   split at h<;>first|(cases h;done)|(rename_i e;cases h;rw[e,aeE])
 rotate_left 2
 .rename_i a b x;split at h
  .rename_i e;cases h;simp only[uQ,zY,e,A.v,zwt]
  .rename_i e;cases h;simp only[uQ,zY,e,A.v,zwu]
  .split at h<;>first|(cases h;done)|(rename_i e;cases h;rw[e,D4])
 all_goals first|(split at h<;>first|(cases h;done)|(rename_i e;cases h;rw[e,D4]))|(cases h;done)
inductive OR(S:lW):Type 1 where
 |no
 |one (kF kR:List Nat) (a:A S.T) (F':AH S.T)
 |lD {α:Type} (o:Option α) (kF kR:List Nat) (r:α->Option (A S.T×AH S.T))
 |eqs (l:List (Nat×Nat)) (r:OR S)
 |alt {α:Type} (o:Option α) (kF kR:List Nat) (r:α->Option (A S.T×AH S.T)) (k:OR S)
 |Bu {α:Type} (o:Option α) (l:α->List (Nat×Nat)) (kF kR:List Nat) (r:(x:α)->(∀p∈l x,p.1=p.2)->Option (A S.T×AH S.T))
def CE(l:List (Nat×Nat)):Option (PLift (∀p∈l,p.1=p.2)):=if h:∀p∈l,p.1=p.2 then aY ⟨h⟩else bh
def OR.NL{S:lW}:OR S->OR S->OR S
 |.eqs l q,k=>.eqs l (q.NL k)
 |.lD o kF kR r,k=>.alt o kF kR r k
 |q,_=>q
def ue:List Nat->AH S.T->Option (AH S.T)
 |[],_=>aY []
 |k::r,H=>match H.get k with
  |some o=>match ue r H with
   |some F=>aY ((k,o)::F)
   |none=>bh
  |none=>bh
def OR.OK(P:bl)(o:Oper)(E:AE S.T)(H:AH S.T):OR S->Prop
 |.no=>True
 |.one kF kR a F'=>∀F R,ue kF H=aY F->ue kR H=aY R->EV.Loc P o (eV E) (hV F++hV R) a.v (hV F'++hV R)
 |.lD o' kF kR r=>∀x,o'=aY x->∀a F',r x=aY (a,F')->∀F R,ue kF H=aY F->ue kR H=aY R->EV.Loc P o (eV E) (hV F++hV R) a.v (hV F'++hV R)
 |.eqs l r=>(∀p∈l,p.1=p.2)->r.OK P o E H
 |.Bu o' l kF kR r=>∀x,o'=aY x->∀h a F',r x h=aY (a,F')->∀F R,ue kF H=aY F->ue kR H=aY R->EV.Loc P o (eV E) (hV F++hV R) a.v (hV F'++hV R)
 |.alt o' kF kR r k=>(∀x,o'=aY x->∀a F',r x=aY (a,F')->∀F R,ue kF H=aY F->ue kR H=aY R->EV.Loc P o (eV E) (hV F++hV R) a.v (hV F'++hV R))/\k.OK P o E H
def Sq{S:lW}{P:bl}{o:Oper}{E:AE S.T}{H:AH S.T}:∀{q k:OR S},q.OK P o E H->k.OK P o E H->(q.NL k).OK P o E H
 |.eqs l q,k,h1,h2=>λh=>Sq (q:=q) (h1 h) h2
 |.lD o' kF kR r,k,h1,h2=>⟨h1,h2⟩
 |.no,k,h1,h2=>h1
 |.one ..,k,h1,h2=>h1
 |.alt ..,k,h1,h2=>h1
 |.Bu ..,k,h1,h2=>h1
def j7{k:Nat}{H F:AH S.T}{o:OA S.T}(hg:H.get k=aY o)(h:ue [k] H=aY F):F=[(k,o)]:=by simp only[ue,hg]at h;exact(Option.some.inj h).symm
def zm{H F:AH S.T}(h:ue [] H=aY F):F=[]:=(Option.some.inj h).symm
abbrev GP(c:TC):Inhabited (c.ty S.T):=⟨MA S c⟩
def intOf:A S.T->Option (IntKind×Int)
 |.iR (.i k) n=>aY (k,n)
 |_=>bh
def qN{a:A S.T}{k:IntKind}{n:Int}(h:intOf a=aY (k,n)):a.v=.int k n:=by
 unfold intOf at h;split at h
 .cases h;rfl
 .cases h
def tK(E:AE S.T):Option bE->Int->Option Int
 |none,d=>aY d
 |some x,_=>match intOf (ib E x)with|some (_,n)=>aY n|none=>bh
def YK{E:AE S.T}{o:Option bE}{d i:Int}(h:tK E o d=aY i):pB (eV E) o d i:=by
 cases o with
 |none=>cases h;rfl
 |some x =>
  simp only[tK]at h;split at h
  .rename_i k n e;cases h;exact⟨k,by rw[zY];exact qN e⟩
  .cases h
def MC(P:bl)(H:AH S.T)(t:Nat)(a:A S.T):OR S:=match qs P t with
 |none=>.no
 |some sh=>match a with
  |.raw (.ptr k 0 off)=>match H.get k with
   |some (.box _ cs)=>match CU cs off sh with
    |some b=>.one [] [k] b []
    |none=>.no
   |_=>.no
  |.rp k L i off sz=>match H.get k with
   |some (.row _ c _ l w)=>bif bk sz (zw S c)then .eqs [(L,w.n)] (.lD (l[i]?) [] [k] λx=>match BA 64 c x off sh with|some b=>aY (b,[])|none=>bh)else .no
   |_=>.no
  |_=>.no
def L7(P:bl)(H:AH S.T)(t:Nat)(a x:A S.T):OR S:=match x.cells with
 |none=>.no
 |some u=>match a with
  |.raw (.ptr k 0 off)=>match H.get k with
   |some (.box bt cs)=>bif (A.vs u).all V.one&&(uR P t u.length&&ck (off+u.length) cs.length)then .one [k] [] (.raw .no) [(k,.box bt (cs.take off++u++cs.drop (off+u.length)))]else .no
   |_=>.no
  |.rp k L i off sz=>match H.get k with
   |some (.row e c .zero l w)=>bif bk sz (zw S c)&&(uR P t u.length&&((A.vs u).all V.one&&x.v.refs.isEmpty))then
     .eqs [(L,w.n)] (.lD (l[i]?) [k] [] λy=>match Cr 64 c y with
      |some cs=>match Ko (S:=S) [] 64 c (cs.take off++u++cs.drop (off+u.length))with
       |some (⟨z,_,_⟩,[])=>bif ck (off+u.length) sz then aY (.raw .no,[(k,.row e c .zero (l.set i z) ⟨w.n,by rw[da];exact w.h⟩)])else bh
       |_=>bh
      |none=>bh)
     else .no
   |_=>.no
  |_=>.no
def Kp(P:bl)(t:Nat)(a i:A S.T):OR S:=match oM P t,intOf i with
 |some (_,sz),aY (_,n)=>match a with
  |.iR (.l c) l=>bif bk sz (zw S c)then .lD (@idx (c.ty S.T) (GP c) l n) [] [] λx=>aY (.vp c x 0,[])else .no
  |.rh lz k m=>bif bk sz lz then .lD (fN (0<=n/\n<(m:Nat))) [] [] λ_=>aY (.rp k m (bB n) 0 sz,[])else .no
  |_=>.no
 |_,_=>.no
def L8(P:bl)(t:Nat)(a i:A S.T):OR S:=match intOf i with
 |some (_,n)=>match a with
  |.iR .s l=>bif tL P t then .lD (idx (α:=UInt8) l n) [] [] λx=>aY (.iR (.i .u8) ((x.toNat:Nat):Int),[])else .no
  |_=>.no
 |none=>.no
def L9(P:bl)(E:AE S.T)(t:Nat)(a:A S.T)(lo hi:Option bE):OR S:=match a with
 |.iR .s l=>match tK E lo 0,tK E hi ((ba (α:=UInt8) l:Nat):Int)with
  |some x,aY y=>bif tL P t then .lD (cut (α:=UInt8) l x y) [] [] λz=>aY (.iR .s z,[])else .no
  |_,_=>.no
 |.iR (.l c) l=>match oM P t with
  |some (_,sz)=>match tK E lo 0,tK E hi ((ba (α:=c.ty S.T) l:Nat):Int)with
   |some x,aY y=>bif bk sz (zw S c)then .lD (cut (α:=c.ty S.T) l x y) [] [] λz=>aY (.iR (.l c) z,[])else .no
   |_,_=>.no
  |none=>.no
 |.rh sz k n=>match oM P t with
  |some (_,lz)=>match tK E lo 0,tK E hi ((n:Nat):Int)with
   |some x,aY y=>bif bk sz lz then .lD (fN (0<=x/\x<=y/\y<=(n:Nat))) [] [] λ_=>aY (.raw (.sl sz k n (bB x) (bB y-bB x)),[])else .no
   |_,_=>.no
  |none=>.no
 |_=>.no
section
variable{P:bl}{E:AE S.T}{H:AH S.T}{dst:Option Tmp}{ty:bu}{pos:String}{aft:Array Edge}{gd:Option (Nat×Bool)}
def zsz(hS:S.OK){t:Nat}{x:bE}:(MC P H t (ib E x)).OK P ⟨dst,.load t x,ty,pos,aft,gd⟩ E H:=by
 unfold MC;split
 .trivial
 .rename_i sh mW;split
  .rename_i k off e;split
   .rename_i bt cs hg;split
    .rename_i b hb;intro F R hF hR;cases zm hF;cases j7 hg hR;exact zsi (by rw[zY,e];rfl) ((Sp hb).at mW)
    .trivial
   .trivial
  .rename_i k L i off sz e;split
   .rename_i et c fz l wl hg
    cases hb:bk sz (zw S c)with
    |false=>trivial
    |true =>
     have iz:=eb hb;subst iz;intro heq y hy a F' hr F R hF hR;have hL:L=l.length:=(heq _ (gX.2 rfl)).trans wl.h.symm;dsimp only at hr;split at hr
     .rename_i b Ij;cases hr;cases zm hF;cases j7 hg hR;refine zfr (L:=L) (cs:=ub S c y) (sz:=zw S c) i off (by rw[zY,e];rfl) (by rw[hL,bM]) rfl ?_ ((Jv hS _ _ _ _ _ _ Ij).at mW);rw[cw,hy];rfl
     .cases hr
   .trivial
  .trivial
def ZV{t:Nat}{x ix:bE}:(Kp P t (ib E x) (ib E ix)).OK P ⟨dst,.indexAddr t x ix,ty,pos,aft,gd⟩ E H:=by
 unfold Kp;split
 .rename_i e sz k n h1 h2;split
  .rename_i c l e1
   cases hb:bk sz (zw S c)with
   |false=>trivial
   |true =>
    have iz:=eb hb;subst iz;intro y hy a F' hr F R hF hR;cases hr;cases zm hF;cases zm hR;obtain⟨g1,g2,g3⟩:=@ZO _ (GP c) _ _ _ hy;refine zfq (k:=k) (i:=n) h1 (by rw[zY,e1];rfl) (by rw[zY];exact qN h2) g1 ?_;have iB:n.toNat<ba (α:=c.ty S.T) l:=ab;rw[g3];exact @zwl (c.ty S.T) (GP c) (ub S c) l n.toNat iB
  .rename_i lz k' m e1
   cases hb:bk sz lz with
   |false=>trivial
   |true =>
    have iz:=eb hb;subst iz;intro y hy a F' hr F R hF hR;cases hr;cases zm hF;cases zm hR;obtain⟨g1,g2⟩:=yL hy;exact ZN (k:=k) h1 (by rw[zY,e1];rfl) (by rw[zY];exact qN h2) g1 g2
  .trivial
 .trivial
def znv{t:Nat}{x ix:bE}:(L8 P t (ib E x) (ib E ix)).OK P ⟨dst,.index t x ix,ty,pos,aft,gd⟩ E H:=by
 unfold L8;split
 .rename_i k n h2;split
  .rename_i l e1
   cases hb:tL P t with
   |false=>trivial
   |true =>
    intro y hy a F' hr F R hF hR;cases hr;cases zm hF;cases zm hR;obtain⟨g1,g2,g3⟩:=ZO hy;have:=zbm (P:=P) (dst:=dst) (ty:=ty) (pos:=pos) (aft:=aft) (gd:=gd) (ρ:=eV E) (k:=k) (x:=x) (ix:=ix) hb (by rw[zY,e1];rfl) (by rw[zY];exact qN h2) g1 g2;rw[g3];exact this
  .trivial
 .trivial
def znw{t:Nat}{x:bE}{lo hi:Option bE}:(L9 P E t (ib E x) lo hi).OK P ⟨dst,.slice t x lo hi bh,ty,pos,aft,gd⟩ E H:=by
 unfold L9;split
 .rename_i l e1;split
  .rename_i p q h1 h2
   cases hb:tL P t with
   |false=>trivial
   |true =>intro y hy a F' hr F R hF hR;cases hr;cases zm hF;cases zm hR;obtain⟨g1,g2,g3,g4⟩:=SG hy;rw[g4];exact zbp hb (by rw[zY,e1];rfl) (YK h1) (YK h2) g1 g2 g3
  .trivial
 .rename_i c l e1;split
  .rename_i e sz h0;split
   .rename_i p q h1 h2
    cases hb:bk sz (zw S c)with
    |false=>trivial
    |true =>
     have iz:=eb hb;subst iz;intro y hy a F' hr F R hF hR;cases hr;cases zm hF;cases zm hR;obtain⟨g1,g2,g3,g4⟩:=SG hy;have hl:(cN (ub S c) l).length=ba (α:=c.ty S.T) l:=bM ..;refine zbu h0 (by rw[zY,e1];rfl) (YK h1) (by rw[hl];exact YK h2) g1 g2 (by rw[hl];exact g3) ?_;rw[g4,ej];exact aP (gN p.toNat) (eh (f:=ub S c) (l:=(l:List (c.ty S.T))) (i:=q.toNat)).symm
   .trivial
  .trivial
 .rename_i sz k n e1;split
  .rename_i e lz h0;split
   .rename_i p q h1 h2
    cases hb:bk sz lz with
    |false=>trivial
    |true =>
     have iz:=eb hb;subst iz;intro y hy a F' hr F R hF hR;cases hr;cases zm hF;cases zm hR;obtain⟨g1,g2,g3⟩:=yL hy;exact ZS h0 (by rw[zY,e1];rfl) (YK h1) (YK h2) g1 g2 g3
   .trivial
  .trivial
 .trivial
end
end
section
variable{S:lW}
def RowsIn(H:AH S.T)(R:aw)(fz:List Nat):Prop:=∀k∈fz,∀e c f l w,H.get k=aY (.row e c f l w)->∃f',R.get k=aY (.row e (zw S c) f' (l.map (ub S c)))
def RowsIn.left{H:AH S.T}{R:aw}{a b:List Nat}(h:RowsIn H R (a++b)):RowsIn H R a:=λk hk=>h k (bJ _ hk)
def RowsIn.right{H:AH S.T}{R:aw}{a b:List Nat}(h:RowsIn H R (a++b)):RowsIn H R b:=λk hk=>h k (bO _ hk)
def K2{R:aw}:∀{a b c d:List V},vB R a b->vB R c d->vB R (a++c) (b++d)
 |[],_,_,_,.nil,h=>h
 |_::_,_,_,_,.cons h1 h2,h=>.cons h1 (K2 h2 h)
def YL{R:aw}:∀{a:List V},vB R a a
 |[]=>.nil
 |v::a=>.cons (.same v) YL
def xO(l:List (Nat×Nat)):Prop:=∀p∈l,p.1=p.2
def xO.left{a b:List (Nat×Nat)}(h:xO (a++b)):xO a:=λk hk=>h k (bJ _ hk)
def xO.right{a b:List (Nat×Nat)}(h:xO (a++b)):xO b:=λk hk=>h k (bO _ hk)
def Uz{t:Nat}{a:A S.T}{c:TC}{rx:Rx (c.ty S.T)}(h:Ns t a c=aY rx):V.lN t a.v=qM S c rx.x/\rx.fz=[]/\rx.eq=[]:=by
 unfold Ns at h;split at h
 .rename_i ti ts;split at h
  .rename_i x
   cases hb:bk t ts with
   |false=>rw[hb]at h;cases h
   |true =>rw[hb]at h;cases h;rw[eb hb];exact⟨rfl,rfl,rfl⟩
  .rename_i x
   cases hb:bk t ti with
   |false=>rw[hb]at h;cases h
   |true =>rw[hb]at h;cases h;rw[eb hb];exact⟨rfl,rfl,rfl⟩
  .cases h
 .cases h
def uf{H:AH S.T}{c:TC}{a:A S.T}{rx:Rx (c.ty S.T)}(h:Yh H c a=aY rx)(heq:xO rx.eq){R:aw}(hR:RowsIn H R rx.fz):au R a.v (qM S c rx.x):=by
 unfold Yh at h;split at h
 .split at h
  .rename_i e;subst e;cases h;exact .same _
  .cases h
 .cases c<;>first|(cases h;done)|(cases h;exact .iO _)
 .cases c<;>first|(cases h;done)|(cases h;exact .same _)
 .rename_i sz k n
  cases c<;>first|(cases h;done)|skip
  rename_i t;simp only[pg]at h;split at h
  .rename_i e t' fz l wl hg;split at h
   .rename_i e;subst e
    cases hb:bk sz (zw S t')with
    |false=>rw[hb]at h;cases h
    |true =>
     rw[hb]at h;have iz:=eb hb;subst iz;cases h;obtain⟨f',hf⟩:=hR k (gX.2 rfl) _ _ _ _ _ hg;have hn:n=l.length:=(heq _ (gX.2 rfl)).trans wl.h.symm;exact .row hf (by rw[bM];exact hn)
   .cases h
  .cases h
 .rename_i sz k n
  cases c<;>first|(cases h;done)|skip
  rename_i t;simp only[pg]at h;split at h
  .rename_i e t' fz l wl hg;split at h
   .rename_i e;subst e
    cases hb:bk sz (zw S t')with
    |false=>rw[hb]at h;cases h
    |true =>
     rw[hb]at h;have iz:=eb hb;subst iz;cases h;obtain⟨f',hf⟩:=hR k (gX.2 rfl) _ _ _ _ _ hg;have hn:n=l.length:=(heq _ (gX.2 rfl)).trans wl.h.symm;exact .rj hf (by rw[bM];exact hn)
   .cases h
  .cases h
 .have:=(Uz h).1;rw[<- this];simp only[A.v];exact .same _
 .cases h
def zs0:∀(c:TC)(x:c.ty S.T),(∀n,c≠.st n)->ub S c x=[qM S c x]
 |.i _,_,_=>rfl
 |.b,_,_=>rfl
 |.s,_,_=>rfl
 |.y,_,_=>rfl
 |.a _ _,_,_=>rfl
 |.l _,_,_=>rfl
 |.m k e,_,_=>rfl
 |.st n,_,h=>aQ rfl (h n)
mutual
def AW(hS:S.OK){H:AH S.T}:∀(f:Nat)(c:TC)(cs:List (A S.T))(rx:Rx (c.ty S.T))(r:List (A S.T)),Ko H f c cs=aY (rx,r)->xO rx.eq ->
  ∃u,cs=u++r/\∀R,RowsIn H R rx.fz->vB R (A.vs u) (ub S c rx.x)
 |0,_,_,_,_,h,_=>by cases h
 |f+1,.st m,cs,rx,r,h,heq=>by
  rw[Ko]at h;split at h
  .rename_i x fz eq r' e;cases h;obtain⟨u,h1,h2⟩:=AX hS f (S.fl m) cs ⟨x,fz,eq⟩ r e heq;refine⟨u,h1,λR hR=>?_⟩;have:=h2 R hR
   show vB R (A.vs u) (S.enc m (S.inj m x))
   rw[hS.CR,hS.GI];exact this
  .cases h
 |f+1,c,a::r0,rx,r,h,heq=>by
  by_cases hc:∃m,c=.st m
  .obtain⟨m,rfl⟩:=hc;rw[Ko]at h;split at h
   .rename_i x fz eq r' e;cases h;obtain⟨u,h1,h2⟩:=AX hS f (S.fl m) _ ⟨x,fz,eq⟩ r e heq;refine⟨u,h1,λR hR=>?_⟩;have:=h2 R hR
    show vB R (A.vs u) (S.enc m (S.inj m x))
    rw[hS.CR,hS.GI];exact this
   .cases h
  .have ni:∀m,c≠.st m:=λm e=>hc ⟨m,e⟩
   have h':(match Yh H c a with|some rx=>aY (rx,r0)|none=>bh)=aY (rx,r):=by
    cases c<;>first|exact aQ rfl (ni _)|exact h
   split at h'
   .rename_i Dj e;cases h';refine⟨[a],rfl,λR hR=>?_⟩;have:=uf e heq hR;rw[zs0 c rx.x ni];exact .cons this .nil
   .cases h'
 |f+1,c,[],rx,r,h,heq=>by
  by_cases hc:∃m,c=.st m
  .obtain⟨m,rfl⟩:=hc;rw[Ko]at h;split at h
   .rename_i x fz eq r' e;cases h;obtain⟨u,h1,h2⟩:=AX hS f (S.fl m) _ ⟨x,fz,eq⟩ r e heq;refine⟨u,h1,λR hR=>?_⟩;have:=h2 R hR
    show vB R (A.vs u) (S.enc m (S.inj m x))
    rw[hS.CR,hS.GI];exact this
   .cases h
  .have ni:∀m,c≠.st m:=λm e=>hc ⟨m,e⟩
   cases c<;>first|exact aQ rfl (ni _)|cases h
def AX(hS:S.OK){H:AH S.T}:∀(f:Nat)(l:List TC)(cs:List (A S.T))(rx:Rx (HL S.T l))(r:List (A S.T)),tG H f l cs=aY (rx,r)->xO rx.eq ->
  ∃u,cs=u++r/\∀R,RowsIn H R rx.fz->vB R (A.vs u) (D3 S l rx.x)
 |0,_,_,_,_,h,_=>by cases h
 |_+1,[],cs,rx,r,h,_=>by cases h;exact⟨[],rfl,λR _=>.nil⟩
 |f+1,[c],cs,rx,r,h,heq=>by
  rw[tG]at h;exact AW hS f c cs rx r h heq
 |f+1,c::d::l,cs,rx,r,h,heq=>by
  rw[tG]at h;split at h
  .rename_i x fz eq tX e;split at h
   .rename_i y nw uD M3 e';cases h;obtain⟨u,h1,h2⟩:=AW hS f c cs ⟨x,fz,eq⟩ tX e heq.left;obtain⟨v,h3,h4⟩:=AX hS f (d::l) tX ⟨y,nw,uD⟩ r e' heq.right;refine⟨u++v,by rw[h1,h3,sF],λR hR=>?_⟩;rw[Hy];exact K2 (h2 R hR.left) (h4 R hR.right)
   .cases h
  .cases h
end
def Vu(hS:S.OK){H:AH S.T}{c:TC}{a:A S.T}{rx:Rx (c.ty S.T)}(h:Vt H c a=aY rx)(heq:xO rx.eq){R:aw}(hR:RowsIn H R rx.fz):au R a.v (qM S c rx.x):=by
 unfold Vt at h;split at h
 .rename_i Dj e;cases h;exact uf e heq hR
 .split at h
  .rename_i cs
   cases c<;>first|(cases h;done)|skip
   rename_i m;simp only[L4]at h;split at h
   .rename_i Dj e;cases h;obtain⟨u,h1,h2⟩:=AW hS _ _ _ _ _ e heq;rw[cy]at h1;subst h1;exact .agg (h2 R hR)
   .cases h
  .cases h
def znx(hS:S.OK):∀(c:TC)(x:c.ty S.T),y8 (ub S c x)=[]
 |.i _,_=>rfl
 |.b,_=>rfl
 |.s,_=>rfl
 |.y,_=>rfl
 |.a _ _,x=>by cases x<;>rfl
 |.l _,_=>rfl
 |.m _ _,_=>rfl
 |.st n,x=>hS.refs n x
def zBb(hS:S.OK){a:List V}{c:TC}{x:c.ty S.T}(h:vB [] a (ub S c x)):rX a (ub S c x):=λZ l hl=>by
 let m0:M:=λ_ _=>bh
 have h1:zu (aY m0) Z a l:=hl.up (λ_ _ e=>e) (λf e=>by cases e);have h2:=vB.rep (m:=m0) (Z:=Z) (w:=default) (F:=[]) (λk t sz fz els e=>by cases e) h h1;exact zu.flat _ _ (znx hS c x) h2
def P1{c:TC}{a:A S.T}{rx:Rx (c.ty S.T)}(h:Yh [] c a=aY rx):rx.fz=[]/\rx.eq=[]:=by
 unfold Yh at h;split at h
 .split at h
  .cases h;exact⟨rfl,rfl⟩
  .cases h
 .cases c<;>first|(cases h;done)|(cases h;exact⟨rfl,rfl⟩)
 .cases c<;>first|(cases h;done)|(cases h;exact⟨rfl,rfl⟩)
 .cases c<;>first|(cases h;done)|(simp only[pg,AH.get]at h;cases h)
 .cases c<;>first|(cases h;done)|(simp only[pg,AH.get]at h;cases h)
 .exact(Uz h).2
 .cases h
mutual
def Jw:∀(f:Nat)(c:TC)(cs:List (A S.T))(rx:Rx (c.ty S.T))(r:List (A S.T)),Ko [] f c cs=aY (rx,r)->rx.fz=[]/\rx.eq=[]
 |0,_,_,_,_,h=>by cases h
 |f+1,c,cs,rx,r,h=>by
  by_cases hc:∃m,c=.st m
  .obtain⟨m,rfl⟩:=hc;rw[Ko]at h;split at h
   .rename_i x fz eq r' e;cases h;exact P2 f (S.fl m) _ ⟨x,fz,eq⟩ r e
   .cases h
  .have ni:∀m,c≠.st m:=λm e=>hc ⟨m,e⟩
   cases cs with
   |nil=>cases c<;>first|exact aQ rfl (ni _)|cases h
   |cons a r0 =>
    have h':(match Yh [] c a with|some rx=>aY (rx,r0)|none=>bh)=aY (rx,r):=by
     cases c<;>first|exact aQ rfl (ni _)|exact h
    split at h'
    .rename_i Dj e;cases h';exact P1 e
    .cases h'
def P2:∀(f:Nat)(l:List TC)(cs:List (A S.T))(rx:Rx (HL S.T l))(r:List (A S.T)),tG [] f l cs=aY (rx,r)->rx.fz=[]/\rx.eq=[]
 |0,_,_,_,_,h=>by cases h
 |_+1,[],cs,rx,r,h=>by cases h;exact⟨rfl,rfl⟩
 |f+1,[c],cs,rx,r,h=>by
  rw[tG]at h;exact Jw f c cs rx r h
 |f+1,c::d::l,cs,rx,r,h=>by
  rw[tG]at h;split at h
  .rename_i x fz eq tX e;split at h
   .rename_i y nw uD M3 e';cases h;obtain⟨h1,h2⟩:=Jw f c cs ⟨x,fz,eq⟩ tX e;obtain⟨h3,h4⟩:=P2 f (d::l) tX ⟨y,nw,uD⟩ r e';exact⟨by rw[show fz=[] from h1,show nw=[] from h3];rfl,by rw[show eq=[] from h2,show uD=[] from h4];rfl⟩
   .cases h
  .cases h
end
def ZW(hS:S.OK){f:Nat}{c:TC}{cs:List (A S.T)}{rx:Rx (c.ty S.T)}(h:Ko [] f c cs=aY (rx,[])):rX (A.vs cs) (ub S c rx.x):=by obtain⟨h1,h2⟩:=Jw _ _ _ _ _ h;obtain⟨u,e1,e2⟩:=AW hS _ _ _ _ _ h (by rw[h2];intro p hp;cases hp);rw[cy]at e1;subst e1;exact zBb hS (e2 [] (by rw[h1];intro k hk;cases hk))
end
end Go.EQ
namespace Go.EV
open Go Go.RowKit Go.lA
section
variable{P:bl}{ρ:Env}{dst:Option Tmp}{ty:bu}{pos:String}{aft:Array Edge}{gd:Option (Nat×Bool)}
def Step.NO{m:M}{Z:ZM}{w:bG}{R:aw}{d e sz:Nat}(iz:0<sz)(hs:kp m Z R w)(mf:∀L,m d L=bh)(hd:d ∉ keys R):
  ∃m',Step m Z R w m' Z ((d,.row e sz 0 [])::R) w/\m' d 0=aY (0,0):=by
 let m':M:=λk' L=>if k'=d/\L=0 then aY (0,0)else m k' L
 have h1:m' d 0=aY (0,0):=by simp[m']
 have h2:∀k L loc,m k L=aY loc->m' k L=aY loc:=λk L loc e=>by
  by_cases hc:k=d/\L=0
  .obtain⟨rfl,rfl⟩:=hc;rw[mf]at e;cases e
  .simp only[m',aN hc];exact e
 have hs0:kp m Z [] w:=⟨hs.frozen,λp hp=>(by cases hp),dj,λp hp=>(by cases hp)⟩
 have iy:Step m Z [] w m' Z [(d,.row e sz 0 [])] w:=by
  refine⟨⟨hs.frozen,λp hp=>?_,by simp[keys],λp hp q hq _ _ _=>?_⟩,h2,λ_ _ e=>e,rfl,rfl,rfl,al,λ_ _ _=>rfl,λk hk=>(by cases hk),λk hk=>?_,λp hp b hb=>?_,λ_ _ e=>.inl e⟩
  .simp only[gX]at hp;subst hp;refine .inl ⟨iz,rfl,rfl,⟨0,h1⟩,λL loc e=>?_⟩;simp only[m']at e;split at e
   .rename_i hc;omega
   .rw[mf]at e;cases e
  .simp only[gX]at hp hq;subst hp;subst hq;rfl
  .funext L
   have:k≠d:=by simpa[keys]using hk
   simp[m',this]
  .simp only[gX]at hp;subst hp;simp[gT,qK,Obj.iZ,h1]at hb
 exact⟨m',Step.By (F:=[]) (G:=R) (F':=[(d,.row e sz 0 [])]) hs iy λp hp q hq e'=>by
  simp only[gX]at hp;subst hp;have aaH:d=q.1:=e'
  exact hd (by rw[aaH];exact ax hq),h1⟩
def ZX{t e sz bytes n d j:Nat}{y:bE}{ys:List (List V)}{R:aw}(hT:Js P t=aY (e,sz,bytes))(hx:fQ ρ (.tmp j)=.iO)(IU:y≠.tmp j)(hy:Src sz R (fQ ρ y) ys)
  (h1:∀c∈ys,c.all V.one=bg) (tx:∀c∈ys,c.length=sz) (Ip:jP d R=bf) (hn:ys.length=n) (hlen:n*bytes<=140737488355328) (rA:n<=9223372036854775807):
  Loc P ⟨dst,.call ⟨.builtin .append,#[.tmp j,y],#[t,t]⟩,ty,pos,aft,gd⟩ ρ R (.sl sz d n 0 n) ((d,.row e sz 0 ys)::R):=by
 intro ρr m Z w gY hs mf
 have l5:d ∉ keys R:=λh=>by rw[yp.2 h]at Ip;cases Ip
 obtain⟨_,_,_,_,_,_,_,_,h0⟩:=Vn hT;obtain⟨m',iy,n9⟩:=Step.NO (e:=e) (sz:=sz) h0 hs (λL=>mf d (by simp[keys]) l5 L) l5
 have OC:∀z,z≠.tmp j->fQ ((j,V.sl sz d 0 0 0)::ρ) z=fQ ρ z:=λz hz=>by
  cases z with
  |tmp t' =>
   have:t'≠j:=λe=>hz (by rw[e])
   show(bif bk t' j then _ else _)=_
   cases hb:bk t' j with
   |true=>exact aQ (eb hb) this
   |false=>rfl
  |_=>rfl
 have hj:fQ ((j,V.sl sz d 0 0 0)::ρ) (.tmp j)=.sl sz d 0 0 0:=by
  show(bif bk j j then _ else _)=_
  rw[cl];rfl
 have hl:=Vq (P:=P) (ρ:=(j,V.sl sz d 0 0 0)::ρ) (dst:=dst) (ty:=ty) (pos:=pos) (aft:=aft) (gd:=gd) (k:=d) (fz:=0) (L:=0) (els:=[]) (ys:=ys) (R:=R) (e:=e) (n:=n) hT hj rfl (by rw[OC y IU];exact hy) h1 tx Ip (cq _) hn hlen rA
 refine(hl ρr m' Z w (λz hz=>?_) iy.iV (λk hk mi L=>aQ hk mi)).mono λx w' hx=>?_
 .by_cases O0:z=.tmp j
  .subst O0;have:=gY (.tmp j) hz;rw[hx]at this;rw[hj];exact⟨m',_,rfl,n9,al,cx _,.inr (.inl ⟨rfl,bh,this⟩)⟩
  .rw[OC z O0]
   exact(gY z hz).up (λ_ _ e=>e) λf e=>by cases e;exact⟨m',rfl,iy.nn⟩
 .obtain⟨m2,Z2,st,hr⟩:=hx;exact⟨m2,Z2,iy.trans st,hr⟩
end
end Go.EV
namespace Go.EQ
open Go Go.RowKit Go.lA Go.EV
section
variable{S:lW}
def L_(P:bl)(d t:Nat):OR S:=match zeroV P t with
 |some cs=>.one [] [] (.raw (.ptr d 0 0)) [(d,.box t (cs.map rD))]
 |none=>.no
def M5(d t:Nat)(x:A S.T):OR S:=match x.cells with
 |some u=>.one [] [] (.raw (.ptr d 0 0)) [(d,.box t u)]
 |none=>.no
def FX(c:TC):List (A S.T)->Option (List (c.ty S.T))
 |[]=>aY []
 |a::r=>match a.cells with
  |some u=>match Ko [] 64 c u with
   |some (rx,[])=>match FX c r with
    |some zs=>bif bk u.length (zw S c)then aY (rx.x::zs)else bh
    |none=>bh
   |_=>bh
  |none=>bh
def vD(P:bl)(E:AE S.T)(cd:Nat->Option TC)(d t n:Nat)(parts:List (Nat×bE)):OR S:=match oM P t with
 |some (e,sz)=>match cd e with
  |some c=>match FX c (parts.map λp=>ib E p.2)with
   |some zs=>bif bk sz (zw S c)&&(ck (n*sz) 16777216&&(Cj n sz (parts.map λp=>(p.1,fQ (eV E) p.2))).isSome)then(match cd (1000000+e)with
    |none=>.one [] [] (.rh sz d n) [(d,.row e c .zero zs ⟨_,rfl⟩)]
    |some _=>.one [] [] (.iR (.l c) zs) [(d,.row e c .all zs ⟨_,rfl⟩)])else .no
   |none=>.no
  |none=>.no
 |none=>.no
def Bl:bE->bE->Bool
 |.tmp a,.tmp b=>bk a b
 |_,_=>bf
def Kq(P:bl)(E:AE S.T)(cd:Nat->Option TC)(d t:Nat)(x y:bE):OR S:=match Js P t,intOf (ib E x),intOf (ib E y)with
 |some (e,sz,bytes),aY (_,n),aY (_,n')=>match cd e,zeroV P e with
  |some c,aY cs=>match Ko (S:=S) [] 64 c (cs.map rD)with
   | some (rx,[])=>bif bk sz (zw S c)&&(bk cs.length sz&&(Bl x y||decide (n=n')))then
     .lD (fN (0<=n/\n*bytes<=281474976710656/\n<=9223372036854775807)) [] [] (λ_=>aY (.rh sz d (bY (bB n) rx.x).length,[(d,.row e c .zero (bY (bB n) rx.x) ⟨_,rfl⟩)]))
    else .no
   |_=>.no
  |_,_=>.no
 |_,_,_=>.no
def Fz.grow(n:Nat):Fz->Fz
 |.zero=>.zero
 |.all=>.pre n
 |.pre n=>.pre n
def FC(H:AH S.T)(k:Nat)(c:TC):A S.T->Option (List (c.ty S.T)×List Nat×List (Nat×Nat))
 |.iR (.l c') l=>if h:c'=c then aY ((h▸l:List (c.ty S.T)),[],[])else bh
 |.raw .iO=>aY ([],[],[])
 |.rh sz k' n=>match H.get k' with
  |some (.row _ c' _ l w)=>if h:c'=c then bif !(bk k k')&&bk sz (zw S c)then aY ((h▸l:List (c.ty S.T)),[k'],[(n,w.n)])else bh else bh
  |_=>bh
 |_=>bh
def pA:TC->Bool
 |.m _ _=>bf
 |_=>bg
def PI:bE->Option Nat
 |.tmp t=>aY t
 |_=>bh
def Lz(P:bl)(E:AE S.T)(H:AH S.T)(cd:Nat->Option TC)(d t t':Nat)(x y:bE):OR S:=match Js P t with
 |some (e,sz,bytes)=>bif bk t t'&&ck 1 bytes then match ib E x with
  |.rh lz k n=>match H.get k with
   |some (.row e' c fz l w)=>match FC H k c (ib E y)with
    |some (ys,kR,eq)=>bif bk e e'&&(bk lz sz&&(bk sz (zw S c)&&pA c))then
      .eqs ((n,w.n)::eq) (.lD (fN ((l++ys).length*bytes<=140737488355328)) [k] kR (λ_=>aY (.rh sz k (l++ys).length,[(k,.row e c (fz.grow l.length) (l++ys) ⟨_,rfl⟩)])))
     else .no
    |none=>.no
   |_=>.no
  |.raw .iO=>match cd e,PI x with
   |some c,aY j=>match FC H d c (ib E y)with
    |some (ys,kR,eq)=>bif bk sz (zw S c)&&(pA c&&!(Bl x y))then
      .eqs eq (.lD (fN (ys.length*bytes<=140737488355328)) [] kR (λ_=>aY (.rh sz d ys.length,[(d,.row e c .zero ys ⟨_,rfl⟩)])))
     else .no
    |none=>.no
   |_,_=>.no
  |_=>.no
  else .no
 |none=>.no
def LA(a b:A S.T):OR S:=match a,b with
 |.iR .s x,.iR .s y=>.lD (fN (ba (α:=UInt8) x+ba (α:=UInt8) y<=9223372036854775807)) [] [] (λ_=>aY (.iR .s (List.append (α:=UInt8) x y),[]))
 |_,_=>.no
section
variable{P:bl}{E:AE S.T}{H:AH S.T}{dst:Option Tmp}{ty:bu}{pos:String}{aft:Array Edge}{gd:Option (Nat×Bool)}
def znz{d t:Nat}:(L_ (S:=S) P d t).OK P ⟨dst,.alloc t,ty,pos,aft,gd⟩ E H:=by
 unfold L_;split
 .rename_i cs h;intro F R hF hR;cases zm hF;cases zm hR;have:=zmv (P:=P) (ρ:=eV E) (dst:=dst) (ty:=ty) (pos:=pos) (aft:=aft) (gd:=gd) (d:=d) h;simpa[hV,OA.o,YI,A.v]using this
 .trivial
def zwx(hS:S.OK){d t:Nat}{x:bE}:(M5 d t (ib E x)).OK P ⟨dst,.box t x,ty,pos,aft,gd⟩ E H:=by
 unfold M5;split
 .rename_i u h;intro F R hF hR;cases zm hF;cases zm hR;obtain⟨h1,h2⟩:=A.GK hS h;have:=zwe (P:=P) (ρ:=eV E) (dst:=dst) (ty:=ty) (pos:=pos) (aft:=aft) (gd:=gd) (d:=d) (t:=t) (x:=x) (by rw[zY];exact h2);rw[zY,<- h1]at this;exact this
 .trivial
def zkh{t t':bu}{x y:bE}:(LA (ib E x) (ib E y)).OK P ⟨dst,.binOp .add t x y t',ty,pos,aft,gd⟩ E H:=by
 unfold LA;split
 .rename_i a b h1 h2;intro z hz a F' hr F R hF hR;cases hr;cases zm hF;cases zm hR;exact zj6 (by rw[zY,h1];rfl) (by rw[zY,h2];rfl) (yL hz)
 .trivial
def zs1{x y:bE}(h:Bl x y=bg):x=y:=by
 unfold Bl at h;split at h
 .rw[eb h]
 .cases h
def ZY(hS:S.OK){cd:Nat->Option TC}{d t:Nat}{x y:bE}:(Kq P E cd d t x y).OK P ⟨dst,.makeSlice t x y,ty,pos,aft,gd⟩ E H:=by
 unfold Kq;split
 .rename_i e sz bytes k n k' n' h1 h2 h3;split
  .rename_i c cs h4 h5;split
   .rename_i rx h6
    cases hb:bk sz (zw S c)&&(bk cs.length sz&&(Bl x y||decide (n=n')))with
    |false=>trivial
    |true =>
     simp only[bn,cM]at hb;have iz:=eb hb.1;subst iz
     have hn:n'=n:=by
      rcases hb.2.2 with h|h
      .have:=zs1 h;subst this;rw[h2]at h3;cases h3;rfl
      .exact(aX h).symm
     subst hn;intro u hu a F' hr F R hF hR;cases hr;cases zm hF;cases zm hR;obtain⟨g1,g2,g3⟩:=yL hu;have hlen:(bY n'.toNat rx.x).length=n'.toNat:=List.length_replicate;refine Yg (cs:=cs) (cs2:=ub S c rx.x) h1 h5 (by rw[zY];exact qN h2) (by rw[zY];exact qN h3) (by rw[wZ hS,eb hb.2.1];exact cl _) g1 g2 g3 ?_ hlen ?_
     .exact(fW ..).symm
     .have:=ZW hS h6;rw[YI]at this;exact this
   .trivial
  .trivial
 .trivial
def P3(hS:S.OK){c:TC}:∀{asZ:List (A S.T)}{zs:List (c.ty S.T)},FX c asZ=aY zs->rX ((A.vs asZ).map V.cells).flatten (zs.map (ub S c)).flatten/\zs.length=asZ.length
 |[],zs,h=>by cases h;exact⟨zA4,rfl⟩
 |a::r,zs,h=>by
  simp only[FX]at h;split at h
  .rename_i u hu;split at h
   .rename_i rx e;split at h
    .rename_i zs' e'
     cases hb:bk u.length (zw S c)with
     |false=>rw[hb]at h;cases h
     |true =>
      rw[hb]at h;cases h;obtain⟨h1,h2⟩:=P3 hS e';obtain⟨h3,_⟩:=A.GK hS hu;have h4:=ZW hS e;refine⟨?_,by simp[h2]⟩;simp only[A.vs,ig,cI];rw[<- h3];exact Vs (by rw[kV,wZ hS];exact eb hb) h4 h1
    .cases h
   .cases h
  .cases h
def zki{P:bl}{ρ:Env}{o:Oper}{d t sz n:Nat}{els:List (List V)}(hl:EV.Loc P o ρ [] (.sl sz d n 0 n) [(d,.row t sz 0 els)])(hn:els.length=n):EV.Loc P o ρ [] (.vs sz els) [(d,.row t sz els.length els)]:=by subst hn;intro ρr m Z w gY hs mf;refine(hl ρr m Z w gY hs mf).mono ?_;rintro x w' ⟨m',Z',st,hr⟩;have iy:Step m' Z' [(d,.row t sz 0 els)] w' m' (nB m' Z' [(d,.row t sz 0 els)] w') [(d,.row t sz els.length els)] w':=Step.freeze st.iV;refine⟨m',nB m' Z' [(d,.row t sz 0 els)] w',st.trans iy,au.rep (w:=w') (F:=[(d,.row t sz els.length els)]) (λk t' lz nw tR hg=>?_) (.row (t:=t) (fz:=els.length) (by simp[aw.get]) rfl) (hr.up iy.ng λf e=>by cases e;exact⟨m',rfl,iy.nn⟩)⟩;have hm:=aw.get_mem hg;cases gX.1 hm;exact iy.iV.holds _ (gX.2 rfl)
def vU(hS:S.OK){cd:Nat->Option TC}{d t n:Nat}{parts:List (Nat×bE)}:(vD P E cd d t n parts).OK P ⟨dst,.buildSlice t n parts.toArray,ty,pos,aft,gd⟩ E H:=by
 unfold vD;split
 .rename_i e sz h1;split
  .rename_i c h2;split
   .rename_i zs h3
    cases hb:bk sz (zw S c)&&(ck (n*sz) 16777216&&(Cj n sz (parts.map λp=>(p.1,fQ (eV E) p.2))).isSome)with
    |false=>trivial
    |true =>
     simp only[bn]at hb;have iz:=eb hb.1;subst iz;obtain⟨els,h4⟩:=cE.1 hb.2.2;obtain⟨h5,h6⟩:=P3 hS h3
     have oT:els=(A.vs (parts.map λp=>ib E p.2)).map V.cells/\els.length=n:=by
      unfold Cj at h4;split at h4
      .rename_i hr;split at h4
       .cases h4;refine⟨?_,?_⟩
        .rw[xp];simp only[cF]
         exact eg λp _=>by simp[zY]
        .have:=aP ba hr;simpa using this
       .cases h4
      .cases h4
     have IY:(zs.map (ub S c)).length=els.length:=by rw[oT.1];simp[kV,h6]
     suffices Xh:EV.Loc P ⟨dst,.buildSlice t n parts.toArray,ty,pos,aft,gd⟩ (eV E) [] (.sl (zw S c) d n 0 n) [(d,.row e (zw S c) 0 (zs.map (ub S c)))] by
      simp only[ct];split
      .intro F R hF hR;cases zm hF;cases zm hR;exact Xh
      .intro F R hF hR;cases zm hF;cases zm hR;have:=zki Xh (by rw[IY];exact oT.2);simpa[hV,OA.o,Fz.n,A.v,qM]using this
     refine Vr (fl:=els.flatten) (fl2:=(zs.map (ub S c)).flatten) h1 hb.2.1 h4 rfl rfl (by rw[oT.1];exact h5) (by rw[IY];exact cl _) ?_ rfl
     exact bm.2 λy hy=>by obtain⟨z,_,rfl⟩:=bF.1 hy;rw[wZ hS];exact cl _
   .trivial
  .trivial
 .trivial
def PJ{c:TC}(h:pA c=bg):∀k e,c≠.m k e:=λk e e'=>by subst e';cases h
def TJ(hS:S.OK){k:Nat}{c:TC}{y:bE}{ys:List (c.ty S.T)}{kR:List Nat}{eq:List (Nat×Nat)}(h:FC H k c (ib E y)=aY (ys,kR,eq))(heq:xO eq){R:AH S.T}(hR:ue kR H=aY R):
  Src (zw S c) (hV R) (fQ (eV E) y) (ys.map (ub S c))/\AH.has k R=bf:=by
 rw[zY];unfold FC at h;split at h
 .rename_i c' l e1;split at h
  .rename_i e;subst e;cases h;cases zm hR;rw[e1];exact⟨.vs _,rfl⟩
  .cases h
 .rename_i e1;cases h;cases zm hR;rw[e1];exact⟨.iO,rfl⟩
 .rename_i sz k' n e1;split at h
  .rename_i e' c' fz l wl hg;split at h
   .rename_i e;subst e
    cases hb:!(bk k k')&&bk sz (zw S c')with
    |false=>rw[hb]at h;cases h
    |true =>
     rw[hb]at h;cases h;simp only[bn,bL]at hb;have iz:=eb hb.2;subst iz;cases j7 hg hR;rw[e1];have hn:n=l.length:=(heq _ (gX.2 rfl)).trans wl.h.symm;refine⟨.sl (t:=e') (fz:=fz.n l.length) ?_ (by rw[bM];exact hn),?_⟩
     .simp[hV,aw.get,OA.o,cl]
     .simp[AH.has,hb.1]
   .cases h
  .cases h
 .cases h
def zkj(hS:S.OK){cd:Nat->Option TC}{d t t':Nat}{x y:bE}:(Lz P E H cd d t t' x y).OK P ⟨dst,.call ⟨.builtin .append,#[x,y],#[t,t']⟩,ty,pos,aft,gd⟩ E H:=by
 unfold Lz;split
 .rename_i e sz bytes h1
  cases Ik:bk t t'&&ck 1 bytes with
  |false=>trivial
  |true =>
   simp only[bn]at Ik;have htt:=eb Ik.1;subst htt;have Ox:=lR Ik.2
   have Xu:∀(c:TC)(ys:List (c.ty S.T)),(∀k e,c≠.m k e)->∀u∈ys.map (ub S c),u.all V.one=bg:=λc ys hm u hu=>by obtain⟨z,_,rfl⟩:=bF.1 hu;exact zwr hS c z hm
   have lens:∀(c:TC)(ys:List (c.ty S.T)),∀u∈ys.map (ub S c),u.length=zw S c:=λc ys u hu=>by obtain⟨z,_,rfl⟩:=bF.1 hu;exact wZ hS c z
   dsimp only[ct];split
   .rename_i lz k n e1;split
    .rename_i e' c fz l wl hg;split
     .rename_i ys kR eq h2
      cases hb:bk e e'&&(bk lz sz&&(bk sz (zw S c)&&pA c))with
      |false=>trivial
      |true =>
       simp only[bn]at hb;have q1:=eb hb.1;have q2:=eb hb.2.1;have q3:=eb hb.2.2.1;have hm:=PJ hb.2.2.2;subst q1;subst q2;subst q3;intro heq u hu a F' hr F R hF hR;cases hr;cases j7 hg hF;have hn:n=l.length:=(heq _ ak).trans wl.h.symm;obtain⟨g1,g2⟩:=TJ hS h2 (λp hp=>heq p (iT _ hp)) hR;have p9:=yL hu;have rA:=dN (eu (l++ys).length Ox) p9;have hl:=Vq (P:=P) (ρ:=eV E) (dst:=dst) (ty:=ty) (pos:=pos) (aft:=aft) (gd:=gd) (k:=k) (fz:=fz.n l.length) (L:=n) (els:=l.map (ub S c)) (ys:=ys.map (ub S c)) (R:=hV R) (n:=(l++ys).length) (all:=(l++ys).map (ub S c)) h1 (by rw[zY,e1];rfl) (by rw[bM];exact hn.symm) g1 (Xu c ys hm) (lens c ys) (by rw[ow];exact g2) (cO ..).symm (by rw[bM]) p9 ab
       have hz:Fz.n (l++ys).length (fz.grow l.length)=fz.n l.length:=by cases fz<;>rfl
       show EV.Loc P _ _ _ _ ((k,.row e (zw S c) (Fz.n (l++ys).length (fz.grow l.length)) ((l++ys).map (ub S c)))::hV R)
       rw[hz];exact hl
     .trivial
    .trivial
   .rename_i e1;split
    .rename_i c j h2 h3;split
     .rename_i ys kR eq h4
      cases hb:bk sz (zw S c)&&(pA c&&!(Bl x y))with
      |false=>trivial
      |true =>
       simp only[bn,bL]at hb;have q1:=eb hb.1;subst q1;have hm:=PJ hb.2.1;intro heq u hu a F' hr F R hF hR;cases hr;cases zm hF;obtain⟨g1,g2⟩:=TJ hS h4 heq hR;have p9:=yL hu;have rA:=dN (eu ys.length Ox) p9
       have hx:x=.tmp j:=by
        cases x<;>simp only[PI]at h3<;>first|(cases h3;done)|(cases h3;rfl)
       subst hx
       have IU:y≠.tmp j:=λe=>by subst e;simp[Bl,cl]at hb
       have hl:=ZX (P:=P) (ρ:=eV E) (dst:=dst) (ty:=ty) (pos:=pos) (aft:=aft) (gd:=gd) (d:=d) (ys:=ys.map (ub S c)) (R:=hV R) (n:=ys.length) h1 (by rw[zY,e1];rfl) IU g1 (Xu c ys hm) (lens c ys) (by rw[ow];exact g2) (by rw[bM]) p9 ab;exact hl
     .trivial
    .trivial
   .trivial
 .trivial
end
end
section
variable{S:lW}
def ZZ(P:bl)(cd:Nat->Option TC)(d t:Nat):OR S:=match sW P t with
 |some (kt,et)=>match cd kt,cd et with
  |some kc,aY ec=>.one [] [] (.raw (.mp d)) [(d,.map kc ec [])]
  |_,_=>.no
 |none=>.no
def MD(kc ec:TC)[DecidableEq (kc.ty S.T)](k:Nat)(l:List (kc.ty S.T×ec.ty S.T))(a:kc.ty S.T)(z:ec.ty S.T)(co:Bool):OR S:=.one [] [k] (bif co then .ij [.iR ec ((vC a l).getD z),.iR .b (vC a l).isSome]else .iR ec ((vC a l).getD z)) []
def NF(kc ec:TC)[DecidableEq (kc.ty S.T)](k:Nat)(l:List (kc.ty S.T×ec.ty S.T))(a:kc.ty S.T)(b:ec.ty S.T):OR S:=.one [k] [] (.raw .no) [(k,.map kc ec (Hx a b l))]
def FD:DecidableEq (TC.ty S.T .s):=inferInstanceAs (DecidableEq aj)
def FE(k:IntKind):DecidableEq (TC.ty S.T (.i k)):=inferInstanceAs (DecidableEq Int)
def LB(P:bl)(H:AH S.T)(t:Nat)(x ix:A S.T)(co:Bool):OR S:=match sW P t with
 |some (kt,et)=>match x,D1 P et with
  |.raw (.mp k),aY zv=>match H.get k,ix with
   |some (.map .s ec l),.iR .s a=>match P.underlying kt,Vt [] ec (q6 zv)with
    |some .string,aY rx=>@MD S .s ec FD k l a rx.x co
    |_,_=>.no
   |some (.map (.i q) ec l),.iR (.i q') a=>match P.underlying kt,Vt [] ec (q6 zv)with
    |some (.int sS),aY rx=>if q'=q/\sS=q then @MD S (.i q) ec (FE q) k l a rx.x co else .no
    |_,_=>.no
   |_,_=>.no
  |_,_=>.no
 |none=>.no
def ME:A S.T->A S.T
 |.raw (.bool b)=>.iR .b b
 |a=>a
def TK(a:A S.T):(ME a).v=a.v:=by
 unfold ME;split
 .rfl
 .rfl
def AY(P:bl)(H:AH S.T)(t:Nat)(x ix y:A S.T):OR S:=match sW P t with
 |some (kt,_)=>match x,ME y with
  |.raw (.mp k),.iR t_ b=>match H.get k,ix with
   |some (.map .s ec l),.iR .s a=>match P.underlying kt with
    |some .string=>if h:t_=ec then @NF S .s ec FD k l a (h▸b)else .no
    |_=>.no
   |some (.map (.i q) ec l),.iR (.i q') a=>match P.underlying kt with
    |some (.int sS)=>if h:t_=ec then(if q'=q/\sS=q then @NF S (.i q) ec (FE q) k l a (h▸b)else .no)else .no
    |_=>.no
   |_,_=>.no
  |_,_=>.no
 |none=>.no
section
variable{P:bl}{E:AE S.T}{H:AH S.T}{dst:Option Tmp}{ty:bu}{pos:String}{aft:Array Edge}{gd:Option (Nat×Bool)}
def oY(hS:S.OK):∀(c:TC)(x:c.ty S.T),(qM S c x).refs=[]
 |.i _,_=>rfl
 |.b,_=>rfl
 |.s,_=>rfl
 |.y,_=>rfl
 |.a _ _,x=>by cases x<;>rfl
 |.l _,_=>rfl
 |.m _ _,_=>rfl
 |.st n,x=>by simp only[qM,V.refs];exact hS.refs n x
def aeX(hS:S.OK){v:V}{c:TC}{x:c.ty S.T}(h:au [] v (qM S c x))(m:Option M)(Z:ZM)(y:bw)(hr:dQ m Z v y):dQ m Z (qM S c x) y:=by
 cases m with
 |some m=>exact au.rep (w:=default) (λk t sz fz els e=>by cases e) h hr
 |none =>
  let m0:M:=λ_ _=>bh
  have h1:dQ (aY m0) Z v y:=hr.tV;exact dQ.flat _ _ (oY hS c x) (au.rep (w:=default) (λk t sz fz els e=>by cases e) h h1)
def zf3{cd:Nat->Option TC}{d t:Nat}:(ZZ (S:=S) P cd d t).OK P ⟨dst,.makeMap t bh,ty,pos,aft,gd⟩ E H:=by
 unfold ZZ;split
 .split
  .intro F R hF hR;cases zm hF;cases zm hR;exact zfn
  .trivial
 .trivial
def Sr{kc ec:TC}(D:DecidableEq (kc.ty S.T)){val:kc.ty S.T->bw}{t kt et k:Nat}{x ix:bE}{l:List (kc.ty S.T×ec.ty S.T)}{a:kc.ty S.T}{z:ec.ty S.T}{zv:V}(co:Bool)(hT:sW P t=aY (kt,et))(K:Bk P kt (qM S kc) val)(hz:D1 P et=aY zv)
  (IX:∀(m:Option M)(Z:ZM)(y:bw),dQ m Z zv y->dQ m Z (qM S ec z) y) (hx:ib E x=.raw (.mp k)) (hi:(ib E ix).v=qM S kc a) (hg:H.get k=aY (.map kc ec l)):(MD kc ec k l a z co).OK P ⟨dst,.lookup t x ix co,ty,pos,aft,gd⟩ E H:=by
 intro F R hF hR;cases zm hF;cases j7 hg hR;have:=zkd (P:=P) (ρ:=eV E) (dst:=dst) (ty:=ty) (pos:=pos) (aft:=aft) (gd:=gd) (x:=x) (ix:=ix) (l:=l) (a:=a) co hT K hz IX (by rw[zY,hx];rfl) (by rw[zY];exact hi)
 cases co with
 |true=>exact this
 |false=>exact this
def TL(hS:S.OK){kc ec:TC}(D:DecidableEq (kc.ty S.T)){val:kc.ty S.T->bw}{t kt et k:Nat}{x ix y:bE}{l:List (kc.ty S.T×ec.ty S.T)}{a:kc.ty S.T}{b:ec.ty S.T}(hT:sW P t=aY (kt,et))(K:Bk P kt (qM S kc) val)
  (hx:ib E x=.raw (.mp k)) (hi:(ib E ix).v=qM S kc a) (hy:(ib E y).v=qM S ec b) (hg:H.get k=aY (.map kc ec l)):(NF kc ec k l a b).OK P ⟨dst,.mapUpdate t x ix y,ty,pos,aft,gd⟩ E H:=by intro F R hF hR;cases zm hR;cases j7 hg hF;exact ZQ (P:=P) (ρ:=eV E) (dst:=dst) (ty:=ty) (pos:=pos) (aft:=aft) (gd:=gd) (x:=x) (ix:=ix) (y:=y) (l:=l) (a:=a) (c:=b) hT K (by rw[zY,hx];rfl) (by rw[zY];exact hi) (by rw[zY];exact hy) (oY hS ec b) (oY hS kc a)
def P4(hS:S.OK){ec:TC}{zv:V}{rx:Rx (ec.ty S.T)}(h:Vt [] ec (q6 zv)=aY rx)(m:Option M)(Z:ZM)(y:bw)(hr:dQ m Z zv y):dQ m Z (qM S ec rx.x) y:=by
 have h0:rx.fz=[]/\rx.eq=[]:=by
  unfold Vt at h;split at h
  .rename_i Dj e;cases h;exact P1 e
  .split at h
   .cases ec<;>first|(cases h;done)|skip
    simp only[L4]at h;split at h
    .rename_i Dj e;cases h;exact Jw _ _ _ _ _ e
    .cases h
   .cases h
 have hv:=Vu hS (R:=[]) h (by rw[h0.2];intro p hp;cases hp) (by rw[h0.1];intro k hk;cases hk);rw[D4]at hv;exact aeX hS hv m Z y hr
def zkk(hS:S.OK){t:Nat}{x ix:bE}{co:Bool}:(LB P H t (ib E x) (ib E ix) co).OK P ⟨dst,.lookup t x ix co,ty,pos,aft,gd⟩ E H:=by
 unfold LB;split
 .rename_i kt et hT;split
  .rename_i k zv hx hz;split
   .rename_i ec l a hg hi;split
    .rename_i rx hk hd;exact Sr (val:=λs:aj=>.string ⟨s.toArray⟩) FD co hT (Ra hk) hz (P4 hS hd) hx (by rw[hi];rfl) hg
    .trivial
   .rename_i q ec l q' a hg hi;split
    .rename_i sS rx hk hd;split
     .rename_i hq;obtain⟨rfl,rfl⟩:=hq;exact Sr (val:=λn:Int=>.int sS n) (FE sS) co hT (Rb hk) hz (P4 hS hd) hx (by rw[hi];rfl) hg
     .trivial
    .trivial
   .trivial
  .trivial
 .trivial
def Jx(hS:S.OK){t:Nat}{x ix y:bE}:(AY P H t (ib E x) (ib E ix) (ib E y)).OK P ⟨dst,.mapUpdate t x ix y,ty,pos,aft,gd⟩ E H:=by
 unfold AY;split
 .rename_i kt et hT;split
  .rename_i k t_ b hx hy;split
   .rename_i ec l a hg hi;split
    .rename_i hk;split
     .rename_i e;subst e;exact TL hS (val:=λs:aj=>.string ⟨s.toArray⟩) FD hT (Ra hk) hx (by rw[hi];rfl) (by rw[<- TK,hy];rfl) hg
     .trivial
    .trivial
   .rename_i q ec l q' a hg hi;split
    .rename_i sS hk;split
     .rename_i e;subst e;split
      .rename_i hq;obtain⟨rfl,rfl⟩:=hq;exact TL hS (val:=λn:Int=>.int sS n) (FE sS) hT (Rb hk) hx (by rw[hi];rfl) (by rw[<- TK,hy];rfl) hg
      .trivial
     .trivial
    .trivial
   .trivial
  .trivial
 .trivial
def zn3(hS:S.OK){t:Nat}{x y:bE}:(L7 P H t (ib E x) (ib E y)).OK P ⟨dst,.store t x y,ty,pos,aft,gd⟩ E H:=by
 unfold L7;split
 .trivial
 .rename_i u hu;obtain⟨c1,c2⟩:=A.GK hS hu;split
  .rename_i k off e;split
   .rename_i bt cs hg
    cases hb:(A.vs u).all V.one&&(uR P t u.length&&ck (off+u.length) cs.length)with
    |false=>trivial
    |true =>
     simp only[bn]at hb;intro F R hF hR;cases zm hR;cases j7 hg hF;have hl:=zmu (P:=P) (ρ:=eV E) (dst:=dst) (ty:=ty) (pos:=pos) (aft:=aft) (gd:=gd) (t:=t) (k:=k) (off:=off) (bt:=bt) (a:=x) (x:=y) (cs:=A.vs cs) (by rw[zY,e];rfl) (by rw[zY];exact c2) (by rw[zY,<- c1];exact hb.1) (by rw[zY,<- c1,kV];exact hb.2.1) (by rw[zY,<- c1,kV,kV];exact lR hb.2.2);rw[zY,<- c1,kV]at hl
     show EV.Loc P _ _ [(k,.box bt (A.vs cs))] .no [(k,.box bt (A.vs (cs.take off++u++cs.drop (off+u.length))))]
     rw[Hy,Hy,xp (cs.take off),xp (cs.drop _),eh,ej,<- xp];exact hl
   .trivial
  .rename_i k L i off sz e;split
   .rename_i et c l wl hg
    cases hb:bk sz (zw S c)&&(uR P t u.length&&((A.vs u).all V.one&&(ib E y).v.refs.isEmpty))with
    |false=>trivial
    |true =>
     simp only[bn]at hb;have iz:=eb hb.1;subst iz;intro heq z hz a F' hr F R hF hR;have hL:L=l.length:=(heq _ (gX.2 rfl)).trans wl.h.symm;dsimp only at hr;split at hr
     .rename_i cs nx;split at hr
      .rename_i z' nw uD hd
       cases nY:ck (off+u.length) (zw S c)with
       |false=>rw[nY]at hr;cases hr
       |true =>
        rw[nY]at hr;cases hr;cases zm hR;cases j7 hg hF;have hw:=ZW hS hd;have Xd:=QW hS _ _ _ _ nx;have afG:=lR nY;have hlen:=wZ hS c z
        have mR:cs.length=zw S c:=by rw[<- hlen,<- Xd,kV]
        have tz:(fQ (eV E) y).refs=[]:=by rw[zY];exact eG.1 hb.2.2.2
        refine ZT (et:=et) (sz:=zw S c) (fz:=0) (L:=L) (off:=i*zw S c+off) (cs:=ub S c z) (c1:=A.vs (cs.take off++u++cs.drop (off+u.length))) (c2:=ub S c z') i off (by rw[zY,e];rfl) (by rw[hL,bM]) rfl (by rw[cw,hz];rfl) (cx _)
         (by rw[zY];exact c2) (by rw[zY,<- c1];exact hb.2.2.1) tz (by rw[zY,<- c1,kV];exact hb.2.1) (by rw[zY,<- c1,kV];exact nY) ?_ hw ?_ (gQ ..).symm
        .rw[zY,<- c1,Hy,Hy,xp (cs.take off),xp (cs.drop _),eh,ej,<- xp,Xd,kV]
        .rw[kV,wZ hS]
         have:(cs.take off++u++cs.drop (off+u.length)).length=zw S c:=by simp only[pa,List.length_take,cS];omega
         rw[this];exact cl _
      .cases hr
     .cases hr
   .trivial
  .trivial
end
end
end Go.EQ
namespace Go.EV
open Go Go.RowKit Go.lA
section
variable{P:bl}{f:FuncId}{args:List V}{F R:aw}{v:bw}{ρ:Env}
end
section
variable{K0:List Nat}{c:Ctx K0}{P:bl}{r:Option Nat}{N:Nat}{Q:xE}{ρ:Env}{H:aw}{ds:List ca}{all rest:List Oper}{o:Oper}{v:bw}
end
section
variable{K0:List Nat}{c:Ctx K0}{P:bl}{r:Option Nat}{N:Nat}{all:List Oper}{ds:List ca}{v:bw}
end
section
variable{P:bl}{N:Nat}{all:List Oper}{ρ:Env}{H:aw}{o:Oper}
def zw0{F R F':aw}{v:V}(i:Nat)(kF kR:List Nat)(ho:all[i]?=aY o)(hn:j6 o.op=bg)(hd:(match o.dst with|some d=>ck (d+1) N|none=>bg)=bg)(hw:yv all ρ o=aY bg)
  (hF:ua kF H=aY F) (hR:ua kR H=aY R) (nL:nodupB (keys F'++kR)=bg) (ab8:nodupB kF=bg) (nU:(kF.all (keys F').contains)=bg) (ln:(F'.all λp=>kF.contains p.1||!jP p.1 H)=bg)
  (hl:Loc P o ρ (F++R) v (F'++R)) (IF:(keys H).Nodup) {fp:FP} (hfi:fp.i=i) (hff:fp.fk=keys F') (ab3:fp.rk=kR) (aec:Bq P o ρ.get H.get (F'++kr kF H).get v fp):(keys (F'++kr kF H)).Nodup/\ud P N all fp ρ.get H.get (oP o.dst v ρ).get (F'++kr kF H).get:=by
 subst hfi;obtain⟨C0,Ib⟩:=yK hF;obtain⟨v_,Ie⟩:=yK hR
 have δ:∀p∈F',p.1 ∉ kF->p.1 ∉ keys H:=λp hp hk IB=>by
  have:=(bm.1 ln) p hp;simp only[cM,bX,aU,bL]at this
  rcases this with h'|h'
  .exact hk h'
  .rw[yp.2 IB]at h';cases h'
 have ael:(keys F').Nodup:=(cz.1 (yn nL)).1
 have aeo:(keys (kr kF H)).Nodup:=by
  have:(keys (kr kF H))=(keys H).filter (λk=>!kF.contains k):=by simp only[keys,kr];rw[gF];rfl
  rw[this];exact IF.filter _
 refine⟨?_,o,v,ho,hn,λd l5=>?_,SB _ _ _,.inr ⟨hw,F,R,F',?_,?_,?_,?_,hff.symm,v_.trans ab3.symm,λp hp=>?_,λk hk na=>?_,?_,aec⟩⟩
 .rw[zr];refine cz.2 ⟨ael,aeo,λa ha b hb e=>?_⟩;subst e;obtain⟨p,hp,rfl⟩:=bF.1 ha;obtain⟨q,hq,e⟩:=bF.1 hb;have l_:=du.1 hq
  have hnk:p.1 ∉ kF:=by have:=l_.2;simp only[bL,bX,aW]at this;rw[<- e];exact this
  exact δ p hp hnk (by rw[<- e];exact ax l_.1)
 .rw[l5]at hd;exact lR hd
 .exact sv.congr (g:=fQ ρ) hl λx _=>TB ρ x
 .rw[zr,v_];exact yn nL
 .rw[C0];exact yn ab8
 .intro k hk;rw[C0]at hk;have:=(bm.1 nU) k hk;simpa using this
 .rcases bI.1 hp with hp|hp
  .exact get_of_mem IF (Ib p hp)
  .exact get_of_mem IF (Ie p hp)
 .obtain⟨p,hp,rfl⟩:=bF.1 hk;exact get_none.1 (δ p hp (C0▸na))
 .funext k
  rw[get_append];by_cases h1:k∈keys F'
  .simp[W9,h1]
  .rw[aN h1,yU h1]
   refine HS λhk=>h1 ?_
   have:=(bm.1 nU) k hk;simpa using this
end
end Go.EV
namespace Go.EQ
open Go Go.RowKit Go.lA Go.EV
mutual
def Z1{σ:Nat->Nat}:∀v:V,v.refs=[]->v.gz σ=v
 |.undef,_=>rfl
 |.no,_=>rfl
 |.int ..,_=>rfl
 |.bool _,_=>rfl
 |.str _,_=>rfl
 |.lF,_=>rfl
 |.ptr ..,h=>by simp[V.refs]at h
 |.vp ..,_=>rfl
 |.iO,_=>rfl
 |.sl ..,h=>by simp[V.refs]at h
 |.vs ..,_=>rfl
 |.fn f a b,h=>by
  simp only[V.refs,dL]at h;simp only[V.gz,ug a h.1,ug b h.2]
 |.lZ,_=>rfl
 |.agg cs,h=>by simp only[V.gz,ug cs h]
 |.ij xs,h=>by simp only[V.gz,ug xs h]
 |.lP,_=>rfl
 |.mp _,h=>by simp[V.refs]at h
 |.mn,_=>rfl
 |.lN t v,h=>by simp only[V.gz,Z1 v h]
 |.gv ..,h=>by simp[V.refs]at h
 |.pv _,_=>rfl
def ug{σ:Nat->Nat}:∀vs:List V,y8 vs=[]->ZF σ vs=vs
 |[],_=>rfl
 |v::vs,h=>by simp only[y8,dL]at h;simp only[ZF,Z1 v h.1,ug vs h.2]
end
section
variable{S:lW}
mutual
def A.gz(σ:Nat->Nat):A S.T->A S.T
 |.raw v=>.raw (v.gz σ)
 |.iR c x=>.iR c x
 |.ag cs=>.ag (A.nE σ cs)
 |.ij xs=>.ij (A.nE σ xs)
 |.rh sz k n=>.rh sz (σ k) n
 |.oh k=>.oh (σ k)
 |.nh sz k n=>.nh sz (σ k) n
 |.rp k L i off sz=>.rp (σ k) L i off sz
 |.vp c x off=>.vp c x off
 |.fn f a b=>.fn f (A.nE σ a) (A.nE σ b)
 |.lN t a=>.lN t (a.gz σ)
def A.nE(σ:Nat->Nat):List (A S.T)->List (A S.T)
 |[]=>[]
 |a::r=>a.gz σ::A.nE σ r
end
def OA.gz(σ:Nat->Nat):OA S.T->OA S.T
 |.box t cs=>.box t (A.nE σ cs)
 |o=>o
def Di(σ:Nat->Nat)(F:AH S.T):AH S.T:=F.map λp=>(σ p.1,p.2.gz σ)
mutual
def D0(hS:S.OK){σ:Nat->Nat}:∀a:A S.T,(a.gz σ).v=a.v.gz σ
 |.raw _=>by simp only[A.gz,A.v]
 |.iR c x=>by simp only[A.gz,A.v];exact(Z1 _ (oY hS c x)).symm
 |.ag cs=>by simp only[A.gz,A.v,V.gz,oZ hS cs]
 |.ij xs=>by simp only[A.gz,A.v,V.gz,oZ hS xs]
 |.rh ..=>by simp only[A.gz,A.v,V.gz]
 |.oh ..=>by simp only[A.gz,A.v,V.gz]
 |.nh ..=>by simp only[A.gz,A.v,V.gz]
 |.rp ..=>by simp only[A.gz,A.v,V.gz]
 |.vp ..=>by simp only[A.gz,A.v,V.gz]
 |.fn f a b=>by simp only[A.gz,A.v,V.gz,oZ hS a,oZ hS b]
 |.lN t a=>by simp only[A.gz,A.v,V.gz,D0 hS a]
def oZ(hS:S.OK){σ:Nat->Nat}:∀l:List (A S.T),A.vs (A.nE σ l)=ZF σ (A.vs l)
 |[]=>by simp only[A.nE,A.vs,ZF]
 |a::r=>by simp only[A.nE,A.vs,ZF,D0 hS a,oZ hS r]
end
def UA(hS:S.OK){σ:Nat->Nat}:∀o:OA S.T,(o.gz σ).o=o.o.gz σ
 |.box t cs=>by simp only[OA.gz,OA.o,Obj.gz,oZ hS]
 |.row ..=>rfl
 |.map ..=>rfl
 |.rw i=>by simp only[OA.gz,OA.o,hS.XV]
 |.gn ..=>by simp only[OA.gz,OA.o,hS.W_]
structure Ct(S:lW) where
 ins:List Tp
 hin:List (Nat×TO)
 ci:List TC
 out:Tp
 lj:List (Nat×TO)
 co:List TC
 alt:Bool
 fn:HL S.T ci->Option (HL S.T co)
def Ct.OK(P:bl)(f:Nat)(c:Ct S):Prop:=∀x r,c.fn x=aY r ->
 mN P f (A.vs (Tp.lK c.hin (xN c.ci x) c.ins)) (hV (K1 c.hin (xN c.ci x))) (c.out.put c.lj (xN c.ci x++xN c.co r)).v (hV (K1 c.lj (xN c.ci x++xN c.co r)))
end
mutual
/-- The names in a template. -/
def Tp.names:Tp->List Nat
 |.ptr k _=>[k]
 |.mp k=>[k]
 |.row _ k=>[k]
 |.om k=>[k]
 |.rj _ k=>[k]
 |.rp _ k _ _=>[k]
 |.ag l=>Tp.rm l
 |.ij l=>Tp.rm l
 |.fn _ a b=>Tp.rm a++Tp.rm b
 |.lN _ a=>a.names
 |_=>[]
def Tp.rm:List Tp->List Nat
 |[]=>[]
 |t::r=>t.names++Tp.rm r
end
def TO.names:TO->List Nat
 |.box _ cs=>Tp.rm cs
 |_=>[]
section
variable{S:lW}
mutual
def Z3(hS:S.OK){hp:List (Nat×TO)}{ds:List (Dy S.T)}:∀t:Tp,(t.put hp ds).v.refs=t.names
 |.lF=>by simp only[Tp.put,A.v,V.refs,Tp.names]
 |.iO=>by simp only[Tp.put,A.v,V.refs,Tp.names]
 |.lZ=>by simp only[Tp.put,A.v,V.refs,Tp.names]
 |.lP=>by simp only[Tp.put,A.v,V.refs,Tp.names]
 |.mn=>by simp only[Tp.put,A.v,V.refs,Tp.names]
 |.no=>by simp only[Tp.put,A.v,V.refs,Tp.names]
 |.Fh=>by simp only[Tp.put,A.v,V.refs,Tp.names]
 |.d c j=>by simp only[Tp.put,A.v,Tp.names];exact oY hS c _
 |.ptr ..=>by simp only[Tp.put,A.v,V.refs,Tp.names]
 |.mp _=>by simp only[Tp.put,A.v,V.refs,Tp.names]
 |.row ..=>by simp only[Tp.put,A.v,V.refs,Tp.names]
 |.om _=>by simp only[Tp.put,A.v,V.refs,Tp.names]
 |.rj ..=>by simp only[Tp.put,A.v,V.refs,Tp.names]
 |.rp ..=>by simp only[Tp.put,A.v,V.refs,Tp.names]
 |.ci ..=>by simp only[Tp.put,A.v,qM,V.refs,Tp.names]
 |.ag l=>by simp only[Tp.put,A.v,V.refs,Tp.names];exact vg hS l
 |.ij l=>by simp only[Tp.put,A.v,V.refs,Tp.names];exact vg hS l
 |.fn f a b=>by simp only[Tp.put,A.v,V.refs,Tp.names,vg hS a,vg hS b]
 |.lN t a=>by simp only[Tp.put,A.v,V.refs,Tp.names];exact Z3 hS a
def vg(hS:S.OK){hp:List (Nat×TO)}{ds:List (Dy S.T)}:∀l:List Tp,y8 (A.vs (Tp.lK hp ds l))=Tp.rm l
 |[]=>by simp only[Tp.lK,A.vs,y8,Tp.rm]
 |t::r=>by simp only[Tp.lK,A.vs,y8,Tp.rm,Z3 hS t,vg hS r]
end
def uT(ins:List Tp)(hin:List (Nat×TO)):Bool:=(Tp.rm ins).all (hin.map (·.1)).contains&&hin.all λp=>p.2.names.all (hin.map (·.1)).contains
def jd{hp:List (Nat×TO)}{ds:List (Dy S.T)}:keys (hV (K1 (S:=S) hp ds))=hp.map (·.1):=by simp only[TR,K1,cF];rfl
def Kr(hS:S.OK){ins:List Tp}{hin:List (Nat×TO)}{ds:List (Dy S.T)}(h:uT ins hin=bg):EV.Kl (A.vs (Tp.lK hin ds ins)) (hV (K1 hin ds))=bg:=by
 simp only[uT,bn]at h;simp only[EV.Kl,bn,vg hS,jd];refine⟨h.1,bm.2 λp hp=>?_⟩;simp only[hV,K1,cF,bF]at hp;obtain⟨q,hq,rfl⟩:=hp;have:=(bm.1 h.2) q hq;obtain⟨k,o⟩:=q
 cases o with
 |box t cs=>simpa[OA.o,TO.put,Obj.refs,vg hS,TO.names]using this
 |row=>rfl
 |map=>rfl
 |rw i=>show((S.ro i).refs.all _)=bg;rw[hS.NA];rfl
 |gn i c j=>show((S.go i c (KZ ds j c)).refs.all _)=bg;rw[hS.M'];rfl
end
section
variable{S:lW}
def Sat(ds:List (Dy S.T))(ps:List (Nat×Dy S.T)):Prop:=∀p∈ps,KZ ds p.1 p.2.1=p.2.2
def mo(σ:Nat->Nat)(ns:List (Nat×Nat)):Prop:=∀p∈ns,σ p.1=p.2
def Sat.left{ds:List (Dy S.T)}{a b:List (Nat×Dy S.T)}(h:Sat ds (a++b)):Sat ds a:=λp hp=>h p (bJ _ hp)
def Sat.right{ds:List (Dy S.T)}{a b:List (Nat×Dy S.T)}(h:Sat ds (a++b)):Sat ds b:=λp hp=>h p (bO _ hp)
def mo.left{σ:Nat->Nat}{a b:List (Nat×Nat)}(h:mo σ (a++b)):mo σ a:=λp hp=>h p (bJ _ hp)
def mo.right{σ:Nat->Nat}{a b:List (Nat×Nat)}(h:mo σ (a++b)):mo σ b:=λp hp=>h p (bO _ hp)
structure uh(hp:List (Nat×TO))(ds:List (Dy S.T))(σ:Nat->Nat)(H:AH S.T):Prop where
 r:∀k c j,sw hp k=aY (c,j)->∀e c' fz l w,H.get (σ k)=aY (.row e c' fz l w)->ba (α:=c.ty S.T) (KZ ds j (.l c))=l.length
def o3{ds:List (Dy S.T)}:∀{hp:List (Nat×TO)}{k:Nat}{c:TC}{j:Nat},sw hp k=aY (c,j)->Br ds hp k=ba (α:=c.ty S.T) (KZ ds j (.l c))
 |(k',.row e c' j' fz)::r,k,c,j,h=>by
  simp only[sw]at h;simp only[Br]
  cases hb:bk k k' with
  |true=>rw[hb]at h;cases h;rfl
  |false=>rw[hb]at h;exact o3 h
 |(k',.box ..)::r,k,c,j,h=>o3 (hp:=r) h
 |(k',.map ..)::r,k,c,j,h=>o3 (hp:=r) h
 |(k',.rw _)::r,k,c,j,h=>o3 (hp:=r) h
 |(k',.gn ..)::r,k,c,j,h=>o3 (hp:=r) h
def zBe{c:TC}{a:A S.T}{x:c.ty S.T}(h:M8 c a=aY x):a.v=qM S c x:=by
 unfold M8 at h;split at h
 .split at h
  .rename_i e;subst e;cases h;rfl
  .cases h
 .cases c<;>first|(cases h;done)|(cases h;rfl)
 .cases h
variable{hp:List (Nat×TO)}{ds:List (Dy S.T)}{σ:Nat->Nat}{H:AH S.T}
def zs2{sz k lz k' n:Nat}{rd:Rd S.T}(h:Tp.read hp bg H (.row sz k) (.rh lz k' n)=aY rd)(hn:mo σ rd.ns)(he:xO rd.eq)(hr:uh hp ds σ H):(A.rh (T:=S.T) lz k' n)=((Tp.row sz k).put hp ds).gz σ:=by
 simp only[Tp.read]at h;split at h
 .rename_i l w q hg hq
  cases hb:bk sz lz with
  |false=>rw[hb]at h;cases h
  |true =>
   rw[hb]at h;cases h;have e1:=eb hb;subst e1;have e2:σ k=k':=hn _ (gX.2 rfl);have e3:n=l.length:=(he _ (gX.2 rfl)).trans w.h.symm;obtain⟨c,j⟩:=q;simp only[Tp.put,A.gz,o3 hq,e2];rw[hr.r k c j hq _ _ _ _ _ (by rw[e2];exact hg),e3]
 .cases h
def zn5{sz k lz k' n:Nat}{rd:Rd S.T}(h:Tp.read hp bg H (.rj sz k) (.nh lz k' n)=aY rd)(hn:mo σ rd.ns)(he:xO rd.eq)(hr:uh hp ds σ H):(A.nh (T:=S.T) lz k' n)=((Tp.rj sz k).put hp ds).gz σ:=by
 simp only[Tp.read]at h;split at h
 .rename_i l w q hg hq
  cases hb:bk sz lz with
  |false=>rw[hb]at h;cases h
  |true =>
   rw[hb]at h;cases h;have e1:=eb hb;subst e1;have e2:σ k=k':=hn _ (gX.2 rfl);have e3:n=l.length:=(he _ (gX.2 rfl)).trans w.h.symm;obtain⟨c,j⟩:=q;simp only[Tp.put,A.gz,o3 hq,e2];rw[hr.r k c j hq _ _ _ _ _ (by rw[e2];exact hg),e3]
 .cases h
def zw1{sz k j off k' L i pW lz:Nat}{rd:Rd S.T}(h:Tp.read hp bg H (.rp sz k j off) (.rp k' L i pW lz)=aY rd)(hs:Sat ds rd.ps)(hn:mo σ rd.ns)(he:xO rd.eq)(hr:uh hp ds σ H):(A.rp (T:=S.T) k' L i pW lz)=((Tp.rp sz k j off).put hp ds).gz σ:=by
 simp only[Tp.read]at h;split at h
 .rename_i l w q hg hq
  cases hb:bk sz lz&&bk off pW with
  |false=>rw[hb]at h;cases h
  |true =>
   rw[hb]at h;cases h;simp only[bn]at hb;have e1:=eb hb.1;have e4:=eb hb.2;subst e1;subst e4;have e2:σ k=k':=hn _ (gX.2 rfl);have e3:L=l.length:=(he _ (gX.2 rfl)).trans w.h.symm;have e5:KZ ds j (.i .i64)=Int.ofNat i:=hs _ (gX.2 rfl);obtain⟨c,j'⟩:=q;simp only[Tp.put,A.gz,o3 hq,e2,e5];rw[hr.r k c j' hq _ _ _ _ _ (by rw[e2];exact hg),e3];rfl
 .cases h
mutual
def xF(hS:S.OK):∀(t:Tp)(a:A S.T)(rd:Rd S.T),Tp.read hp bg H t a=aY rd->Sat ds rd.ps->mo σ rd.ns->xO rd.eq->uh hp ds σ H->a.v=((t.put hp ds).gz σ).v/\rd.fz=[]
 |.d c j,a,rd,h,hs,hn,he,hr=>by
  simp only[Tp.read,ct]at h;split at h
  .rename_i x e;cases h;have h1:KZ ds j c=x:=hs _ (gX.2 rfl);refine⟨?_,rfl⟩;simp only[Tp.put,A.gz,h1];exact zBe e
  .cases h
 |.row sz k,a,rd,h,hs,hn,he,hr=>by
  cases a<;>first|(simp only[Tp.read]at h;cases h;done)|skip
  rename_i lz k' n;refine⟨aP A.v (zs2 h hn he hr),?_⟩;simp only[Tp.read]at h;split at h
  .cases hb:bk sz lz with
   |false=>rw[hb]at h;cases h
   |true=>rw[hb]at h;cases h;rfl
  .cases h
 |.rj sz k,a,rd,h,hs,hn,he,hr=>by
  cases a<;>first|(simp only[Tp.read]at h;cases h;done)|skip
  rename_i lz k' n;refine⟨aP A.v (zn5 h hn he hr),?_⟩;simp only[Tp.read]at h;split at h
  .cases hb:bk sz lz with
   |false=>rw[hb]at h;cases h
   |true=>rw[hb]at h;cases h;rfl
  .cases h
 |.rp sz k j off,a,rd,h,hs,hn,he,hr=>by
  cases a<;>first|(simp only[Tp.read]at h;cases h;done)|skip
  rename_i k' L i pW lz;refine⟨aP A.v (zw1 h hs hn he hr),?_⟩;simp only[Tp.read]at h;split at h
  .cases hb:bk sz lz&&bk off pW with
   |false=>rw[hb]at h;cases h
   |true=>rw[hb]at h;cases h;rfl
  .cases h
 |.om k,a,rd,h,hs,hn,he,hr=>by
  cases a<;>first|(simp only[Tp.read]at h;cases h;done)|skip
  rename_i k';simp only[Tp.read]at h;cases h;refine⟨?_,rfl⟩;have e2:σ k=k':=hn _ (gX.2 rfl);simp only[Tp.put,A.gz,e2]
 |.ci k n,a,rd,h,hs,hn,he,hr=>by
  cases a<;>first|(simp only[Tp.read]at h;cases h;done)|skip
  rename_i c x
  cases c<;>first|(simp only[Tp.read]at h;cases h;done)|skip
  rename_i k';simp only[Tp.read]at h
  cases hb:decide (k'=k)&&Nr x n with
  |false=>rw[hb]at h;cases h
  |true =>
   rw[hb]at h;cases h;simp only[bn,aU]at hb;obtain⟨rfl,hx⟩:=hb;have hx:@Eq Int x n:=zwq hx;subst hx;exact⟨by simp only[Tp.put,A.gz],rfl⟩
 |.lF,a,rd,h,hs,hn,he,hr=>by
  cases a<;>first|(simp only[Tp.read]at h;cases h;done)|skip
  rename_i v
  cases v<;>first|(simp only[Tp.read]at h;cases h;done)|skip
  simp only[Tp.read]at h;cases h;exact⟨by simp only[Tp.put,A.gz,A.v,V.gz],rfl⟩
 |.iO,a,rd,h,hs,hn,he,hr=>by
  cases a<;>first|(simp only[Tp.read]at h;cases h;done)|skip
  rename_i v
  cases v<;>first|(simp only[Tp.read]at h;cases h;done)|skip
  simp only[Tp.read]at h;cases h;exact⟨by simp only[Tp.put,A.gz,A.v,V.gz],rfl⟩
 |.lZ,a,rd,h,hs,hn,he,hr=>by
  cases a<;>first|(simp only[Tp.read]at h;cases h;done)|skip
  rename_i v
  cases v<;>first|(simp only[Tp.read]at h;cases h;done)|skip
  simp only[Tp.read]at h;cases h;exact⟨by simp only[Tp.put,A.gz,A.v,V.gz],rfl⟩
 |.lP,a,rd,h,hs,hn,he,hr=>by
  cases a<;>first|(simp only[Tp.read]at h;cases h;done)|skip
  rename_i v
  cases v<;>first|(simp only[Tp.read]at h;cases h;done)|skip
  simp only[Tp.read]at h;cases h;exact⟨by simp only[Tp.put,A.gz,A.v,V.gz],rfl⟩
 |.mn,a,rd,h,hs,hn,he,hr=>by
  cases a<;>first|(simp only[Tp.read]at h;cases h;done)|skip
  rename_i v
  cases v<;>first|(simp only[Tp.read]at h;cases h;done)|skip
  simp only[Tp.read]at h;cases h;exact⟨by simp only[Tp.put,A.gz,A.v,V.gz],rfl⟩
 |.no,a,rd,h,hs,hn,he,hr=>by
  cases a<;>first|(simp only[Tp.read]at h;cases h;done)|skip
  rename_i v
  cases v<;>first|(simp only[Tp.read]at h;cases h;done)|skip
  simp only[Tp.read]at h;cases h;exact⟨by simp only[Tp.put,A.gz,A.v,V.gz],rfl⟩
 |.Fh,a,rd,h,hs,hn,he,hr=>by cases a<;>(simp only[Tp.read]at h;cases h)
 |.ptr k off,a,rd,h,hs,hn,he,hr=>by
  cases a<;>first|(simp only[Tp.read]at h;cases h;done)|skip
  rename_i v
  cases v<;>first|(simp only[Tp.read]at h;cases h;done)|skip
  rename_i k' L pW
  cases L with
  |succ L=>simp only[Tp.read]at h;cases h
  |zero =>
   simp only[Tp.read]at h
   cases hb:bk off pW with
   |false=>rw[hb]at h;cases h
   |true =>
    rw[hb]at h;cases h;have e1:=eb hb;subst e1;have e2:σ k=k':=hn _ (gX.2 rfl);exact⟨by simp only[Tp.put,A.gz,A.v,V.gz,e2],rfl⟩
 |.mp k,a,rd,h,hs,hn,he,hr=>by
  cases a<;>first|(simp only[Tp.read]at h;cases h;done)|skip
  rename_i v
  cases v<;>first|(simp only[Tp.read]at h;cases h;done)|skip
  rename_i k';simp only[Tp.read]at h;cases h;have e2:σ k=k':=hn _ (gX.2 rfl);exact⟨by simp only[Tp.put,A.gz,A.v,V.gz,e2],rfl⟩
 |.ag l,a,rd,h,hs,hn,he,hr=>by
  cases a<;>first|(simp only[Tp.read]at h;cases h;done)|skip
  rename_i l';simp only[Tp.read]at h;obtain⟨h1,h2⟩:=AZ hS l l' rd h hs hn he hr;exact⟨by simp only[Tp.put,A.gz,A.v,h1],h2⟩
 |.ij l,a,rd,h,hs,hn,he,hr=>by
  cases a<;>first|(simp only[Tp.read]at h;cases h;done)|skip
  rename_i l';simp only[Tp.read]at h;obtain⟨h1,h2⟩:=AZ hS l l' rd h hs hn he hr;exact⟨by simp only[Tp.put,A.gz,A.v,h1],h2⟩
 |.fn f x y,a,rd,h,hs,hn,he,hr=>by
  cases a<;>first|(simp only[Tp.read]at h;cases h;done)|skip
  rename_i f' x' y';simp only[Tp.read]at h
  cases hb:bk f f' with
  |false=>rw[hb]at h;cases h
  |true =>
   rw[hb]at h;have e1:=eb hb;subst e1;dsimp only[ct]at h;split at h
   .rename_i r1 g1;split at h
    .rename_i r2 g2;cases h;obtain⟨h1,h2⟩:=AZ hS x x' r1 g1 hs.left hn.left he.left hr;obtain⟨h3,h4⟩:=AZ hS y y' r2 g2 hs.right hn.right he.right hr;exact⟨by simp only[Tp.put,A.gz,A.v,h1,h3],by simp only[Rd.app,h2,h4,cy]⟩
    .cases h
   .cases h
 |.lN aaq x,a,rd,h,hs,hn,he,hr=>by
  cases a<;>first|(simp only[Tp.read]at h;cases h;done)|skip
  rename_i t' x';simp only[Tp.read]at h
  cases hb:bk aaq t' with
  |false=>rw[hb]at h;cases h
  |true =>
   rw[hb]at h;have e1:=eb hb;subst e1;obtain⟨h1,h2⟩:=xF hS x x' rd h hs hn he hr;exact⟨by simp only[Tp.put,A.gz,A.v,h1],h2⟩
def AZ(hS:S.OK):∀(ts:List Tp)(asZ:List (A S.T))(rd:Rd S.T),Tp.reads hp bg H ts asZ=aY rd->Sat ds rd.ps->mo σ rd.ns->xO rd.eq->uh hp ds σ H->A.vs asZ=A.vs (A.nE σ (Tp.lK hp ds ts))/\rd.fz=[]
 |[],[],rd,h,hs,hn,he,hr=>by
  simp only[Tp.reads]at h;cases h;exact⟨by simp only[Tp.lK,A.nE],rfl⟩
 |t::ts,a::asZ,rd,h,hs,hn,he,hr=>by
  simp only[Tp.reads]at h;split at h
  .rename_i r1 g1;split at h
   .rename_i r2 g2;cases h;obtain⟨h1,h2⟩:=xF hS t a r1 g1 hs.left hn.left he.left hr;obtain⟨h3,h4⟩:=AZ hS ts asZ r2 g2 hs.right hn.right he.right hr;exact⟨by simp only[Tp.lK,A.nE,A.vs,h1,h3],by simp only[Rd.app,h2,h4,cy]⟩
   .cases h
  .cases h
 |[],_::_,_,h,_,_,_,_=>by simp only[Tp.reads]at h;cases h
 |_::_,[],_,h,_,_,_,_=>by simp only[Tp.reads]at h;cases h
end
def A0{t:Tp}(a:A S.T)(ht:t=.lF∨t=.iO∨t=.lZ∨t=.lP∨t=.mn∨t=.no):Tp.read hp bg H t a=Tp.read hp bf H t a:=by
 rcases ht with rfl|rfl|rfl|rfl|rfl|rfl<;>(cases a<;>first|(simp only[Tp.read];done)|(rename_i v;cases v<;>simp only[Tp.read]))
mutual
def zn6(hS:S.OK){R:aw}:∀(t:Tp)(a:A S.T)(rd:Rd S.T),Tp.read hp bf H t a=aY rd->Sat ds rd.ps->mo σ rd.ns->xO rd.eq->uh hp ds σ H->RowsIn H R rd.fz->au R a.v ((t.put hp ds).gz σ).v
 |.d c j,a,rd,h,hs,hn,he,hr,hR=>by
  simp only[Tp.read,cf]at h;split at h
  .rename_i rx e;cases h;have h1:KZ ds j c=rx.x:=hs _ (gX.2 rfl);simp only[Tp.put,A.gz,h1];exact Vu hS e he hR
  .cases h
 |.ag l,a,rd,h,hs,hn,he,hr,hR=>by
  cases a<;>first|(simp only[Tp.read]at h;cases h;done)|skip
  rename_i l';simp only[Tp.read]at h;have:=ui hS l l' rd h hs hn he hr hR;simp only[Tp.put,A.gz,A.v];exact .agg this
 |.ij l,a,rd,h,hs,hn,he,hr,hR=>by
  rw[(xF hS (.ij l) a rd (by rw[<- h];cases a<;>simp only[Tp.read]) hs hn he hr).1];exact .same _
 |.lF,a,rd,h,hs,hn,he,hr,hR=>by rw[(xF hS .lF a rd (by rw[<- h];exact A0 a ae) hs hn he hr).1];exact .same _
 |.iO,a,rd,h,hs,hn,he,hr,hR=>by rw[(xF hS .iO a rd (by rw[<- h];exact A0 a ae) hs hn he hr).1];exact .same _
 |.lZ,a,rd,h,hs,hn,he,hr,hR=>by rw[(xF hS .lZ a rd (by rw[<- h];exact A0 a ae) hs hn he hr).1];exact .same _
 |.lP,a,rd,h,hs,hn,he,hr,hR=>by rw[(xF hS .lP a rd (by rw[<- h];exact A0 a ae) hs hn he hr).1];exact .same _
 |.mn,a,rd,h,hs,hn,he,hr,hR=>by rw[(xF hS .mn a rd (by rw[<- h];exact A0 a ae) hs hn he hr).1];exact .same _
 |.no,a,rd,h,hs,hn,he,hr,hR=>by rw[(xF hS .no a rd (by rw[<- h];exact A0 a ae) hs hn he hr).1];exact .same _
 |.ptr k off,a,rd,h,hs,hn,he,hr,hR=>by rw[(xF hS (.ptr k off) a rd (by rw[<- h];cases a<;>first|(simp only[Tp.read];done)|(rename_i v;cases v<;>first|(simp only[Tp.read];done)|(rename_i q L pW;cases L<;>simp only[Tp.read]))) hs hn he hr).1];exact .same _
 |.mp k,a,rd,h,hs,hn,he,hr,hR=>by rw[(xF hS (.mp k) a rd (by rw[<- h];cases a<;>first|(simp only[Tp.read];done)|(rename_i v;cases v<;>simp only[Tp.read])) hs hn he hr).1];exact .same _
 |.row sz k,a,rd,h,hs,hn,he,hr,hR=>by rw[(xF hS (.row sz k) a rd (by rw[<- h];cases a<;>simp only[Tp.read]) hs hn he hr).1];exact .same _
 |.rp sz k j off,a,rd,h,hs,hn,he,hr,hR=>by rw[(xF hS (.rp sz k j off) a rd (by rw[<- h];cases a<;>simp only[Tp.read]) hs hn he hr).1];exact .same _
 |.rj sz k,a,rd,h,hs,hn,he,hr,hR=>by rw[(xF hS (.rj sz k) a rd (by rw[<- h];cases a<;>simp only[Tp.read]) hs hn he hr).1];exact .same _
 |.om k,a,rd,h,hs,hn,he,hr,hR=>by rw[(xF hS (.om k) a rd (by rw[<- h];cases a<;>simp only[Tp.read]) hs hn he hr).1];exact .same _
 |.ci k n,a,rd,h,hs,hn,he,hr,hR=>by rw[(xF hS (.ci k n) a rd (by rw[<- h];cases a<;>first|(simp only[Tp.read];done)|(rename_i c x;cases c<;>simp only[Tp.read])) hs hn he hr).1];exact .same _
 |.fn f x y,a,rd,h,hs,hn,he,hr,hR=>by rw[(xF hS (.fn f x y) a rd (by rw[<- h];cases a<;>simp only[Tp.read]) hs hn he hr).1];exact .same _
 |.lN f x,a,rd,h,hs,hn,he,hr,hR=>by rw[(xF hS (.lN f x) a rd (by rw[<- h];cases a<;>simp only[Tp.read]) hs hn he hr).1];exact .same _
def ui(hS:S.OK){R:aw}:∀(ts:List Tp)(asZ:List (A S.T))(rd:Rd S.T),Tp.reads hp bf H ts asZ=aY rd->Sat ds rd.ps->mo σ rd.ns->xO rd.eq->uh hp ds σ H->RowsIn H R rd.fz->vB R (A.vs asZ) (A.vs (A.nE σ (Tp.lK hp ds ts)))
 |[],[],rd,h,hs,hn,he,hr,hR=>by
  simp only[Tp.lK,A.nE,A.vs];exact .nil
 |t::ts,a::asZ,rd,h,hs,hn,he,hr,hR=>by
  simp only[Tp.reads]at h;split at h
  .rename_i r1 g1;split at h
   .rename_i r2 g2;cases h;simp only[Tp.lK,A.nE,A.vs];exact .cons (zn6 hS t a r1 g1 hs.left hn.left he.left hr hR.left) (ui hS ts asZ r2 g2 hs.right hn.right he.right hr hR.right)
   .cases h
  .cases h
 |[],_::_,_,h,_,_,_,_,_=>by simp only[Tp.reads]at h;cases h
 |_::_,[],_,h,_,_,_,_,_=>by simp only[Tp.reads]at h;cases h
end
end
section
variable{S:lW}
def Fi(hp:List (Nat×TO))(ds:List (Dy S.T))(l:List (Nat×TO)):AH S.T:=l.map λp=>(p.1,p.2.put hp ds)
variable{hp:List (Nat×TO)}{ds:List (Dy S.T)}{σ:Nat->Nat}{H:AH S.T}
def A1:∀{hp:List (Nat×TO)}{k:Nat}{c:TC}{j:Nat},sw hp k=aY (c,j)->∃e fz,(k,TO.row e c j fz)∈hp
 |(k',.row e c' j' fz)::r,k,c,j,h=>by
  simp only[sw]at h
  cases hb:bk k k' with
  |true =>
   rw[hb]at h;cases h;have:=eb hb;subst this;exact⟨e,fz,ak⟩
  |false =>
   rw[hb]at h;obtain⟨e,fz,h1⟩:=A1 h;exact⟨e,fz,iT _ h1⟩
 |(k',.box ..)::r,k,c,j,h=>by
  obtain⟨e,fz,h1⟩:=A1 (hp:=r) h;exact⟨e,fz,iT _ h1⟩
 |(k',.map ..)::r,k,c,j,h=>by
  obtain⟨e,fz,h1⟩:=A1 (hp:=r) h;exact⟨e,fz,iT _ h1⟩
 |(k',.rw _)::r,k,c,j,h=>by
  obtain⟨e,fz,h1⟩:=A1 (hp:=r) h;exact⟨e,fz,iT _ h1⟩
 |(k',.gn ..)::r,k,c,j,h=>by obtain⟨e,fz,h1⟩:=A1 (hp:=r) h;exact⟨e,fz,iT _ h1⟩
def Vv:∀{ns:List (Nat×Nat)}{k k':Nat},Gh ns k=aY k'->(k,k')∈ns
 |(a,b)::r,k,k',h=>by
  simp only[Gh]at h
  cases hb:bk k a with
  |true =>
   rw[hb]at h;cases h;have:=eb hb;subst this;exact ak
  |false=>rw[hb]at h;exact iT _ (Vv h)
def P5{e:Nat}{c:TC}{j:Nat}{fz:Bool}{o:OA S.T}{rd:Rd S.T}(h:TO.read hp H (.row e c j fz) o=aY rd)(hs:Sat ds rd.ps):∃f l w,o=.row e c f l w/\KZ ds j (.l c)=l/\GU fz f=bg/\rd.fz=[]:=by
 cases o<;>first|(simp only[TO.read]at h;cases h;done)|skip
 rename_i e' c' f l wl;simp only[TO.read]at h
 cases hb:bk e e'&&GU fz f with
 |false=>rw[hb]at h;cases h
 |true =>
  rw[hb]at h;simp only[bn]at hb;have e1:=eb hb.1;subst e1;dsimp only[ct]at h;split at h
  .rename_i e2;subst e2;cases h;exact⟨f,l,wl,rfl,hs _ (gX.2 rfl),hb.2,rfl⟩
  .cases h
def zs3(hS:S.OK){toZ:TO}{o:OA S.T}{rd:Rd S.T}(h:TO.read hp H toZ o=aY rd)(hs:Sat ds rd.ps)(hn:mo σ rd.ns)(he:xO rd.eq)(hr:uh hp ds σ H):o.o=((toZ.put hp ds).gz σ).o/\rd.fz=[]:=by
 cases toZ with
 |box t cs =>
  cases o<;>first|(simp only[TO.read]at h;cases h;done)|skip
  rename_i t' ly;simp only[TO.read]at h
  cases hb:bk t t' with
  |false=>rw[hb]at h;cases h
  |true =>
   rw[hb]at h;have e1:=eb hb;subst e1;obtain⟨h1,h2⟩:=AZ hS cs ly rd h hs hn he hr;exact⟨by simp only[OA.o,TO.put,OA.gz,h1],h2⟩
 |row e c j fz =>
  obtain⟨f,l,w,rfl,e1,e2,e3⟩:=P5 h hs;refine⟨?_,e3⟩;simp only[TO.put,OA.gz,e1,OA.o]
  cases fz<;>cases f<;>first|(cases e2;done)|rfl
 |map kc ec j =>
  cases o<;>first|(simp only[TO.read]at h;cases h;done)|skip
  rename_i I5 t_ l;simp only[TO.read]at h;split at h
  .rename_i e;obtain⟨rfl,rfl⟩:=e;cases h;have h1:KZ ds j (.m I5 t_)=l:=hs _ (gX.2 rfl);exact⟨by simp only[TO.put,OA.gz,h1],rfl⟩
  .cases h
 |gn i c j =>
  cases o<;>first|(simp only[TO.read]at h;cases h;done)|skip
  rename_i i' c' x;simp only[TO.read]at h
  cases hb:bk i i' with
  |false=>rw[hb]at h;cases h
  |true =>
   rw[hb]at h;have e1:=eb hb;subst e1;dsimp only[ct]at h;split at h
   .rename_i e;subst e;cases h;have h1:KZ ds j c'=x:=hs _ (gX.2 rfl);exact⟨by simp only[TO.put,OA.gz,h1],rfl⟩
   .cases h
 |rw i =>
  cases o<;>first|(simp only[TO.read]at h;cases h;done)|skip
  rename_i i';simp only[TO.read]at h
  cases hb:bk i i' with
  |false=>rw[hb]at h;cases h
  |true =>
   rw[hb]at h;have e1:=eb hb;subst e1;cases h;exact⟨rfl,rfl⟩
def YM:∀{l:List (Nat×TO)}{ns:List (Nat×Nat)}{rd:Rd S.T},ZU hp H ns l=aY rd->Sat ds rd.ps->mo σ ns->mo σ rd.ns->∀k e c j fz,(k,TO.row e c j fz)∈l->∃f l' w,H.get (σ k)=aY (.row e c f l' w)/\KZ ds j (.l c)=l'
 |[],ns,rd,h,hs,h1,h2,k,e,c,j,fz,hm=>by cases hm
 |(k0,o)::r,ns,rd,h,hs,h1,h2,k,e,c,j,fz,hm=>by
  simp only[ZU]at h;split at h
  .rename_i k' hk;split at h
   .rename_i o' ho;split at h
    .rename_i x hx;split at h
     .rename_i y hy;cases h
      rcases bo.1 hm with e1|hm
      .cases e1;obtain⟨f,l',w,rfl,e2,_,_⟩:=P5 hx hs.left;have e3:=h1 _ (Vv hk);exact⟨f,l',w,by rw[e3];exact ho,e2⟩
      .exact YM hy hs.right (λp hp=>(bI.1 hp).elim (h1 p) (h2.left p)) h2.right k e c j fz hm
     .cases h
    .cases h
   .cases h
  .cases h
def Vw{ns:List (Nat×Nat)}{rd:Rd S.T}(h:ZU hp H ns hp=aY rd)(hs:Sat ds rd.ps)(h1:mo σ ns)(h2:mo σ rd.ns):uh hp ds σ H:=⟨λk c j hj e c' fz l wl hg=>by
 obtain⟨e0,fz0,hm⟩:=A1 hj;obtain⟨f,l',w,g1,g2⟩:=YM h hs h1 h2 k e0 c j fz0 hm;rw[hg]at g1;cases g1
 rw[g2]⟩
def Vx(hS:S.OK):∀{l:List (Nat×TO)}{ns:List (Nat×Nat)}{rd:Rd S.T},ZU hp H ns l=aY rd->Sat ds rd.ps->mo σ ns->mo σ rd.ns->xO rd.eq->uh hp ds σ H->∀F,ue (l.map λp=>σ p.1) H=aY F->hV F=HQ σ (hV (Fi hp ds l))/\rd.fz=[]
 |[],ns,rd,h,hs,h1,h2,he,hr,F,hF=>by
  simp only[ZU]at h;cases h;cases zm hF;exact⟨rfl,rfl⟩
 |(k0,o)::r,ns,rd,h,hs,h1,h2,he,hr,F,hF=>by
  simp only[ZU]at h;split at h
  .rename_i k' hk;split at h
   .rename_i o' ho;split at h
    .rename_i x hx;split at h
     .rename_i y hy;cases h;have e3:σ k0=k':=h1 _ (Vv hk);simp only[ig,ue,e3,ho]at hF;split at hF
      .rename_i F' sJ;cases hF;obtain⟨g1,g2⟩:=zs3 hS hx hs.left h2.left he.left hr;obtain⟨g3,g4⟩:=Vx hS hy hs.right (λp hp=>(bI.1 hp).elim (h1 p) (h2.left p)) h2.right he.right hr F' sJ;refine⟨?_,by simp only[Rd.app,g2,g4,cy]⟩;have g5:((o.put hp ds).gz σ).o=(o.put hp ds).o.gz σ:=UA hS _;simp only[hV,ig,HQ,Fi]at g3 ⊢;rw[g3,g1,g5,e3]
      .cases hF
     .cases h
    .cases h
   .cases h
  .cases h
def dedup:List Nat->List Nat
 |[]=>[]
 |k::r=>bif tM k r then dedup r else k::dedup r
def j8(d:Nat)(hin lj:List (Nat×TO)):List (Nat×Nat):=(((lj.map (·.1)).filter λk=>!((hin.map (·.1)).contains k)).zipIdx).map λp=>(p.1,3000000+d*100+p.2)
def OA.iw:OA S.T->OA S.T
 |.row e c _ l w=>.row e c .all l w
 |o=>o
def XU:OA S.T->Bool
 |.row ..=>bg
 |_=>bf
def YN(F:AH S.T):AH S.T:=F.map λp=>(p.1,p.2.iw)
def Cs:List (Nat×TO)->List (Nat×Nat)
 |[]=>[]
 |(k,.rw (_+1))::r=>(k,k)::Cs r
 |_::r=>Cs r
def Ct.tZ(c:Ct S)(d:Nat)(rd:Rd S.T)(fz:List Nat)(R:AH S.T):Bool:=
 nodupB (rd.ps.map (·.1))&&(rd.ps.all (λp=>ck (p.1+1) c.ci.length)&&((rd.ns++Cs c.hin).all (λp=>bk (j_ (rd.ns++j8 d c.hin c.lj) p.1) p.2) &&
  (nodupB ((c.lj.map (·.1)).map (j_ (rd.ns++j8 d c.hin c.lj)))&&((c.hin.map (·.1)).all (c.lj.map (·.1)).contains&&(uT c.ins c.hin&&(R.all (λp=>XU p.2) &&
  ((c.lj.map (λp=>j_ (rd.ns++j8 d c.hin c.lj) p.1)).all λk=>!(R.has k))))))))
def DJ:Tp->Bool
 |.d (.i _) _=>bg
 |.d .b _=>bg
 |.d .s _=>bg
 |_=>bf
def Mx:Tp->Bool
 |.ij l=>l.all DJ
 |t=>DJ t
def Ct.IZ(c:Ct S):Bool:=c.hin.isEmpty&&(c.lj.isEmpty&&Mx c.out)
def Ct.call(c:Ct S)(H:AH S.T)(d:Nat)(vs:List (A S.T)):Option (OR S):=match Tp.reads c.hin bf H c.ins vs with
 |some r1=>match ZU c.hin H (r1.ns++Cs c.hin) c.hin with
  |some r2=>match tF (r1.app r2).ps 0 c.ci,ue (dedup r1.fz) H with
   |some x,aY R =>
    bif c.tZ d (r1.app r2) (dedup r1.fz) R
    then bif c.IZ then aY (.eqs (r1.app r2).eq (.lD (c.fn x) [] (dedup r1.fz) λr=>aY (c.out.put c.lj (xN c.ci x++xN c.co r),[])))
    else aY (.eqs (r1.app r2).eq (.lD (c.fn x) ((c.hin.map λp=>j_ ((r1.app r2).ns++j8 d c.hin c.lj) p.1)++dedup r1.fz) [] λr =>aY ((c.out.put c.lj (xN c.ci x++xN c.co r)).gz (j_ ((r1.app r2).ns++j8 d c.hin c.lj)),Di (j_ ((r1.app r2).ns++j8 d c.hin c.lj)) (K1 c.lj (xN c.ci x++xN c.co r))++YN R)))
    else bh
   |_,_=>bh
  |none=>bh
 |none=>bh
def kW{k:Nat}:∀{l:List Nat},k∈l->k∈dedup l
 |a::r,h=>by
  simp only[dedup]
  cases hb:tM a r with
  |true =>
   rw[ct]
   have ha:a∈r:=by
    clear h
    induction r with
    |nil=>cases hb
    |cons b r ih =>
     simp only[tM]at hb
     cases hc:bk a b with
     |true=>rw[eb hc];exact ak
     |false=>rw[hc]at hb;exact iT _ (ih hb)
   rcases bo.1 h with rfl|h
   .exact kW ha
   .exact kW h
  |false =>
   rw[cf]
   rcases bo.1 h with rfl|h
   .exact ak
   .exact iT _ (kW h)
def Ss(p:Nat×EV.Obj)(F:aw):iw (p::F)=iw [p]++iw F:=by obtain⟨k,o⟩:=p;cases o<;>rfl
def j9(hS:S.OK):∀{F:AH S.T},hV (YN F)=iw (hV F)
 |[]=>rfl
 |(k,o)::r=>by
  have ih:=j9 hS (F:=r)
  cases o with
  |rw i =>
   show(k,S.ro i)::hV (YN r)=iw ((k,S.ro i)::hV r)
   rw[Ss,hS.XT,ih];rfl
  |gn i c x =>
   show(k,S.go i c x)::hV (YN r)=iw ((k,S.go i c x)::hV r)
   rw[Ss,hS.W8,ih];rfl
  |box t cs=>simp only[YN,hV,ig,OA.iw,OA.o,iw]at ih ⊢;rw[ih]
  |map kc ec l=>simp only[YN,hV,ig,OA.iw,OA.o,iw]at ih ⊢;rw[ih]
  |row e c f l w=>simp only[YN,hV,ig,OA.iw,OA.o,iw,Fz.n,bM]at ih ⊢;rw[ih]
def qO:∀{F:aw},iw (iw F)=iw F
 |[]=>rfl
 |(k,.row t sz _ els)::r=>by simp only[iw,qO (F:=r)]
 |(k,.box t cs)::r=>by simp only[iw,qO (F:=r)]
 |(k,.map l)::r=>by simp only[iw,qO (F:=r)]
 |(k,.my g t cs)::r=>by simp only[iw,qO (F:=r)]
 |(k,.nest g t Po Pj Pe)::r=>by simp only[iw,qO (F:=r)]
 |(k,.gen g)::r=>by simp only[iw,qO (F:=r)]
def Z4:∀{ps:List (Nat×Dy S.T)}{j:Nat}{c:TC}{x:c.ty S.T},pick j c ps=aY x->(ps.map (·.1)).Nodup->∀d,(j,d)∈ps->d=⟨c,x⟩
 |(j',⟨c',y⟩)::r,j,c,x,h,hn,d,hd=>by
  simp only[ig,cr]at hn;simp only[pick]at h
  cases hb:bk j j' with
  |true =>
   rw[hb]at h;have e1:=eb hb;subst e1;dsimp only[ct]at h;split at h
   .rename_i e;subst e;cases h
    rcases bo.1 hd with e2|hd
    .cases e2;rfl
    .exact aQ (cv hd) hn.1
   .cases h
  |false =>
   rw[hb]at h
   rcases bo.1 hd with e2|hd
   .cases e2;rw[cl]at hb;cases hb
   .exact Z4 h hn.2 d hd
def Vy{ps:List (Nat×Dy S.T)}(hn:(ps.map (·.1)).Nodup):∀(cs:List TC)(j0:Nat)(x:HL S.T cs),tF ps j0 cs=aY x->∀j d,(j,d)∈ps->j0<=j->j<j0+cs.length->(xN cs x)[j-j0]?=aY d
 |[],j0,x,h,j,d,hd,h1,h2=>by simp at h2;omega
 |[c],j0,x,h,j,d,hd,h1,h2=>by
  have e1:j=j0:=by simp at h2;omega
  subst e1;simp only[tF]at h;rw[Z4 h hn d hd];simp[xN]
 |c::c'::r,j0,x,h,j,d,hd,h1,h2=>by
  simp only[tF]at h;split at h
  .rename_i y hy;split at h
   .rename_i z hz;cases h;by_cases e1:j=j0
    .subst e1;rw[Z4 hy hn d hd];simp[xN]
    .have:=Vy hn (c'::r) (j0+1) z hz j d hd ab (by simp only[lX]at h2 ⊢;omega)
     show((⟨c,y⟩:Dy S.T)::xN (c'::r) z)[j-j0]?=aY d
     rw[show j-j0=(j-(j0+1))+1 by omega,fB];exact this
   .cases h
  .cases h
def TM{ds:List (Dy S.T)}{j:Nat}{d:Dy S.T}(h:ds[j]?=aY d):KZ ds j d.1=d.2:=by unfold KZ;rw[h];simp
def UB{ps:List (Nat×Dy S.T)}(hn:(ps.map (·.1)).Nodup){cs:List TC}{x:HL S.T cs}(h:tF ps 0 cs=aY x)(hl:∀p∈ps,p.1<cs.length):Sat (xN cs x) ps:=λp hp=>by obtain⟨j,d⟩:=p;have:=Vy hn cs 0 x h j d hp (cx _) (by have:=hl _ hp;simpa using this);exact TM this
def Vz:∀{a b:List Nat}{F:AH S.T},ue (a++b) H=aY F->∃F1 F2,F=F1++F2/\ue a H=aY F1/\ue b H=aY F2
 |[],b,F,h=>⟨[],F,rfl,rfl,h⟩
 |k::a,b,F,h=>by
  simp only[cK,ue]at h;split at h
  .rename_i o ho;split at h
   .rename_i F' sJ;cases h;obtain⟨F1,F2,rfl,h1,h2⟩:=Vz sJ;exact⟨(k,o)::F1,F2,rfl,by simp only[ue,ho,h1],h2⟩
   .cases h
  .cases h
def QX:∀{ks:List Nat}{R:AH S.T},ue ks H=aY R->∀k∈ks,∀o,H.get k=aY o->(hV (YN R)).get k=aY o.iw.o
 |k0::r,R,h,k,hk,o,ho=>by
  simp only[ue]at h;split at h
  .rename_i aab IG;split at h
   .rename_i F' sJ;cases h;simp only[YN,hV,ig,aw.get]
    cases hb:bk k k0 with
    |true =>
     have:=eb hb;subst this;rw[IG]at ho;cases ho;rfl
    |false =>
     rcases bo.1 hk with rfl|hk
     .rw[cl]at hb;cases hb
     .exact QX sJ k hk o ho
   .cases h
  .cases h
def P6:∀{ks:List Nat}{R:AH S.T},ue ks H=aY R->∀k∈ks,∀o,H.get k=aY o->(hV R).get k=aY o.o
 |k0::r,R,h,k,hk,o,ho=>by
  simp only[ue]at h;split at h
  .rename_i aab IG;split at h
   .rename_i F' sJ;cases h;simp only[hV,ig,aw.get]
    cases hb:bk k k0 with
    |true =>
     have:=eb hb;subst this;rw[IG]at ho;cases ho;rfl
    |false =>
     rcases bo.1 hk with rfl|hk
     .rw[cl]at hb;cases hb
     .exact P6 sJ k hk o ho
   .cases h
  .cases h
def LC{σ:Nat->Nat}{a b:List (Nat×Nat)}(h:mo σ a)(k:mo σ b):mo σ (a++b):=λp hp=>(bI.1 hp).elim (h p) (k p)
def P7{hp:List (Nat×TO)}{ds:List (Dy S.T)}{t:Tp}(h:DJ t=bg):(t.put hp ds).v.bare=bg/\(t.put hp ds).v.refs=[]:=by
 unfold DJ at h;split at h
 .exact⟨by simp only[Tp.put,A.v,qM,V.bare],by simp only[Tp.put,A.v,qM,V.refs]⟩
 .exact⟨by simp only[Tp.put,A.v,qM,V.bare],by simp only[Tp.put,A.v,qM,V.refs]⟩
 .exact⟨by simp only[Tp.put,A.v,qM,V.bare],by simp only[Tp.put,A.v,qM,V.refs]⟩
 .cases h
def St{hp:List (Nat×TO)}{ds:List (Dy S.T)}:∀{l:List Tp},l.all DJ=bg->Jr (A.vs (Tp.lK hp ds l))=bg/\y8 (A.vs (Tp.lK hp ds l))=[]
 |[],_=>⟨by simp only[Tp.lK,A.vs,Jr],by simp only[Tp.lK,A.vs,y8]⟩
 |t::r,h=>by simp only[List.all_cons,bn]at h;obtain⟨h1,h2⟩:=P7 (hp:=hp) (ds:=ds) h.1;obtain⟨h3,h4⟩:=St (hp:=hp) (ds:=ds) h.2;exact⟨by simp only[Tp.lK,A.vs,Jr,h1,h3,fU],by simp only[Tp.lK,A.vs,y8,h2,h4,cy]⟩
def zs4{hp:List (Nat×TO)}{ds:List (Dy S.T)}{t:Tp}(h:Mx t=bg):(t.put hp ds).v.bare=bg/\(t.put hp ds).v.refs=[]:=by
 unfold Mx at h;split at h
 .obtain⟨h1,h2⟩:=St (hp:=hp) (ds:=ds) h;exact⟨by simp only[Tp.put,A.v,V.bare,h1],by simp only[Tp.put,A.v,V.refs,h2]⟩
 .exact P7 h
def My(hS:S.OK){σ:Nat->Nat}:∀{F:AH S.T},hV (Di σ F)=HQ σ (hV F)
 |[]=>rfl
 |(k,o)::r=>by have ih:=My hS (σ:=σ) (F:=r);have h1:=UA hS (σ:=σ) o;simp only[Di,hV,HQ,ig]at ih ⊢;rw[ih,h1]
def SW{k:Nat}:∀{F:AH S.T},(YN F).has k=F.has k
 |[]=>rfl
 |p::r=>by have ih:=SW (k:=k) (F:=r);simp only[YN,ig,AH.has]at ih ⊢;rw[ih]
def zw4(hS:S.OK){P:bl}{f d:Nat}{c:Ct S}(hc:c.OK P f){o:Oper}{E:AE S.T}{vs:List (A S.T)}(hv:Cq P o (eV E) f (A.vs vs)){r:OR S}(h:c.call H d vs=aY r):r.OK P o E H:=by
 unfold Ct.call at h;split at h
 .rename_i r1 g1;split at h
  .rename_i r2 g2;split at h
   .rename_i x R g3 g4
    cases hb:c.tZ d (r1.app r2) (dedup r1.fz) R with
    |false=>rw[hb]at h;cases h
    |true =>
     rw[hb,ct]at h;simp only[Ct.tZ,bn]at hb;obtain⟨b1,b2,b3,b4,b5,b6,b7,b8⟩:=hb
     cases hB:c.IZ with
     |true =>
      rw[hB,ct]at h;cases h;intro heq q hq a F' Ej F R0 hF C1;cases zm hF;cases Ej;have e2:R0=R:=Option.some.inj (C1.symm.trans g4);subst e2;simp only[Ct.IZ,bn,eG]at hB;obtain⟨i1,i2,i3⟩:=hB
      have hs:Sat (xN c.ci x) (r1.app r2).ps:=UB (yn b1) g3 λp hp=>by have:=(bm.1 b2) p hp;exact lR this
      have hn:mo (j_ ((r1.app r2).ns++j8 d c.hin c.lj)) ((r1.app r2).ns++Cs c.hin):=λp hp=>eb ((bm.1 b3) p hp)
      have he:xO (r1.app r2).eq:=heq;have hr:uh c.hin (xN c.ci x) (j_ ((r1.app r2).ns++j8 d c.hin c.lj)) H:=Vw g2 hs.right (LC hn.left.left hn.right) hn.left.right
      have tq:=ui hS (R:=hV R0) c.ins vs r1 g1 hs.left hn.left.left he.left hr λk hk e c' f' l wl hg=>⟨_,P6 g4 k (kW hk) _ hg⟩
      have mR:=Kr (S:=S) hS (ds:=xN c.ci x) b6
      have hrefs:y8 (A.vs (Tp.lK c.hin (xN c.ci x) c.ins))=[]:=by
       simp only[uT,bn,i1,dm]at b6;rw[vg hS]
       refine List.eq_nil_iff_forall_not_mem.2 λk hk=>?_
       have:=(bm.1 b6.1) k hk;simp at this
      rw[oZ hS,ug _ hrefs]at tq;have Ca:=hc x q hq;obtain⟨e1,e2⟩:=zs4 (S:=S) (hp:=c.lj) (ds:=xN c.ci x++xN c.co q) i3
      have h0:∀ds,hV (K1 (S:=S) c.hin ds)=[]:=λds=>by rw[i1];rfl
      have h1:∀ds,hV (K1 (S:=S) c.lj ds)=[]:=λds=>by rw[i2];rfl
      rw[h0,h1]at Ca;have:=zkc (o:=o) (ρ:=eV E) hv Ca tq e1 e2 hrefs;simpa[hV]using this
     |false =>
     rw[hB,cf]at h;cases h;intro heq q hq a F' Ej F R0 hF C1;cases zm C1;cases Ej;generalize hL:(r1.app r2).ns++j8 d c.hin c.lj=L at *;obtain⟨F1,F2,rfl,C0,Ib⟩:=Vz hF;have e2:F2=R:=Option.some.inj (Ib.symm.trans g4);subst e2
     have hs:Sat (xN c.ci x) (r1.app r2).ps:=UB (yn b1) g3 λp hp=>by have:=(bm.1 b2) p hp;exact lR this
     have hn:mo (j_ L) ((r1.app r2).ns++Cs c.hin):=λp hp=>eb ((bm.1 b3) p hp)
     have he:xO (r1.app r2).eq:=heq;have hr:uh c.hin (xN c.ci x) (j_ L) H:=Vw g2 hs.right (LC hn.left.left hn.right) hn.left.right;obtain⟨k1,k2⟩:=Vx hS g2 hs.right (LC hn.left.left hn.right) hn.left.right he.right hr F1 C0
     have hR:iw (hV (YN F2))=hV (YN F2):=by rw[j9 hS,qO]
     have tq:=ui hS (R:=hV (YN F2)) c.ins vs r1 g1 hs.left hn.left.left he.left hr λk hk e c' f' l wl hg=>⟨_,QX g4 k (kW hk) _ hg⟩
     rw[oZ hS]at tq
     have ad_:=znd (o:=o) L hv (hc x q hq) tq hR (by rw[jd];exact b4) (Kr hS b6) (by rw[jd,jd];exact b5) (by
      rw[wh,jd,cF]
      refine bm.2 λk hk=>?_
      have:=(bm.1 b8) k hk;rw[ow]
      rw[SW];exact this)
     have s9:=TP (Fa:=hV F1) (R:=hV F2) (o:=o) (P:=P) (ρ:=eV E) rfl (by rw[k1,<- j9 hS];exact ad_);simp only[zA8]
     show EV.Loc P o (eV E) (hV F1++hV F2++[]) _ (_++[])
     rw[cy,cy,My hS,D0 hS];exact s9
   .cases h
  .cases h
 .cases h
end
end Go.EQ
namespace Go.EV
open Go Go.RowKit Go.lA
section
variable{K0:List Nat}{ρ:Env}{H:aw}
end
section
variable{P:bl}{ρ:Env}{dst:Option Tmp}{ty:bu}{pos:String}{aft:Array Edge}{gd:Option (Nat×Bool)}
def M1(P:bl)(t:Nat):Option (Nat×Nat):=
 match P.underlying t with
 |some (.array n e)=>match P.info? e with
  |some i=>aY (n,i.size)
  |none=>bh
 |_=>bh
def zca{t n sz kk L off:Nat}{x ix:bE}{k:IntKind}{i:Int}(ht:M1 P t=aY (n,sz))(hx:fQ ρ x=.ptr kk L off)(hi:fQ ρ ix=.int k i)(h0:0<=i)(h1:i<n):
  Loc P ⟨dst,.indexAddr t x ix,ty,pos,aft,gd⟩ ρ [] (.ptr kk L (off+i.toNat*sz)) []:=by
 intro ρr m Z w gY hs _;have hX:=gY x (by simp[Op.operands]);have hI:=gY ix (by simp[Op.operands]);rw[hx]at hX;rw[hi]at hI;have hI:ev ρr ix=.int k i:=hI;obtain⟨f,loc,e1,e2,hX⟩:=hX;cases e1;unfold M1 at ht;split at ht
 .rename_i n' e' hu;split at ht
  .rename_i ii sL;simp only[Option.some.injEq,Prod.mk.injEq]at ht;obtain⟨rfl,rfl⟩:=ht;refine⟨rfl,.inl ⟨.pointer (aY ⟨loc.1,off+i.toNat*ii.size,bh⟩),w,?_,m,Z,Step.refl hs,m,loc,rfl,e2,rfl⟩⟩;have h7:¬((n':Int)<=i):=ab;simp[bU,Instr.indexAt,run_underlying hu,asIntOf,hX,hI,Instr.sureAddr,sizeOf,typeInfo,sL,h0,h7,Addr.add_lit]
  .cases ht
 .cases ht
end
end Go.EV
namespace Go.EQ
open Go Go.RowKit Go.lA Go.EV
section
variable{S:lW}
variable{P:bl}{E:AE S.T}{H:AH S.T}{dst:Option Tmp}{ty:bu}{pos:String}{aft:Array Edge}{gd:Option (Nat×Bool)}
def VA(P:bl)(t:Nat)(a i:A S.T):Option (OR S):=match M1 P t with
 |some (n,sz)=>match intOf i,a with
  |some (_,j),.raw (.ptr k L off)=>aY (bif decide (0<=j)&&decide (j<(n:Nat))then .one [] [] (.raw (.ptr k L (off+bB j*sz))) []else .no)
  |_,_=>aY .no
 |none=>bh
def zcb{t:Nat}{x ix:bE}{r:OR S}(h:VA P t (ib E x) (ib E ix)=aY r):r.OK P ⟨dst,.indexAddr t x ix,ty,pos,aft,gd⟩ E H:=by
 unfold VA at h;split at h
 .rename_i n sz ht;split at h
  .rename_i q j k L off h1 h2;cases h
   cases hb:decide (0<=j)&&decide (j<(n:Nat))with
   |false=>trivial
   |true =>simp only[bn,aU]at hb;intro F R hF hR;cases zm hF;cases zm hR;exact zca ht (by rw[zY,h2];simp only[A.v]) (by rw[zY];exact qN h1) hb.1 hb.2
  .cases h;trivial
 .cases h
end
end Go.EQ
namespace Go.EV
open Go Go.RowKit Go.lA
section
variable{P:bl}{ρ:Env}{dst:Option Tmp}{ty:bu}{pos:String}{aft:Array Edge}{gd:Option (Nat×Bool)}{x:bE}{v:V}
end
section
variable{P:bl}{ρ:Env}{dst:Option Tmp}{ty:bu}{pos:String}{aft:Array Edge}{gd:Option (Nat×Bool)}
def zcc{t g k n:Nat}{ob:Go.Obj}{cs:List V}(h:qs P t=aY (aY n))(hn:cs.length=n):Loc P ⟨dst,.load t (.global g),ty,pos,aft,gd⟩ ρ [(k,.my g ob cs)] (.agg cs) [(k,.my g ob cs)]:=by intro ρr m Z w gY hs _;obtain⟨g1,⟨g2,cur,u,fr,e1,g3⟩,g4⟩:=hs.holds _ (gX.2 rfl);subst e1;have hl:=g3.length;refine⟨rfl,.inl ⟨.agg cur.toList.toArray,w,qq (p:=⟨g,0,bh⟩) _ (jc h) rfl ab λj u' hj=>?_,m,Z,Step.refl hs,_,rfl,g3.up (λ_ _ e=>e) (λf e=>by cases e)⟩⟩;have:(⟨g,0,bh⟩:Addr).add j=⟨g,0+j,bh⟩:=Addr.add_lit ..;rw[this,cj,cell_of_row w g j cur u fr g2];simpa using hj
def Fj(P:bl)(t n:bu):Bool:=match P.underlying t with
 |some (.array m e)=>bk m n&&(match qs P e with|some bh=>(match P.info? e with|some i=>bk i.size 1|none=>bf)|_=>bf)
 |_=>bf
def zcd{t:bu}{x ix:bE}{k:IntKind}{i:Int}{cs:List V}{v:V}(ht:Fj P t cs.length=bg)(hx:fQ ρ x=.agg cs)(hi:fQ ρ ix=.int k i)(h0:0<=i)(hv:cs[i.toNat]?=aY v):
  Loc P ⟨dst,.index t x ix,ty,pos,aft,gd⟩ ρ [] v []:=by
 intro ρr m Z w gY hs _;have hX:=gY x (by simp[Op.operands]);have hI:=gY ix (by simp[Op.operands]);rw[hx]at hX;rw[hi]at hI;have hI:ev ρr ix=.int k i:=hI;obtain⟨l,h1,h2⟩:=hX;obtain⟨u,h3,h4⟩:=h2.get hv;have hl:=h2.length;have iB:=(bq.1 hv).1;refine⟨rfl,.inl ⟨u,w,?_,m,Z,Step.refl hs,h4⟩⟩;unfold Fj at ht;split at ht
 .rename_i mm e hu;simp only[bn]at ht;have hm:=eb ht.1;subst hm;have ht:=ht.2;split at ht
  .rename_i mW;split at ht
   .rename_i inf ab6;have sP:=eb ht;have Iy:i<(cs.length:Nat):=ab;have EJ:(isAgg e).run P w=.ok bf w:=vT (kv mW);simp[bU,Instr.index,asIntOf,hI,h1,run_underlying hu,h0,Iy,sizeOf,typeInfo,ab6,sP,part,EJ,h3]
   .cases ht
  .cases ht
 .cases ht
end
def qw:List aj->List aj->Bool
 |[],[]=>bg
 |[a],[b]=>decide (a=b)
 |a::l,b::m=>decide (a=b)&&qw l m
 |_,_=>bf
def zf5(a b:aj):∀l m:List aj,l.length=m.length->qw (a::l) (b::m)=(decide (a=b)&&qw l m)
 |[],[],_=>by simp[qw]
 |_::_,_::_,_=>by rw[qw];intro h;cases h
 |[],_::_,h=>by cases h
 |_::_,[],h=>by cases h
def Z5(l:List aj):List bw:=l.map λs=>Value.string ⟨s.toArray⟩
def LD{m:Option M}{Z:ZM}:∀{l:List aj}{xs:List bw},zu m Z (l.map V.str) xs->xs=Z5 l
 |[],xs,h=>h
 |s::l,xs,h=>by obtain⟨x,r,rfl,h1,h2⟩:=h;rw[LD h2,show x=.string ⟨s.toArray⟩ from h1];rfl
section
variable{P:bl}{w:bG}
def Ro{d:Nat}{e:bu}(he:P.underlying e=aY .string){l m:List aj}:∀(k j:Nat),j+k=l.length->j+k=m.length ->
  (Op.eqItems (d+1) e 1 (Z5 l).toArray (Z5 m).toArray (List.range' j k)).run P w=.ok (qw (l.drop j) (m.drop j)) w
 |0,j,h1,h2=>by
  have e1:l.drop j=[]:=dx ab;have e2:m.drop j=[]:=dx ab;rw[e1,e2];simp[Op.eqItems,qw]
 |k+1,j,h1,h2=>by
  have i1:j<l.length:=ab;have i2:j<m.length:=ab;have ih:=Ro (d:=d) he (l:=l) (m:=m) k (j+1) ab ab
  have EJ:(isAgg e).run P w=.ok bf w:=by simp[isAgg,run_underlying he]
  have px:(part e (Z5 l).toArray (j*1)).run P w=.ok (.string ⟨l[j].toArray⟩) w:=by simp[part,EJ,Z5,i1]
  have py:(part e (Z5 m).toArray (j*1)).run P w=.ok (.string ⟨m[j].toArray⟩) w:=by simp[part,EJ,Z5,i2]
  have aan:(Op.equalIn (d+1) e (.string ⟨l[j].toArray⟩) (.string ⟨m[j].toArray⟩)).run P w=.ok (decide (l[j]=m[j])) w:=by
   rw[run_equalIn_string w d e _ _ he];simp only[ByteArray.toList_eq]
   congr 1
   rw[ek];simp
  rw[List.range'_succ,fi i1,fi i2,zf5 _ _ _ _ (by simp only[cS];omega)];simp only[Op.eqItems,Sem.run_bind,px,py,aan,Result.andThen_ok]
  cases decide (l[j]=m[j])with
  |false=>simp
  |true=>simpa using ih
def CF(P:bl)(t n:bu):Bool:=(!P.eqGuardType P.depth t)&&match P.underlying t with
 |some (.array m e)=>bk m n&&((match P.underlying e with|some .string=>bg|_=>bf)&&match P.info? e with|some i=>bk i.size 1|none=>bf)
 |_=>bf
def zn8{t:bu}{l m:List aj}(ht:CF P t l.length=bg)(hl:l.length=m.length):(Op.equalIn 10000 t (.agg (Z5 l).toArray) (.agg (Z5 m).toArray)).run P w=.ok (qw l m) w:=by
 simp only[CF,bn]at ht;have ht:=ht.2;split at ht
 .rename_i k e hu;simp only[bn]at ht;obtain⟨h1,h2,h3⟩:=ht;have h1:=eb h1;subst h1;split at h2
  .rename_i he;split at h3
   .rename_i i hi
    have hc:P.cellsOf e=1:=by simp[Program.cellsOf,hi,eb h3]
    rw[run_equalIn_array w 9999 _ _ hu hi,hc,List.range_eq_range'];have:=Ro (w:=w) (d:=9998) he (l:=l) (m:=m) l.length 0 ab ab;simpa using this
   .cases h3
  .cases h2
 .cases ht
end
section
variable{P:bl}{ρ:Env}{dst:Option Tmp}{ty:bu}{pos:String}{aft:Array Edge}{gd:Option (Nat×Bool)}
def zn9{op:BinOp}{t t':bu}{x y:bE}{l m:List aj}(mC:op=.eql∨op=.neq)(ht:CF P t l.length=bg)(hl:l.length=m.length)(hx:fQ ρ x=.agg (l.map V.str))(hy:fQ ρ y=.agg (m.map V.str)):
  Loc P ⟨dst,.binOp op t x y t',ty,pos,aft,gd⟩ ρ [] (.bool (match op with|.eql=>qw l m|_=>!(qw l m))) []:=by
 intro ρr mm Z w gY hs _;have hX:=gY x (by simp[Op.operands]);have hY:=gY y (by simp[Op.operands]);rw[hx]at hX;rw[hy]at hY;obtain⟨c1,e1,r1⟩:=hX;obtain⟨c2,e2,r2⟩:=hY;have r1:=LD r1;have r2:=LD r2;subst r1;subst r2
 have h3:P.eqGuardType P.depth t=bf:=by simp only[CF,bn,bL]at ht;exact ht.1
 have h:=zn8 (w:=w) ht hl
 rcases mC with rfl|rfl
 .exact⟨rfl,.inl ⟨.bool (qw l m),w,by simp[bU,e1,e2,run_eqGuard_agg w _ t x y _ _ h3,run_eql_struct,h],mm,Z,Step.refl hs,rfl⟩⟩
 .exact⟨rfl,.inl ⟨.bool (!(qw l m)),w,by simp[bU,e1,e2,run_eqGuard_agg w _ t x y _ _ h3,run_neq_struct,h],mm,Z,Step.refl hs,rfl⟩⟩
end
section
variable{K0:List Nat}{c:Ctx K0}{P:bl}{r:Option Nat}{N:Nat}{Q:xE}{ρ:Env}{H:aw}{ds:List ca}{all rest:List Oper}{ty:bu}{pos:String}{aft:Array Edge}{gd:Option (Nat×Bool)}{t t':bu}{x y:bE}
def zBf{d sz:Nat}{els:List (List V)}(hd:ck (d+1) N=bg)(ht:qt P t=bg)(hx:fQ ρ x=.vs sz els)(hy:fQ ρ y=.iO)(hw:yv all ρ ⟨aY d,.binOp .eql t x y t',ty,pos,aft,gd⟩=aY bg)
  (h1:els.isEmpty=bg->QS c P r N all Q rest ((d,.bool bg)::ρ) H ds) (h2:QS c P r N all Q rest ((d,.bool bf)::ρ) H ds):QS c P r N all Q (⟨aY d,.binOp .eql t x y t',ty,pos,aft,gd⟩::rest) ρ H ds:=by
 rintro ρr w lI ⟨m,Z,S,hR⟩ hM;have hX:=hR.ev x;rw[hx]at hX;obtain⟨A,cp,hX,_,_,hA⟩:=hX;have hY:=hR.ev y;rw[hy]at hY;simp only[dQ]at hY
 have IN:∃e,P.underlying t=aY (.slice e):=by
  simp only[qt]at ht;split at ht
  .exact⟨_,by assumption⟩
  .cases ht
 obtain⟨e,IN⟩:=IN
 have mg:(bU (ev ρr) ⟨aY d,.binOp .eql t x y t',ty,pos,aft,gd⟩).run P w=.ok (.value (.bool A.isNone)) w:=by
  have hq:∀k,(Op.equalIn (k+1) t (.slice A els.length cp) (.slice bh 0 0)).run P w=.ok A.isNone w:=λk=>by cases A<;>simp[Op.equalIn,run_underlying IN]
  refine(LF (dst:=aY d) (t':=t') (ty:=ty) (pos:=pos) (aft:=aft) (gd:=gd) (b:=A.isNone) hX hY rfl rfl (hq 9999)).1
 refine TE d _ rfl hd (vf hR hw) rfl mg ?_
 cases A with
 |none =>
  have he:els.isEmpty=bg:=by
   rcases hA with rfl|⟨a,h,_⟩
   .rfl
   .cases h
  exact h1 he _ _ _ ⟨m,Z,S,hR.put d rfl⟩ hM
 |some a=>exact h2 _ _ _ ⟨m,Z,S,hR.put d rfl⟩ hM
end
end Go.EV
namespace Go.EQ
open Go Go.RowKit Go.lA Go.EV
section
variable{S:lW}
def Xp:A S.T->Bool
 |.rh ..=>bg
 |_=>bf
def Mc(H:AH S.T)(a:A S.T):Option (A S.T×List Nat×List (Nat×Nat)):=match a with
 |.rh sz k n=>match H.get k with
  |some (.row _ c _ _ _)=>match Yh H (.l c) (.rh sz k n)with
   |some rx=>aY (.iR (.l c) rx.x,rx.fz,rx.eq)
   |none=>bh
  |_=>bh
 |a=>aY (a,[],[])
def Z6(H:AH S.T):List (A S.T)->Option (List (A S.T)×List Nat×List (Nat×Nat))
 |[]=>aY ([],[],[])
 |a::r=>match Mc H a with
  |some (a',f,e)=>match Z6 H r with
   |some (r',f',e')=>aY (a'::r',f++f',e++e')
   |none=>bh
  |none=>bh
def HV(P:bl)(E:AE S.T)(H:AH S.T)(cd:Nat->Option TC)(d t n:Nat)(parts:List (Nat×bE)):OR S:=match parts with
 |[(i,.tmp s)]=>match E.get s with
  |.ag cs=>bif cs.any Xp then(match Z6 H cs with
    |some (ly,fz,eq)=>match vD P ((s,.ag ly)::E) cd d t n [(i,.tmp s)]with
     |.one [] [] a F'=>match ue (dedup fz) H with
      |some R=>bif nodupB (dedup fz)&&F'.all (λp=>!(dedup fz).contains p.1)then .eqs eq (.one (dedup fz) [] a (F'++YN R))else .no
      |none=>.no
     |_=>.no
    |none=>.no)
   else vD P E cd d t n [(i,.tmp s)]
  |_=>vD P E cd d t n [(i,.tmp s)]
 |ps=>vD P E cd d t n ps
def zf7{H:AH S.T}{a a':A S.T}{fz:List Nat}{eq:List (Nat×Nat)}(h:Mc H a=aY (a',fz,eq))(heq:xO eq){R:aw}(hR:RowsIn H R fz):au R a.v a'.v:=by
 unfold Mc at h;split at h
 .split at h
  .split at h
   .rename_i rx C';cases h;have:=uf C' heq hR;simpa only[A.v]using this
   .cases h
  .cases h
 .cases h;exact .same _
def K3{H:AH S.T}{R:aw}:∀{cs ly:List (A S.T)}{fz:List Nat}{eq:List (Nat×Nat)},Z6 H cs=aY (ly,fz,eq)->xO eq->RowsIn H R fz->vB R (A.vs cs) (A.vs ly)
 |[],ly,fz,eq,h,heq,hR=>by
  cases h;simp only[A.vs];exact .nil
 |a::r,ly,fz,eq,h,heq,hR=>by
  simp only[Z6]at h;split at h
  .rename_i a' f e h1;split at h
   .rename_i r' f' e' h2;cases h;simp only[A.vs];exact .cons (zf7 h1 heq.left hR.left) (K3 h2 heq.right hR.right)
   .cases h
  .cases h
def zob{P:bl}{ρ pq:Env}{o:Oper}{v:V}{F0 R:aw}(h:EV.Loc P o pq [] v F0)(hv:∀x∈o.op.operands,au R (fQ ρ x) (fQ pq x))(hR:iw R=R)(hd:∀p∈F0,∀q∈R,p.1≠q.1):EV.Loc P o ρ R v (F0++R):=by
 intro ρr m Z w gY hs mf
 have C2:∀k t sz fz els,R.get k=aY (.row t sz fz els)->Holds m Z w k (.row t sz els.length els):=λk t sz fz els hg=>by
  have lg:=aw.get_mem hg;have h1:=hs.holds _ lg
  have:fz=els.length:=by
   rw[<- hR]at lg
   rcases jC lg with⟨k',t',lz,nw,tR,h2,h3⟩|⟨h2,h3⟩
   .simp only[Prod.mk.injEq,Obj.row.injEq]at h3;obtain⟨_,_,_,e1,e2⟩:=h3;rw[e1,e2]
   .exact aQ rfl (h3 t sz fz els)
  subst this;exact h1
 refine(h ρr m Z w (λx hx=>au.rep C2 (hv x hx) (gY x hx)) ⟨hs.frozen,λp hp=>(by cases hp),dj,λp hp=>(by cases hp)⟩ (λk hk _=>?_)).mono ?_
 .obtain⟨p,hp,rfl⟩:=bF.1 hk
  refine mf p.1 (by rw[zr];exact bJ _ (ax hp)) λCc=>?_
  obtain⟨q,hq,e⟩:=bF.1 Cc;exact hd p hp q hq e.symm
 .rintro x w' ⟨m',Z',st,hr⟩;exact⟨m',Z',Step.By (F:=[]) (G:=R) hs st hd,hr⟩
def Rp{H:AH S.T}:∀{ks:List Nat}{R:AH S.T},ue ks H=aY R->keys (hV R)=ks
 |[],R,h=>by cases h;rfl
 |k::ks,R,h=>by
  simp only[ue]at h;split at h
  .split at h
   .rename_i o _ l hl;cases h;have:=Rp hl;simp only[hV,keys,ig,cF]at this ⊢;rw[this]
   .cases h
  .cases h
def Yi(hS:S.OK){P:bl}{E:AE S.T}{H:AH S.T}{dst:Option Tmp}{ty:bu}{pos:String}{aft:Array Edge}{gd:Option (Nat×Bool)}{cd:Nat->Option TC}{d t n:Nat}{parts:List (Nat×bE)}:(HV P E H cd d t n parts).OK P ⟨dst,.buildSlice t n parts.toArray,ty,pos,aft,gd⟩ E H:=by
 unfold HV;split
 .rename_i i s;split
  .rename_i cs hE
   cases hb:cs.any Xp with
   |false=>exact vU hS
   |true =>
    simp only[ct];split
    .rename_i ly fz eq h1;have hA:=vU (P:=P) (E:=(s,.ag ly)::E) (H:=H) (dst:=dst) (ty:=ty) (pos:=pos) (aft:=aft) (gd:=gd) hS (cd:=cd) (d:=d) (t:=t) (n:=n) (parts:=[(i,.tmp s)]);split
     .rename_i a F' h2;rw[h2]at hA;split
      .rename_i R h3
       cases hc:nodupB (dedup fz)&&F'.all (λp=>!(dedup fz).contains p.1)with
       |false=>trivial
       |true =>
        simp only[bn]at hc;intro heq F R0 hF C1;cases zm C1;have e2:F=R:=Option.some.inj (hF.symm.trans h3);subst e2;have hl:=hA [] [] rfl rfl;rw[show hV F'++hV ([]:AH S.T)=hV F' from cy _]at hl
        have NK:∀x∈(Oper.mk dst (.buildSlice t n [(i,Operand.tmp s)].toArray) ty pos aft gd).op.operands,au (iw (hV F)) (fQ (eV E) x) (fQ (eV ((s,.ag ly)::E:AE S.T)) x):=λx hx=>by
         cases x with
         |tmp q =>
          show au _ ((eV E).get q) ((eV ((s,.ag ly)::E:AE S.T)).get q)
          rw[Ju,Ju];simp only[AE.get]
          cases hq:bk q s with
          |false=>exact .same _
          |true =>
           have:=eb hq;subst this;rw[hE];simp only[ct,A.v]
           exact .agg (K3 h1 heq λk hk e c' f' l wl hg=>by
            rw[<- j9 hS]
            exact⟨_,QX h3 k (kW hk) _ hg⟩)
         |_=>exact .same _
        have hd:∀p∈hV F',∀q∈iw (hV F),p.1≠q.1:=λp hp q hq e=>by obtain⟨p',lu,rfl⟩:=bF.1 hp;have h5:=(bm.1 hc.2) p' lu;have h6:=ax hq;rw[xH,Rp h3]at h6;simp only[bL,bX,aW]at h5;exact h5 (by rw[e];exact h6)
        have:=TP (Fa:=[]) (R:=hV F) (F2:=iw (hV F)) rfl (zob (R:=iw (hV F)) hl NK qO hd)
        show EV.Loc P _ (eV E) (hV F++hV ([]:AH S.T)) a.v (hV (F'++YN F)++hV ([]:AH S.T))
        rw[show hV F++hV ([]:AH S.T)=hV F from cy _,show hV (F'++YN F)++hV ([]:AH S.T)=hV F'++hV (YN F) from(cy _).trans cO,j9 hS];exact this
      .trivial
     .trivial
    .trivial
  .exact vU hS
 .exact vU hS
abbrev l7(S:lW):=List (Nat×Ct S)
def l7.OK(P:bl):l7 S->Prop
 |[]=>True
 |p::r=>(zb P p.1/\p.2.OK P p.1)/\l7.OK P r
def Bg(H:AH S.T)(d f:Nat)(vs:List (A S.T)):l7 S->OR S
 |[]=>.no
 |(g,c)::r=>bif bk f g then match c.call H d vs with
   |some q=>bif c.alt then q.NL (Bg H d f vs r)else q
   |none=>Bg H d f vs r
  else Bg H d f vs r
def DF(H:AH S.T):Option (A S.T×AH S.T)->List (Nat×Nat)
 |some (_,[(k,.row _ _ _ _ w)])=>match H.get k with
  |some (.row _ _ _ _ w0)=>[(w0.n,w.n)]
  |_=>[]
 |_=>[]
def Nt(H:AH S.T):(q:Option (A S.T×AH S.T))->(∀p∈DF H q,p.1=p.2)->Option (A S.T×AH S.T)
 |some (a,[(k,.row e c fz l w)]),h=>match hg:H.get k with
  |some (.row _ _ _ _ w0)=>aY (a,[(k,.row e c fz l ⟨w0.n,by
    have h1:DF H (aY (a,[(k,.row e c fz l w)]))=[(w0.n,w.n)]:=by simp only[DF,hg]
    have h2:=h (w0.n,w.n) (by rw[h1];exact ak)
    exact w.h.trans h2.symm⟩)])
  |_=>bh
 |_,_=>bh
def Md(H:AH S.T):OR S->OR S
 |.lD o kF kR r=>.Bu o (λx=>DF H (r x)) kF kR λx h=>Nt H (r x) h
 |.eqs l q=>.eqs l (Md H q)
 |q=>q
def Xs(b:Bool)(H:AH S.T)(q:OR S):OR S:=bif b then Md H q else q
def zBh{H:AH S.T}{q:Option (A S.T×AH S.T)}{h:∀p∈DF H q,p.1=p.2}{a:A S.T}{F':AH S.T}(hr:Nt H q h=aY (a,F')):∃F,q=aY (a,F)/\hV F'=hV F:=by
 unfold Nt at hr;split at hr
 .split at hr
  .cases hr;exact⟨_,rfl,rfl⟩
  .cases hr
 .cases hr
def Rq{P:bl}{o:Oper}{E:AE S.T}{H:AH S.T}:∀{q:OR S},q.OK P o E H->(Md H q).OK P o E H
 |.lD ..,h=>λx hx q a F' hr F R hF hR=>by
  obtain⟨G,e1,e2⟩:=zBh hr;rw[e2];exact h x hx a G e1 F R hF hR
 |.eqs l r,h=>λhe=>Rq (h he)
 |.no,h=>h
 |.one ..,h=>h
 |.alt ..,h=>h
 |.Bu ..,h=>h
def zw5{P:bl}{o:Oper}{E:AE S.T}{H:AH S.T}{b:Bool}{q:OR S}(h:q.OK P o E H):(Xs b H q).OK P o E H:=by
 cases b with
 |false=>exact h
 |true=>exact Rq h
def Fk(a b:A S.T)(op:BinOp):OR S:=match intOf a,intOf b with
 |some (k,m),aY (k',n)=>bif decide (k=k')then .lD (fN (n≠0)) [] [] λ_=>aY (.iR (.i k) (match op with|.quo=>k.wrap (m.tdiv n)|_=>m.tmod n),[])else .no
 |_,_=>.no
def Z7(P:bl)(t n:Nat):Bool:=match qs P t with
 |some (aY m)=>bk n m
 |_=>bf
def Cu(P:bl)(H:AH S.T)(t g:Nat):List Nat->OR S
 |[]=>.no
 |k::r=>match H.get k with
  |some (.rw i)=>match hg:S.gl i with
   |some (g',_,l)=>bif bk g g'&&Z7 P t l.length then .one [] [k] (.ag (l.map λs=>.iR .s s)) []else Cu P H t g r
   |none=>Cu P H t g r
  |_=>Cu P H t g r
def Cv:List (A S.T)->Option (List aj)
 |[]=>aY []
 |.iR .s x::r=>match Cv r with
  |some l=>aY (x::l)
  |none=>bh
 |_=>bh
def Me(P:bl)(t:Nat)(a i:A S.T):OR S:=match a with
 |.ag cs=>match Cv cs,intOf i with
  |some l,aY (_,n)=>bif Fj P t l.length then .lD (idx (α:=aj) l n) [] [] λx=>aY (.iR .s x,[])else .no
  |_,_=>.no
 |a=>L8 P t a i
def A2:List V->List V->Bool
 |[],[]=>bg
 |.lF::a,.lF::b=>A2 a b
 |.iO::a,.iO::b=>A2 a b
 |.lP::a,.lP::b=>A2 a b
 |_,_=>bf
def Pf(t:Nat)(cs:List (A S.T)):OA S.T:=match S.ga t with
 |some (i,d,CV)=>bif A2 (A.vs cs) CV then .gn i d.1 d.2 else .box t cs
 |none=>.box t cs
def Ew:OR S->OR S
 |.one kF [] a [(k,.box t cs)]=>.one kF [] a [(k,Pf t cs)]
 |q=>q
def F4(P:bl)(t:Nat)(b:Bool):A S.T->A S.T->OR S
 |.ag cs,.ag ly=>match Cv cs,Cv ly with
  |some l,aY m=>bif CF P t l.length&&bk l.length m.length then .one [] [] (.iR .b (bif b then EV.qw l m else !(EV.qw l m))) []else .no
  |_,_=>.no
 |_,_=>.no
def Nu(P:bl)(T:l7 S)(cd:Nat->Option TC)(E:AE S.T)(H:AH S.T)(d:Nat):Op->OR S
 |.load t (.global g)=>Cu P H t g (H.map (·.1))
 |.load t x=>MC P H t (ib E x)
 |.store t x y=>L7 P H t (ib E x) (ib E y)
 |.indexAddr t x y=>match VA P t (ib E x) (ib E y)with
  |some r=>r
  |none=>Kp P t (ib E x) (ib E y)
 |.index t x y=>Me P t (ib E x) (ib E y)
 |.slice t x lo hi bh=>L9 P E t (ib E x) lo hi
 |.alloc t=>Ew (L_ P d t)
 |.box t x=>Ew (M5 d t (ib E x))
 |.buildSlice t n ps=>HV P E H cd d t n ps.toList
 |.makeSlice t x y=>Kq P E cd d t x y
 |.makeMap t bh=>ZZ P cd d t
 |.lookup t x y co=>LB P H t (ib E x) (ib E y) co
 |.mapUpdate t x y z=>AY P H t (ib E x) (ib E y) (ib E z)
 |.insert t x y z=>AY P H t (ib E x) (ib E y) (ib E z)
 |.call ⟨.builtin .append,⟨[x,y]⟩,⟨[t,t']⟩⟩=>Lz P E H cd d t t' x y
 |.call ⟨.value (.func f),l,_⟩=>Xs (cd (9000000+f)).isSome H (Bg H d f (l.toList.map (ib E)) T)
 |.call ⟨.value x,l,_⟩=>match ib E x with
  |.fn f a b=>Bg H d f (a++l.toList.map (ib E)++b) T
  |_=>.no
 |.binOp .eql t x y _=>F4 P t bg (ib E x) (ib E y)
 |.binOp .neq t x y _=>F4 P t bf (ib E x) (ib E y)
 |.binOp .add _ x y _=>LA (ib E x) (ib E y)
 |.binOp .quo _ x y _=>Fk (ib E x) (ib E y) .quo
 |.binOp .rem _ x y _=>Fk (ib E x) (ib E y) .rem
 |_=>.no
def Ny(P:bl)(T:l7 S)(cd:Nat->Option TC)(E:AE S.T)(H:AH S.T)(d:Nat)(op:Op):OR S:=match MB P E op with
 |some a=>.one [] [] a []
 |none=>Nu P T cd E H d op
def Dh(P:bl)(T:l7 S)(cd:Nat->Option TC)(E:AE S.T)(H:AH S.T)(d:Nat)(op:Op):OR S:=Ny P T cd E H d op
section
variable{P:bl}{E:AE S.T}{H:AH S.T}{dst:Option Tmp}{ty:bu}{pos:String}{aft:Array Edge}{gd:Option (Nat×Bool)}
def Jy(hS:S.OK){d f:Nat}{vs:List (A S.T)}{o:Oper}(hv:zb P f->Cq P o (eV E) f (A.vs vs)):∀{T:l7 S},l7.OK P T->(Bg H d f vs T).OK P o E H
 |[],_=>trivial
 |(g,c)::r,hT=>by
  simp only[Bg]
  cases hb:bk f g with
  |true =>
   have:=eb hb;subst this;rw[ct];split
   .rename_i q hq;have h1:=zw4 hS hT.1.2 (hv hT.1.1) hq
    cases c.alt with
    |true=>exact Sq h1 (Jy hS hv hT.2)
    |false=>exact h1
   .exact Jy hS hv hT.2
  |false=>exact Jy hS hv hT.2
def TZ{op:BinOp}(mC:op=.quo∨op=.rem){t t':bu}{x y:bE}:(Fk (ib E x) (ib E y) op).OK P ⟨dst,.binOp op t x y t',ty,pos,aft,gd⟩ E H:=by
 unfold Fk;split
 .rename_i k m k' n h1 h2
  cases hk:decide (k=k')with
  |false=>trivial
  |true =>
   have:=aX hk;subst this;intro u hu a F' hr F R hF hR;cases hr;cases zm hF;cases zm hR;have hn:=yL hu;have:=zwh (P:=P) (ρ:=eV E) (dst:=dst) (ty:=ty) (pos:=pos) (aft:=aft) (gd:=gd) (t:=t) (t':=t') mC (by rw[zY];exact qN h1) (by rw[zY];exact qN h2) hn
   rcases mC with rfl|rfl<;>exact this
 .trivial
def zko{t n:Nat}(h:Z7 P t n=bg):qs P t=aY (aY n):=by
 unfold Z7 at h;split at h
 .rename_i m e;rw[e,eb h]
 .cases h
def UC:∀l:List aj,A.vs (l.map λs=>A.iR (T:=S.T) .s s)=l.map V.str
 |[]=>rfl
 |s::l=>by
  show(A.iR (T:=S.T) .s s).v::A.vs (l.map λs=>A.iR (T:=S.T) .s s)=V.str s::l.map V.str
  rw[UC l];rfl
def QY(hS:S.OK){t g:Nat}:∀{ks:List Nat},(Cu P H t g ks).OK P ⟨dst,.load t (.global g),ty,pos,aft,gd⟩ E H
 |[]=>trivial
 |k::r=>by
  unfold Cu;split
  .rename_i i hk;split
   .rename_i g' u l hg
    cases hb:bk g g'&&Z7 P t l.length with
    |false=>exact QY hS
    |true =>
     simp only[bn]at hb;have:=eb hb.1;subst this;obtain⟨ob,hob⟩:=hS.my i g u l hg;intro F R hF hR;cases zm hF;cases j7 hk hR;have hl:=zcc (P:=P) (ρ:=eV E) (dst:=dst) (ty:=ty) (pos:=pos) (aft:=aft) (gd:=gd) (g:=g) (k:=k) (ob:=ob) (cs:=l.map V.str) (zko hb.2) (by rw[bM])
     show EV.Loc P _ _ [(k,S.ro i)] _ [(k,S.ro i)]
     rw[hob]
     have e:(A.ag (l.map λs=>A.iR (T:=S.T) .s s)).v=.agg (l.map V.str):=by simp only[A.v];exact aP V.agg (UC l)
     rw[e];exact hl
   .exact QY hS
  .exact QY hS
def Z8:∀{cs:List (A S.T)}{l:List aj},Cv cs=aY l->A.vs cs=l.map V.str
 |[],l,h=>by cases h;rfl
 |a::r,l,h=>by
  unfold Cv at h;split at h
  .rename_i e;cases e
  .rename_i x r' e;cases e;split at h
   .rename_i l' e';cases h;simp only[A.vs,ig,Z8 e'];rfl
   .cases h
  .cases h
def zof{t:Nat}{x ix:bE}:(Me P t (ib E x) (ib E ix)).OK P ⟨dst,.index t x ix,ty,pos,aft,gd⟩ E H:=by
 unfold Me;split
 .rename_i cs hx;split
  .rename_i l k n h1 h2
   cases hb:Fj P t l.length with
   |false=>trivial
   |true =>
    intro y hy a F' hr F R hF hR;cases hr;cases zm hF;cases zm hR;obtain⟨g1,g2,g3⟩:=ZO hy;have iB:n.toNat<l.length:=ab;refine zcd (k:=k) (i:=n) (cs:=l.map V.str) (by rw[bM];exact hb) (by rw[zY,hx];simp only[A.v,Z8 h1]) (by rw[zY];exact qN h2) g1 ?_;rw[cw,bx iB,g3,List.getD_eq_getElem?_getD,bx iB];rfl
  .trivial
 .exact znv
def uU:∀{a b:List V},A2 a b=bg->a=b
 |[],[],_=>rfl
 |.lF::a,.lF::b,h=>by rw[uU (a:=a) (b:=b) h]
 |.iO::a,.iO::b,h=>by rw[uU (a:=a) (b:=b) h]
 |.lP::a,.lP::b,h=>by rw[uU (a:=a) (b:=b) h]
def zs5{o:Oper}{ρ:Env}{F:aw}{v:V}{k:Nat}{o1 o2:EV.Obj}(h:EV.Loc P o ρ F v [(k,o1)])(hc:∀m Z w,Holds m Z w k o1->Holds m Z w k o2/\∀b,gT m (k,o2) b->gT m (k,o1) b):EV.Loc P o ρ F v [(k,o2)]:=by
 intro ρr m Z w gY hs ln
 refine(h ρr m Z w gY hs ln).mono λx w' ⟨m',Z',st,hr⟩=>⟨m',Z',⟨⟨st.iV.frozen,λp hp=>?_,st.iV.nodup,λp hp q hq b _ _=>?_⟩,st.nn,st.ng,st.os,st.tape,st.output,st.size,st.frame,st.keep,st.pV,λp hp b hb=>?_,st.pC⟩,hr⟩
 .cases gX.1 hp;exact(hc _ _ _ (st.iV.holds _ (gX.2 rfl))).1
 .cases gX.1 hp;cases gX.1 hq;rfl
 .cases gX.1 hp;exact st.mO _ (gX.2 rfl) b ((hc _ _ _ (st.iV.holds _ (gX.2 rfl))).2 b hb)
def UD(hS:S.OK){o:Oper}:∀{q:OR S},q.OK P o E H->(Ew q).OK P o E H:=by
 intro q h;unfold Ew;split
 .rename_i kF a k t cs;intro F R hF hR;have h1:=h F R hF hR;cases zm hR;unfold Pf;split
  .rename_i i d CV hg
   cases hb:A2 (A.vs cs) CV with
   |false=>exact h1
   |true =>
    rw[ct];have e:=uU hb;have h2:EV.Loc P o (eV E) (hV F++[]) a.v [(k,.box t (A.vs cs))]:=h1
    show EV.Loc P o (eV E) (hV F++[]) a.v [(k,S.go i d.1 d.2)]
    rw[e]at h2
    exact zs5 h2 λm Z w=>hS.V_ t i d CV hg m Z w k
  .exact h1
 .exact h
def Mz{o1 o2:Oper}(hl:∀F v F',EV.Loc P o1 (eV E) F v F'->EV.Loc P o2 (eV E) F v F'):∀{r:OR S},r.OK P o1 E H->r.OK P o2 E H
 |.no,_=>trivial
 |.one ..,h=>λF R hF hR=>hl _ _ _ (h F R hF hR)
 |.lD ..,h=>λx hx a F' hr F R hF hR=>hl _ _ _ (h x hx a F' hr F R hF hR)
 |.eqs l r,h=>λhe=>Mz hl (h he)
 |.alt ..,h=>⟨λx hx a F' hr F R hF hR=>hl _ _ _ (h.1 x hx a F' hr F R hF hR),Mz hl h.2⟩
 |.Bu ..,h=>λx hx q a F' hr F R hF hR=>hl _ _ _ (h x hx q a F' hr F R hF hR)
def Rs{op:BinOp}{b:Bool}(mC:(op=.eql/\b=bg)∨(op=.neq/\b=bf)){t t':bu}{x y:bE}:(F4 P t b (ib E x) (ib E y)).OK P ⟨dst,.binOp op t x y t',ty,pos,aft,gd⟩ E H:=by
 unfold F4;split
 .rename_i cs ly hx hy;split
  .rename_i l m h1 h2
   cases hb:CF P t l.length&&bk l.length m.length with
   |false=>trivial
   |true =>
    simp only[bn]at hb;intro F R hF hR;cases zm hF;cases zm hR;have h:=zn9 (P:=P) (ρ:=eV E) (dst:=dst) (ty:=ty) (pos:=pos) (aft:=aft) (gd:=gd) (t':=t') (op:=op) (mC.imp (·.1) (·.1)) hb.1 (eb hb.2) (by rw[zY,hx];simp only[A.v,Z8 h1]) (by rw[zY,hy];simp only[A.v,Z8 h2])
    rcases mC with⟨rfl,rfl⟩|⟨rfl,rfl⟩<;>exact h
  .trivial
 .trivial
def zw7(hS:S.OK){T:l7 S}(hT:l7.OK P T){cd:Nat->Option TC}{d:Nat}{op:Op}:(Nu P T cd E H d op).OK P ⟨dst,op,ty,pos,aft,gd⟩ E H:=by
 unfold Nu;split
 .exact QY hS
 .exact zsz hS
 .exact zn3 hS
 .split
  .rename_i r hr;exact zcb hr
  .exact ZV
 .exact zof
 .exact znw
 .exact UD hS znz
 .exact UD hS (zwx hS)
 .exact Yi hS
 .exact ZY hS
 .exact zf3
 .exact zkk hS
 .exact Jx hS
 .rename_i t x y z
  have hl:∀F v F',EV.Loc P ⟨dst,.mapUpdate t x y z,ty,pos,aft,gd⟩ (eV E) F v F'->EV.Loc P ⟨dst,.insert t x y z,ty,pos,aft,gd⟩ (eV E) F v F':=λF v F' h=>h
  exact Mz hl (Jx hS)
 .exact zkj hS
 .rename_i f l ts;refine zw5 (Jy hS (λhb=>?_) hT);rw[<- LL];exact zkb (l:=l.toList) hb rfl
 .rename_i x l ts _;split
  .rename_i f a b hx;refine Jy hS (λhb=>?_) hT;rw[Hy,Hy,<- LL];exact znc (l:=l.toList) hb (by rw[zY,hx];simp only[A.v]) rfl
  .trivial
 .exact Rs (.inl ⟨rfl,rfl⟩)
 .exact Rs (.inr ⟨rfl,rfl⟩)
 .exact zkh
 .exact TZ (.inl rfl)
 .exact TZ (.inr rfl)
 .trivial
def zw8(hS:S.OK){T:l7 S}(hT:l7.OK P T){cd:Nat->Option TC}{o:Oper}{d:Nat}:(Ny P T cd E H d o.op).OK P o E H:=by
 obtain⟨dst,op,ty,pos,aft,gd⟩:=o;unfold Ny;split
 .rename_i a ha;intro F R hF hR;cases zm hF;cases zm hR;exact zsh (zwv hS ha)
 .exact zw7 hS hT
def zBi(hS:S.OK){T:l7 S}(hT:l7.OK P T){cd:Nat->Option TC}{o:Oper}{d:Nat}:(Dh P T cd E H d o.op).OK P o E H:=by exact zw8 hS hT
end
end
mutual
def Z9{σ:Nat->Nat}:∀v:V,(v.gz σ).refs=v.refs.map σ
 |.undef=>rfl
 |.no=>rfl
 |.int ..=>rfl
 |.bool _=>rfl
 |.str _=>rfl
 |.lF=>rfl
 |.ptr ..=>rfl
 |.vp ..=>rfl
 |.iO=>rfl
 |.sl ..=>rfl
 |.vs ..=>rfl
 |.fn f a b=>by simp only[V.gz,V.refs,uj a,uj b,cO]
 |.lZ=>rfl
 |.agg cs=>by simp only[V.gz,V.refs,uj cs]
 |.ij cs=>by simp only[V.gz,V.refs,uj cs]
 |.lP=>rfl
 |.mp _=>rfl
 |.mn=>rfl
 |.lN t v=>by simp only[V.gz,V.refs,Z9 v]
 |.gv ..=>rfl
 |.pv _=>rfl
def uj{σ:Nat->Nat}:∀vs:List V,y8 (ZF σ vs)=(y8 vs).map σ
 |[]=>rfl
 |v::vs=>by simp only[ZF,y8,Z9 v,uj vs,cO]
end
def zog{σ:Nat->Nat}(o:EV.Obj):(o.gz σ).refs=o.refs.map σ:=by
 cases o<;>simp[Obj.gz,Obj.refs,uj]
section
variable{K0:List Nat}{c:Ctx K0}{w:bG}{ρr:ye}
def zkp{m:M}{Z:ZM}{H1:aw}{σ:Nat->Nat}(rV:nodupB ((keys H1).map σ)=bg)(mR:(H1.all λp=>p.2.refs.all (keys H1).contains)=bg)(hK:∀k∈K0,k∈keys H1/\σ k=k)(SC:oO c m Z (HQ σ H1) w):
  ∃mc,oO c mc Z H1 w/\∀v x,v.refs.all (keys H1).contains=bg->dQ (aY m) Z (v.gz σ) x->dQ (aY mc) Z v x:=by
 have hs:=SC.step.iV;have s_:∀{a b:Nat},a∈keys H1->b∈keys H1->σ a=σ b->a=b:=UH (yn rV)
 let mc:M:=λk L=>if k∈keys H1 then m (σ k) L else bh
 have rC:∀k∈keys H1,mc k=m (σ k):=λk hk=>by funext L;simp[mc,hk]
 have Eg:∀k,k ∉ keys H1->∀L,mc k L=bh:=λk hk L=>by simp[mc,hk]
 have nf:∀p∈H1,gT mc p=gT m (σ p.1,p.2.gz σ):=λp hp=>ZI (rC p.1 (ax hp))
 have lg:∀p∈H1,(σ p.1,p.2.gz σ)∈HQ σ H1:=λp hp=>bF.2 ⟨p,hp,rfl⟩
 have IL:kp mc Z H1 w:=by
  refine⟨hs.frozen,λp hp=>?_,?_,λp hp q hq b h1 h2=>?_⟩
  .have hh:=hs.holds _ (lg p hp);have hk:=rC p.1 (ax hp);obtain⟨k,o⟩:=p
   cases o with
   |box t cs =>
    obtain⟨b,cur,h1,h2,h3,h4,h5⟩:=hh;refine⟨b,cur,by rw[hk];exact h1,h2,zu.rl σ cs _ (λj hj L loc e=>?_) h3,h4,by rw[hk];exact h5⟩;have:=(bm.1 mR) _ hp;have:=(bm.1 this) j hj;rw[rC j (by simpa using this)];exact e
   |row t sz fz els =>
    rcases hh with⟨h1,h2,h3,⟨b,h4⟩,h5⟩|⟨b,cap,cur,fr,h1,h2⟩
    .exact .inl ⟨h1,h2,h3,⟨b,by rw[hk];exact h4⟩,by rw[hk];exact h5⟩
    .exact .inr ⟨b,cap,cur,fr,by rw[hk];exact h1,by rw[hk];exact h2⟩
   |map l =>
    obtain⟨b,es,clock,h1,h2⟩:=hh;exact⟨b,es,clock,by rw[hk];exact h1,by rw[hk];exact h2⟩
   |my g t cs=>exact⟨by rw[hk];exact hh.1,hh.2.1,by rw[hk];exact hh.2.2⟩
   |nest t e sz pd ls =>
    show kS (mc k) _ _ t e sz pd ls
    rw[hk];exact hh
   |gen G =>
    show G.holds (mc k) _ _
    rw[hk];exact hh
  .have:=hs.nodup;rw[wh]at this;exact xQ _ this
  .rw[nf p hp]at h1;rw[nf q hq]at h2;exact s_ (ax hp) (ax hq) (hs.nT _ (lg p hp) _ (lg q hq) b h1 h2)
 refine⟨mc,⟨⟨IL,λk L loc e=>?_,SC.step.ng,SC.step.os,SC.step.tape,SC.step.output,SC.step.size,SC.step.frame,λk hk=>(hK k (c.hk▸hk)).1,λk hk=>?_,λp hp b hb=>?_,SC.step.pC⟩,Eg⟩,λv x hv hr=>?_⟩
 .by_cases hk:k∈K0
  .rw[rC k (hK k hk).1,(hK k hk).2];exact SC.step.nn k L loc e
  .rw[c.Gx k hk L]at e;cases e
 .funext L
  rw[Eg k hk L,c.Gx k (λh=>hk (hK k h).1) L]
 .rw[nf p hp]at hb;exact SC.step.mO _ (lg p hp) b hb
 .refine dQ.rl σ v x (λk hk L loc e=>?_) hr;have:=(bm.1 hv) k hk;rw[rC k (by simpa using this)];exact e
def abL{ρ mh:Env}{H H1 F:aw}{σ:Nat->Nat}(fz:List Nat)(np:nodupB fz=bg)(hF:ua fz H=aY F)
  (pj:ua ((keys H1).map σ) H=aY (HQ σ H1)) (Nb:∀k∈(keys H1).map σ,k ∉ fz) (rV:nodupB ((keys H1).map σ)=bg)
  (mR:(H1.all λp=>p.2.refs.all (keys H1).contains)=bg) (hK:∀k∈K0,k∈keys H1/\σ k=k)
  (hv:∀t,mh.get t=.undef∨(mh.get t).refs.all (keys H1).contains=bg/\au (iw F) (ρ.get t) ((mh.get t).gz σ)):Cut K0 ρ H mh H1:=by
 intro c ρr w S;obtain⟨m,Z,SC,hr⟩:=S.freeze fz np hF
 have lM:keys (iw F)=fz:=by rw[xH];exact(yK hF).1
 have nL:=SC.step.iV.nodup
 have abM:∀k t sz f els,(iw F).get k=aY (.row t sz f els)->Holds m Z w k (.row t sz els.length els):=λk t sz f els hg=>by
  have lg:=aw.get_mem hg;have h1:=SC.step.iV.holds _ (bJ _ lg)
  have:f=els.length:=by
   rcases jC lg with⟨k',abp,lz,nw,tR,h2,h3⟩|⟨h2,h3⟩
   .simp only[Prod.mk.injEq,Obj.row.injEq]at h3;obtain⟨_,_,_,e1,e2⟩:=h3;rw[e1,e2]
   .exact aQ rfl (h3 t sz f els)
  subst this;exact h1
 have aeq:ua ((keys H1).map σ) (iw F++kr fz H)=aY (HQ σ H1):=by
  rw[<- pj];clear pj rV;generalize (keys H1).map σ=l at Nb
  induction l with
  |nil=>rfl
  |cons k l ih =>
   have hk:=Nb k ak
   have e:(iw F++kr fz H).get k=H.get k:=by rw[get_append,aN (by rw[lM];exact hk),HS hk]
   simp only[ua,e,ih λj hj=>Nb j (iT _ hj)]
 obtain⟨m',Eu,hc⟩:=SC.cut _ aeq rV (bm.2 λk hk=>by
   obtain⟨h1,h2⟩:=hK k hk;simp only[bX,aU]
   exact bF.2 ⟨k,h1,h2⟩) (bm.2 λp hp=>by
   obtain⟨q,hq,rfl⟩:=bF.1 hp
   refine bm.2 λj hj=>?_
   simp only[zog]at hj;obtain⟨i,hi,rfl⟩:=bF.1 hj;have:=(bm.1 ((bm.1 mR) q hq)) i hi;simp only[bX,aU]at this ⊢
   exact cv this)
 obtain⟨mc,aaz,hc2⟩:=zkp rV mR hK Eu;refine⟨mc,Z,aaz,λt=>?_⟩
 rcases hv t with h|⟨h1,h2⟩
 .rw[h];trivial
 .refine hc2 _ _ h1 (hc _ _ (bm.2 λj hj=>?_) (h2.rep abM (hr t)));rw[Z9]at hj;obtain⟨i,hi,rfl⟩:=bF.1 hj;have:=(bm.1 h1) i hi;simp only[bX,aU]at this ⊢;exact cv this
end
section
variable{S:lW}
structure GR(S:lW)(vs:List TC) where
 ml:List (Nat×Dy S.T)
 v:HL S.T vs
 eq:List (Nat×Nat)
def Tm.tZ(T:Tm)(K0:List Nat)(ns:List (Nat×Nat))(Ph:List (Nat×Dy S.T))(fz:List Nat)(R:AH S.T):Bool:=
 nodupB (Ph.map (·.1))&&(Ph.all (λp=>ck (p.1+1) (T.cs.length+T.vs.length))&&(ns.all (λp=>bk (j_ ns p.1) p.2)&&(nodupB (T.hp.map λp=>j_ ns p.1) &&
  (uT (T.sl.map (·.2)) T.hp&&(K0.all (λk=>(T.hp.map (·.1)).contains k&&bk (j_ ns k) k)&&(R.all (λp=>XU p.2)&&(nodupB fz&&(T.hp.map λp=>j_ ns p.1).all λk=>!fz.contains k)))))))
def Tm.get(T:Tm)(K0:List Nat)(E:AE S.T)(H:AH S.T):Option (GR S T.vs):=match Tp.reads T.hp bf H (T.sl.map (·.2)) (T.sl.map λp=>E.get p.1)with
 |none=>bh
 |some r1=>match ZU T.hp H (r1.ns++K0.map λk=>(k,k)) T.hp with
  |none=>bh
  |some r2=>match tF ((r1.app r2).ps.filter λp=>ck T.cs.length p.1) T.cs.length T.vs,ue (dedup r1.fz) H with
   |some v,aY R=>match ue (T.hp.map λp=>j_ (r1.ns++(K0.map λk=>(k,k))++r2.ns) p.1) H with
    |some _=>bif T.tZ K0 (r1.ns++(K0.map λk=>(k,k))++r2.ns) ((r1.app r2).ps.filter λp=>ck T.cs.length p.1) (dedup r1.fz) R then aY ⟨(r1.app r2).ps.filter λp=>!Nat.ble T.cs.length p.1,v,(r1.app r2).eq⟩else bh
    |none=>bh
   |_,_=>bh
def Tm.pK(T:Tm)(x:HL S.T T.cs)(v:HL S.T T.vs):AE S.T:=oP T.hp T.sl (xN T.cs x++xN T.vs v)
def Tm.pf(T:Tm)(x:HL S.T T.cs)(v:HL S.T T.vs):AH S.T:=K1 T.hp (xN T.cs x++xN T.vs v)
def ka:∀{ks:List Nat}{H F:AH S.T},ue ks H=aY F->ua ks (hV H)=aY (hV F)
 |[],H,F,h=>by cases h;rfl
 |k::r,H,F,h=>by
  simp only[ue]at h;split at h
  .rename_i o ho;split at h
   .rename_i F' sJ;cases h;simp only[ua,DN,ho,cP,ka sJ];rfl
   .cases h
  .cases h
def zoh{a b:List (Dy S.T)}{j:Nat}{c:TC}(h:j<a.length):KZ (a++b) j c=KZ a j c:=by unfold KZ;rw[cR h]
def SX{hp:List (Nat×TO)}{ds:List (Dy S.T)}{t:Nat}:∀{sl:List (Nat×Tp)},(oP (S:=S) hp sl ds).get t=.raw .undef∨∃tp,(t,tp)∈sl/\(oP (S:=S) hp sl ds).get t=tp.put hp ds
 |[]=>.inl rfl
 |(d,tp)::r=>by
  simp only[oP,ig,AE.get]
  cases hb:bk t d with
  |true =>
   have:=eb hb;subst this;exact .inr ⟨tp,ak,rfl⟩
  |false =>
   rcases SX (hp:=hp) (ds:=ds) (t:=t) (sl:=r)with h|⟨Pp,h1,h2⟩
   .exact .inl h
   .exact .inr ⟨Pp,iT _ h1,h2⟩
def Rt{R:aw}{f g:Nat×Tp->V}:∀{l:List (Nat×Tp)},vB R (l.map f) (l.map g)->∀p∈l,au R (f p) (g p)
 |q::l,h,p,hp=>by
  simp only[ig]at h
  cases h with
  |cons h1 h2 =>
   rcases bo.1 hp with rfl|hp
   .exact h1
   .exact Rt h2 p hp
def Tm.N3(T:Tm)(K0:List Nat)(E:AE S.T)(H:AH S.T)(x:HL S.T T.cs)(v:HL S.T T.vs):Prop:=
 ∃g,T.get K0 E H=aY g/\xO g.eq/\(∀p∈g.ml,p.2.2=KZ (xN T.cs x) p.1 p.2.1)/\g.v=v
def YO{k:Nat}{tp:Tp}:∀{l:List Tp},tp∈l->k∈tp.names->k∈Tp.rm l
 |t::r,h,hk=>by
  simp only[Tp.rm]
  rcases bo.1 h with rfl|h
  .exact bJ _ hk
  .exact bO _ (YO h hk)
def SY{σ:Nat->Nat}:∀l:List (A S.T),A.nE σ l=l.map (A.gz σ)
 |[]=>by simp only[A.nE,dm]
 |a::r=>by rw[A.nE,SY r,ig]
def A3{hp:List (Nat×TO)}{ds:List (Dy S.T)}:∀l:List Tp,Tp.lK hp ds l=l.map (Tp.put hp ds)
 |[]=>by simp only[Tp.lK,dm]
 |a::r=>by rw[Tp.lK,A3 r,ig]
def zw9(hS:S.OK){T:Tm}{K0:List Nat}{E:AE S.T}{H:AH S.T}{x:HL S.T T.cs}{v:HL S.T T.vs}(h:T.N3 K0 E H x v):Cut K0 (eV E) (hV H) (eV (T.pK x v)) (hV (T.pf x v)):=by
 obtain⟨g,h,heq,Bv,rfl⟩:=h;unfold Tm.get at h;split at h
 .cases h
 .rename_i r1 g1;split at h
  .cases h
  .rename_i r2 g2;split at h
   .rename_i v R g3 g4;split at h
    .rename_i F1 g5;generalize hL:r1.ns++(K0.map λk=>(k,k))++r2.ns=L at *
     cases hb:T.tZ K0 L ((r1.app r2).ps.filter λp=>ck T.cs.length p.1) (dedup r1.fz) R with
     |false=>rw[hb]at h;cases h
     |true =>
      rw[hb]at h;cases h;simp only[Tm.tZ,bn]at hb;obtain⟨b1,b2,b3,b4,b5,b6,b7,b8,b9⟩:=hb;generalize B_:xN T.cs x++xN T.vs v=ds at *;have hlen:(xN T.cs x).length=T.cs.length:=SK ..
      have hs:Sat ds (r1.app r2).ps:=λp hp=>by
       cases hq:ck T.cs.length p.1 with
       |false =>
        have h1:=Bv p (du.2 ⟨hp,by rw[hq];rfl⟩)
        have iB:p.1<T.cs.length:=Nat.lt_of_not_le λh2=>by rw[dB h2]at hq;cases hq
        rw[h1,<- B_];exact zoh (by rw[hlen];exact iB)
       |true =>
        have C5:=lR hq;have hm:p∈(r1.app r2).ps.filter (λp=>ck T.cs.length p.1):=du.2 ⟨hp,hq⟩;have iB:=lR ((bm.1 b2) p hm);have:=Vy (yn b1) T.vs T.cs.length v g3 p.1 p.2 hm C5 ab;rw[<- B_];refine TM ?_;rw[dX (by rw[hlen];exact C5),hlen];exact this
      have nK:mo (j_ L) L:=λp hp=>eb ((bm.1 b3) p hp)
      have pI:mo (j_ L) (r1.ns++K0.map λk=>(k,k)):=by rw[<- hL]at nK ⊢;exact nK.left
      have qa:mo (j_ L) r2.ns:=by rw[<- hL]at nK ⊢;exact nK.right
      have he:xO (r1.app r2).eq:=heq;have hr:uh T.hp ds (j_ L) H:=Vw g2 hs.right pI qa;obtain⟨k1,k2⟩:=Vx hS g2 hs.right pI qa he.right hr F1 g5
      have tq:=ui hS (R:=hV (YN R)) _ _ r1 g1 hs.left pI.left he.left hr λk hk e c' f' l wl hg=>⟨_,QX g4 k (kW hk) _ hg⟩
      have o5:keys (hV (T.pf x v))=T.hp.map (·.1):=jd
      have iy:T.pf x v=K1 T.hp ds:=by rw[<- B_];rfl
      have hsE:T.pK x v=oP T.hp T.sl ds:=by rw[<- B_];rfl
      have Ni:(keys (hV (T.pf x v))).map (j_ L)=T.hp.map λp=>j_ L p.1:=by rw[o5,cF];rfl
      simp only[uT,bn]at b5
      refine abL (σ:=j_ L) (F:=hV R) (dedup r1.fz) b8 (ka g4) ?_ ?_ (by rw[Ni];exact b4) ?_ ?_ λt=>?_
      .rw[Ni,ka g5,k1,iy];rfl
      .rw[Ni];intro k hk nZ;have:=(bm.1 b9) k hk;simp only[bL,bX,aW]at this;exact this nZ
      .rw[o5,iy]
       refine bm.2 λp hp=>?_
       simp only[hV,K1,cF,bF]at hp;obtain⟨q,hq,rfl⟩:=hp;have:=(bm.1 b5.2) q hq;obtain⟨k,o⟩:=q
       cases o with
       |box t cs=>simpa[OA.o,TO.put,Obj.refs,vg hS,TO.names]using this
       |row=>rfl
       |map=>rfl
       |rw i=>show((S.ro i).refs.all _)=bg;rw[hS.NA];rfl
       |gn i c j=>show((S.go i c (KZ _ j c)).refs.all _)=bg;rw[hS.M'];rfl
      .intro k hk;have:=(bm.1 b6) k hk;simp only[bn,bX,aU]at this;rw[o5];exact⟨this.1,eb this.2⟩
      .rw[hsE];simp only[Ju]
       rcases SX (S:=S) (hp:=T.hp) (ds:=ds) (t:=t) (sl:=T.sl)with h|⟨tp,h1,h2⟩
       .rw[h];exact .inl rfl
       .rw[h2];refine .inr ⟨?_,?_⟩
        .rw[Z3 hS,o5]
         refine bm.2 λk hk=>?_
         exact(bm.1 b5.1) k (YO (bF.2 ⟨_,h1,rfl⟩) hk)
        .rw[SY,A3,xp,xp,cF,cF,cF,cF]at tq;have:=Rt tq _ h1;simp only[Function.comp]at this;rw[D0 hS]at this;rw[<- j9 hS];exact this
    .cases h
   .cases h
end
section
variable{K0:List Nat}
def o6{k k':Nat}:∀j,j_ [(k,k')] j=if j=k then k' else j:=λj=>by
 simp only[j_]
 cases hb:bk j k with
 |true=>rw[aO (eb hb)];rfl
 |false=>rw[aN λe=>by subst e;rw[cl]at hb;cases hb];rfl
def Holds.gz{m m':M}{Z:ZM}{w:bG}{σ:Nat->Nat}{k:Nat}{o:EV.Obj}(hk:m' (σ k)=m k)(hr:∀j L loc,m j L=aY loc->m' (σ j) L=aY loc)(hh:Holds m Z w k o):Holds m' Z w (σ k) (o.gz σ):=by
 cases o with
 |box t cs =>
  obtain⟨b,cur,h1,h2,h3,h4,h5⟩:=hh;exact⟨b,cur,by rw[hk];exact h1,h2,zu.gz σ cs _ (λj _ L loc e=>hr j L loc e) h3,h4,by rw[hk];exact h5⟩
 |row t sz fz els =>
  rcases hh with⟨h1,h2,h3,⟨b,h4⟩,h5⟩|⟨b,cap,cur,fr,h1,h2⟩
  .exact .inl ⟨h1,h2,h3,⟨b,by rw[hk];exact h4⟩,by rw[hk];exact h5⟩
  .exact .inr ⟨b,cap,cur,fr,by rw[hk];exact h1,by rw[hk];exact h2⟩
 |map l =>
  obtain⟨b,es,clock,h1,h2⟩:=hh;exact⟨b,es,clock,by rw[hk];exact h1,by rw[hk];exact h2⟩
 |my g t cs=>exact⟨by rw[hk];exact hh.1,hh.2.1,by rw[hk];exact hh.2.2⟩
 |nest t e sz pd ls =>
  show kS (m' (σ k)) _ _ t e sz pd ls
  rw[hk];exact hh
 |gen G =>
  show G.holds (m' (σ k)) _ _
  rw[hk];exact hh
def T0{σ:Nat->Nat}{t:Nat}:∀ρ:Env,Env.get (ρ.map λp=>(p.1,p.2.gz σ)) t=(ρ.get t).gz σ
 |[]=>by simp[Env.get,V.gz]
 |p::r=>by
  simp only[ig,Env.get]
  cases bk t p.1 with
  |true=>rfl
  |false=>exact T0 r
def zs6{ρ:Env}{H:aw}{k k':Nat}(hk:jP k H=bg)(mi:jP k' H=bf):Cut K0 ρ H (ρ.map λp=>(p.1,p.2.gz (j_ [(k,k')]))) ((k,.gen gone)::HQ (j_ [(k,k')]) H):=λc ρr w ⟨m,Z,SC,hR⟩=>by
 have OI:=yp.1 hk
 have Ef:k' ∉ keys H:=λh=>by rw[yp.2 h]at mi;cases mi
 have lE:k≠k':=λe=>Ef (e▸OI)
 have X5:∀L,m k' L=bh:=λL=>SC.p6 k' Ef L
 let m':M:=λj L=>if j=k' then m k L else m j L
 have rB:m' k'=m k:=by funext L;simp[m']
 have sM:∀j,j≠k'->m' j=m j:=λj hj=>by funext L;simp[m',hj]
 have hr:∀j L loc,m j L=aY loc->m' (j_ [(k,k')] j) L=aY loc:=λj L loc e=>by
  rw[o6];by_cases h:j=k
  .subst h;rw[aO rfl,rB];exact e
  .rw[aN h,sM j λh=>by subst h;rw[X5]at e;cases e];exact e
 have ES:∀j∈keys H,m' (j_ [(k,k')] j)=m j:=λj hj=>by
  rw[o6];by_cases h:j=k
  .subst h;rw[aO rfl,rB]
  .rw[aN h,sM j λh=>by subst h;exact Ef hj]
 have s_:∀{a b:Nat},a∈keys H->b∈keys H->j_ [(k,k')] a=j_ [(k,k')] b->a=b:=λ{a b} ha hb e=>by
  rw[o6,o6]at e;by_cases h1:a=k<;>by_cases h2:b=k
  .rw[h1,h2]
  .rw[aO h1,aN h2]at e;subst e;exact aQ hb Ef
  .rw[aN h1,aO h2]at e;subst e;exact aQ ha Ef
  .rw[aN h1,aN h2]at e;exact e
 have hs:=SC.step.iV
 have Nk:k ∉ keys (HQ (j_ [(k,k')]) H):=λh=>by
  rw[wh]at h;obtain⟨j,hj,e⟩:=bF.1 h;rw[o6]at e;by_cases h1:j=k
  .rw[aO h1]at e;exact lE e.symm
  .rw[aN h1]at e;exact h1 e
 have lg:∀p∈HQ (j_ [(k,k')]) H,∃q∈H,p=(j_ [(k,k')] q.1,q.2.gz (j_ [(k,k')])):=λp hp=>by obtain⟨q,hq,e⟩:=bF.1 hp;exact⟨q,hq,e.symm⟩
 have nf:∀q∈H,gT m' (j_ [(k,k')] q.1,q.2.gz (j_ [(k,k')]))=gT m q:=λq hq=>(ZI (ES q.1 (ax hq)).symm).symm
 have NI:∀b,gT m' (k,.gen gone) b->False:=λb h=>h
 have hin:∀j,j ∉ keys ((k,EV.Obj.gen gone)::HQ (j_ [(k,k')]) H)->j≠k'/\j ∉ keys H:=λj hj=>by simp only[keys,ig,bo,not_or]at hj;obtain⟨h1,h2⟩:=hj;have h2:j ∉ keys (HQ (j_ [(k,k')]) H):=h2;rw[wh]at h2;exact⟨λe=>h2 (bF.2 ⟨k,OI,by rw[o6,aO rfl,e]⟩),λh=>h2 (bF.2 ⟨j,h,by rw[o6,aN h1]⟩)⟩
 refine⟨m',Z,⟨⟨⟨hs.frozen,λp hp=>?_,?_,λp hp q hq b h1 h2=>?_⟩,λj L loc e=>?_,SC.step.ng,SC.step.os,SC.step.tape,SC.step.output,SC.step.size,SC.step.frame,λj hj=>?_,λj hj=>?_,λp hp b hb=>?_,SC.step.pC⟩,λj hj L=>?_⟩,λt=>?_⟩
 .rcases bo.1 hp with rfl|hp
  .exact trivial
  .obtain⟨q,hq,rfl⟩:=lg p hp;exact Holds.gz (ES q.1 (ax hq)) hr (hs.holds q hq)
 .show(k::keys (HQ (j_ [(k,k')]) H)).Nodup
  refine cr.2 ⟨Nk,?_⟩;rw[wh];have hn:=hs.nodup
  have:∀l:List Nat,l.Nodup->(∀j∈l,j∈keys H)->(l.map (j_ [(k,k')])).Nodup:=λl=>by
   induction l with
   |nil=>intro _ _;exact dj
   |cons a l ih =>
    intro h1 h2;rw[cr]at h1;rw[ig,cr];refine⟨λh=>?_,ih h1.2 λj hj=>h2 j (iT _ hj)⟩;obtain⟨b,hb,e⟩:=bF.1 h;have:=s_ (h2 b (iT _ hb)) (h2 a ak) e;subst this;exact h1.1 hb
  exact this _ hn λ_ h=>h
 .rcases bo.1 hp with rfl|hp<;>rcases bo.1 hq with rfl|hq
  .rfl
  .exact(NI b h1).elim
  .exact(NI b h2).elim
  .obtain⟨p',lu,rfl⟩:=lg p hp;obtain⟨q',l_,rfl⟩:=lg q hq;rw[nf p' lu]at h1;rw[nf q' l_]at h2;rw[show p'.1=q'.1 from hs.nT p' lu q' l_ b h1 h2]
 .have h1:=SC.step.nn j L loc e
  show m' j L=aY loc
  rw[sM j λh=>by subst h;rw[X5]at h1;cases h1];exact h1
 .have h1:=SC.step.keep j hj;simp only[keys,ig,bo];by_cases h:j=k
  .exact .inl h
  .right
   show j∈keys (HQ (j_ [(k,k')]) H)
   rw[wh];exact bF.2 ⟨j,h1,by rw[o6,aN h]⟩
 .obtain⟨h1,h2⟩:=hin j hj;rw[sM j h1];exact SC.step.pV j h2
 .rcases bo.1 hp with rfl|hp
  .exact(NI b hb).elim
  .obtain⟨q,hq,rfl⟩:=lg p hp;rw[nf q hq]at hb;exact SC.step.mO q hq b hb
 .obtain⟨h1,h2⟩:=hin j hj;rw[sM j h1];exact SC.p6 j h2 L
 .rw[T0];exact dQ.gz _ _ _ (λj _ L loc e=>hr j L loc e) (hR t)
end
section
variable{S:lW}{K0:List Nat}
def AE.gz(σ:Nat->Nat)(E:AE S.T):AE S.T:=E.map λp=>(p.1,p.2.gz σ)
def PL:OA S.T->Bool
 |.rw 0=>bg
 |_=>bf
def Gd:List (Nat×TO)->List Nat
 |[]=>[]
 |(k,.rw 0)::r=>k::Gd r
 |_::r=>Gd r
def Bh:List Nat->AE S.T->AH S.T->AE S.T×AH S.T
 |[],E,H=>(E,H)
 |k::r,E,H=>match H.get k with
  |none=>Bh r E H
  | some o=>bif PL o||H.has (6000000+k)then Bh r E H else Bh r (AE.gz (j_ [(k,6000000+k)]) E) ((k,.rw 0)::Di (j_ [(k,6000000+k)]) H)
def AH.ae6{H:AH S.T}{k:Nat}{o:OA S.T}(h:H.get k=aY o):H.has k=bg:=by
 induction H with
 |nil=>cases h
 |cons p r ih =>
  obtain⟨d,a⟩:=p;simp only[AH.get,AH.has]at h ⊢
  cases hb:bk k d with
  |true=>rfl
  |false=>rw[hb]at h;exact ih h
def Jz(hS:S.OK):∀(l:List Nat)(E:AE S.T)(H:AH S.T),Cut K0 (eV E) (hV H) (eV (Bh l E H).1) (hV (Bh l E H).2)
 |[],E,H=>Cut.refl
 |k::r,E,H=>by
  unfold Bh;split
  .exact Jz hS r E H
  .rename_i o ho
   cases hb:PL o||H.has (6000000+k)with
   |true=>exact Jz hS r E H
   |false =>
    simp only[Bool.or_eq_false_iff]at hb;refine Cut.trans ?_ (Jz hS r _ _);have:=zs6 (K0:=K0) (ρ:=eV E) (H:=hV H) (k:=k) (k':=6000000+k) (by rw[ow];exact AH.ae6 ho) (by rw[ow];exact hb.2)
    have e1:eV (AE.gz (j_ [(k,6000000+k)]) E)=(eV E).map λp=>(p.1,p.2.gz (j_ [(k,6000000+k)])):=by simp only[eV,AE.gz,cF,Function.comp_def,D0 hS]
    have e2:hV (((k,.rw 0)::Di (j_ [(k,6000000+k)]) H):AH S.T)=(k,.gen gone)::HQ (j_ [(k,6000000+k)]) (hV H):=by rw[<- My hS];simp only[hV,ig,OA.o,hS.Pm]
    rw[e1,e2];exact this
abbrev NB:=Nat->List (Nat×Bool×Nat×TC)
def AH.rem(k:Nat)(H:AH S.T):AH S.T:=H.filter λp=>!(bk p.1 k)
def Nv:A S.T->Bool
 |.raw .iO=>bg
 |_=>bf
def Pl:A S.T->Bool
 |.raw .iO=>bg
 |.rh ..=>bg
 |.nh ..=>bg
 |_=>bf
def Fl(l:List Nat)(H:AH S.T):Option (AH S.T):=match l with
 |[]=>aY H
 |[k]=>match H.get k with
  |some o=>aY ((k,o.iw)::AH.rem k H)
  |none=>bh
 |_=>bh
def VB(H:AH S.T)(kb j:Nat):Nat:=bif H.has (1000000000000+kb*1000+j)then 1000000000500+kb*1000+j else 1000000000000+kb*1000+j
def xR(kb:Nat):List (Nat×Bool×Nat×TC)->AH S.T->AH S.T×List (Nat×Nat)
 |[],H=>(H,[])
 |(j,bg,e,c)::r,H=>match H.get kb with
  |some (.box t cs)=>match cs[j]? with
   |some a=>bif Nv a&&(!(H.has (VB H kb j))&&ck 1 (zw S c))then
     xR kb r ((VB H kb j,.row e c .zero [] ⟨_,rfl⟩)::(kb,.box t (cs.set j (.rh (zw S c) (VB H kb j) 0)))::AH.rem kb H)
    else xR kb r H
   |none=>xR kb r H
  |_=>xR kb r H
 |(j,bf,_,c)::r,H=>match H.get kb with
  |some (.box t cs)=>match cs[j]? with
   |some a=>bif Pl a then(match Yh H (.l c) a with
    |some rx=>match Fl rx.fz H with
     |some H1=>match xR kb r ((kb,.box t (cs.set j (.iR (.l c) rx.x)))::AH.rem kb H1)with
      |(H',q)=>(H',rx.eq++q)
     |none=>xR kb r H
    |none=>xR kb r H)
    else xR kb r H
   |none=>xR kb r H
  |_=>xR kb r H
def kX(nb:NB):List (Nat×OA S.T)->AH S.T->AH S.T×List (Nat×Nat)
 |[],H=>(H,[])
 |(k,.box t _)::r,H=>match xR k (nb t) H with
  |(H1,q1)=>match kX nb r H1 with
   |(H2,q2)=>(H2,q1++q2)
 |(k,.row e _ _ _ _)::r,H=>bif (nb (2000000+e)).isEmpty then kX nb r H else(match Fl [k] H with
  |some H1=>kX nb r H1
  |none=>kX nb r H)
 |_::r,H=>kX nb r H
def FM(nb:NB)(H:AH S.T):AH S.T×List (Nat×Nat):=match kX nb H H with
 |(H1,q1)=>bif (nb 2000000).isEmpty then(H1,q1)else match kX nb H1 H1 with
  |(H2,q2)=>(H2,q1++q2)
def Ge{k:Nat}{H:AH S.T}:hV (AH.rem k H)=kr [k] (hV H):=by
 induction H with
 |nil=>rfl
 |cons p r ih =>
  simp only[AH.rem,hV,kr,List.filter_cons,ig]at ih ⊢
  have:(![k].contains p.1)=!(bk p.1 k):=by
   simp only[List.contains_cons,List.contains_nil,Bool.or_false]
   cases hb:bk p.1 k with
   |true=>rw[eb hb];simp
   |false =>
    have:p.1≠k:=λe=>by rw[e,cl]at hb;cases hb
    simp[this]
  rw[this]
  cases bk p.1 k with
  |true=>simpa using ih
  |false=>simp only[Bool.not_false,if_true,ig,ih]
def UE:∀(l:List (A S.T))(j:Nat)(a:A S.T),A.vs (l.set j a)=(A.vs l).set j a.v:=λl j a=>by simp only[xp,gQ]
def QZ{R:aw}{a b:V}(h:au R a b):∀{l:List V}{j:Nat},l[j]?=aY a->vB R l (l.set j b)
 |v::l,0,e=>by
  simp only[List.getElem?_cons_zero,Option.some.injEq]at e;subst e;exact .cons h YL
 |v::l,j+1,e=>by simp only[fB]at e;exact .cons (.same _) (QZ h e)
def yw(hS:S.OK){kb:Nat}:∀(l:List (Nat×Bool×Nat×TC))(ρ:Env)(H:AH S.T),xO (xR kb l H).2->Cut K0 ρ (hV H) ρ (hV (xR kb l H).1)
 |[],ρ,H,_=>Cut.refl
 |(j,bg,e,c)::r,ρ,H,heq=>by
  unfold xR at heq ⊢
  .split at heq
   .rename_i t cs hg;split at heq
    .rename_i a ha
     cases hb:Nv a&&(!(H.has (VB H kb j))&&ck 1 (zw S c))with
     |false=>rw[hb]at heq;exact yw hS r ρ H heq
     |true =>
      rw[hb]at heq;simp only[bn,bL]at hb;obtain⟨h1,h2,h3⟩:=hb;refine Cut.trans ?_ (yw hS r ρ _ heq)
      have ha2:a=.raw .iO:=by
       unfold Nv at h1;split at h1
       .rfl
       .cases h1
      subst ha2
      have pj:ua [kb] (hV H)=aY [(kb,.box t (A.vs cs))]:=by simp only[ua,DN,hg,cP,OA.o]
      refine zke kb j (VB H kb j) e (zw S c) h3 pj (by rw[xp,cw,ha];simp only[cP,A.v]) rfl (by rw[ow];exact h2) ?_;rw[<- Ge];simp only[hV,ig,OA.o,UE,A.v,Fz.n,dm]
    .rename_i ha;exact yw hS r ρ H heq
   .rename_i hg;exact yw hS r ρ H heq
 |(j,bf,e,c)::r,ρ,H,heq=>by
  unfold xR at heq ⊢;split at heq
  .rename_i t cs hg;split at heq
   .rename_i a ha
    cases hb:Pl a with
    |false=>rw[hb]at heq;exact yw hS r ρ H heq
    |true =>
     rw[hb]at heq;simp only[ct]at heq ⊢;split at heq
     .rename_i rx C';split at heq
      .rename_i H1 nI;have Xe:xO rx.eq:=heq.left;have ab1:=heq.right;refine Cut.trans ?_ (yw hS r ρ _ ab1)
       have nx:(A.vs cs)[j]?=aY a.v:=by rw[xp,cw,ha];rfl
       have s9:∀X:AH S.T,hV (((kb,.box t (cs.set j (.iR (.l c) rx.x)))::X):AH S.T)=(kb,.box t ((A.vs cs).set j (qM S (.l c) rx.x)))::hV X:=λX=>by simp only[hV,ig,OA.o,UE,A.v]
       rw[s9,Ge]
       have EN:(hV H).get kb=aY (.box t (A.vs cs)):=by rw[DN,hg];rfl
       unfold Fl at nI;split at nI
       .rename_i np;cases nI;have hv:au ([]:aw) a.v (qM S (.l c) rx.x):=uf C' Xe (by rw[np];intro k hk;cases hk);exact LJ [] [] EN rfl rfl (QZ hv nx) rfl
       .rename_i k np;split at nI
        .rename_i o ho;cases nI
         have pj:ua [k] (hV H)=aY (hV ([(k,o)]:AH S.T)):=by simp only[ua];rw[DN,ho];rfl
         have e1:hV (((k,o.iw)::AH.rem k H):AH S.T)=iw (hV ([(k,o)]:AH S.T))++kr [k] (hV H):=by rw[<- j9 hS,<- Ge];rfl
         have hv:au (iw (hV ([(k,o)]:AH S.T))) a.v (qM S (.l c) rx.x):=uf C' Xe (by
          rw[np];intro k' mi e' c' f l w l9;rw[gX.1 mi,ho]at l9;cases l9;rw[<- j9 hS,gX.1 mi];refine⟨l.length,?_⟩
          simp only[YN,hV,ig,dm,aw.get,cl,ct,OA.iw,OA.o,Fz.n])
         refine Cut.trans (YG (F:=hV ([(k,o)]:AH S.T)) [k] rfl pj rfl) ?_;rw[e1];by_cases pH:kb=k
         .subst pH;rw[hg]at ho;cases ho;refine LJ (iw (hV ([(kb,.box t cs)]:AH S.T))) [kb] ?_ ?_ qO (QZ hv nx) rfl
          .simp only[hV,ig,dm,iw,OA.o,cK,aw.get,cl,ct]
          .simp only[hV,ig,dm,iw,OA.o,cK,ua,aw.get,cl,ct]
         .have lE:bk kb k=bf:=by
           cases h:bk kb k with
           |true=>exact aQ (eb h) pH
           |false=>rfl
          have o4:keys (iw (hV ([(k,o)]:AH S.T)))=[k]:=by rw[xH];rfl
          refine LJ (iw (hV ([(k,o)]:AH S.T))) [k] ?_ ?_ qO (QZ hv nx) rfl
          .rw[get_append,aN (by rw[o4];simpa using pH),HS (by simpa using pH)];exact EN
          .have:=ZL (H:=iw (hV ([(k,o)]:AH S.T))++kr [k] (hV H)) (F:=iw (hV ([(k,o)]:AH S.T))) λp hp=>by
            have IH:p.1=k:=by have:=ax hp;rw[o4]at this;exact gX.1 this
            rw[get_append,aO (by rw[o4,IH];exact gX.2 rfl)];refine get_of_mem (by rw[o4];exact cr.2 ⟨λh=>(by cases h),dj⟩) hp
           rw[o4]at this;exact this
        .cases nI
       .cases nI
      .rename_i nI;exact yw hS r ρ H heq
     .rename_i C';exact yw hS r ρ H heq
   .rename_i ha;exact yw hS r ρ H heq
  .rename_i hg;exact yw hS r ρ H heq
def xA(hS:S.OK){nb:NB}:∀(l:List (Nat×OA S.T))(ρ:Env)(H:AH S.T),xO (kX nb l H).2->Cut K0 ρ (hV H) ρ (hV (kX nb l H).1)
 |[],ρ,H,_=>Cut.refl
 |(k,.box t cs)::r,ρ,H,heq=>(yw hS _ ρ H (xO.left (b:=(kX nb r (xR k (nb t) H).1).2) heq)).trans (xA hS r ρ _ (xO.right (a:=(xR k (nb t) H).2) heq))
 |(k,.row e c f l w)::r,ρ,H,heq=>by
  simp only[kX]at heq ⊢
  cases hb:(nb (2000000+e)).isEmpty with
  |true =>
   rw[hb]at heq;exact xA hS r ρ H heq
  |false =>
   rw[hb]at heq;simp only[cf]at heq ⊢;split at heq
   .rename_i H1 nI;refine Cut.trans ?_ (xA hS r ρ H1 heq);simp only[Fl]at nI;split at nI
    .rename_i o ho;cases nI
     have pj:ua [k] (hV H)=aY (hV ([(k,o)]:AH S.T)):=by simp only[ua];rw[DN,ho];rfl
     refine YG (F:=hV ([(k,o)]:AH S.T)) [k] rfl pj ?_;rw[<- j9 hS,<- Ge];rfl
    .cases nI
   .exact xA hS r ρ H heq
 |(k,.map ..)::r,ρ,H,heq=>xA hS r ρ H heq
 |(k,.rw _)::r,ρ,H,heq=>xA hS r ρ H heq
 |(k,.gn ..)::r,ρ,H,heq=>xA hS r ρ H heq
def zga(hS:S.OK){nb:NB}(ρ:Env)(H:AH S.T)(heq:xO (FM nb H).2):Cut K0 ρ (hV H) ρ (hV (FM nb H).1):=by
 unfold FM at heq ⊢
 cases hb:(nb 2000000).isEmpty with
 |true =>
  rw[hb]at heq;exact xA hS H ρ H heq
 |false =>rw[hb]at heq;exact(xA hS H ρ H (xO.left (b:=(kX nb (kX nb H H).1 (kX nb H H).1).2) heq)).trans (xA hS _ ρ _ (xO.right (a:=(kX nb H H).2) heq))
end
section
variable{S:lW}
def DG{R:Type}(p:Pg R):List (Nat×Nat)->Pg R
 |[]=>p
 |q::l=>.nW q.1 q.2 (DG p l)
def DH{R:Type}(ds:List (Dy S.T))(p:Pg R):List (Nat×Dy S.T)->Pg R
 |[]=>p
 |q::l=>.nW q.2.2 (KZ ds q.1 q.2.1) (DH ds p l)
def VC{R:Type}{p:Pg R}{r:R}:∀{l:List (Nat×Nat)},(DG p l).Is r->xO l/\p.Is r
 |[],h=>⟨λ_ hp=>(nomatch hp),h⟩
 |q::l,h=>by obtain⟨h1,h2⟩:=Is.nW h;obtain⟨h3,h4⟩:=VC h2;exact⟨λp hp=>(bo.1 hp).elim (λe=>e▸h1) (h3 p),h4⟩
def LQ{R:Type}{ds:List (Dy S.T)}{p:Pg R}{r:R}:∀{l:List (Nat×Dy S.T)},(DH ds p l).Is r->(∀q∈l,q.2.2=KZ ds q.1 q.2.1)/\p.Is r
 |[],h=>⟨λ_ hp=>(nomatch hp),h⟩
 |q::l,h=>by obtain⟨h1,h2⟩:=Is.nW h;obtain⟨h3,h4⟩:=LQ h2;exact⟨λp hp=>(bo.1 hp).elim (λe=>e▸h1) (h3 p),h4⟩
def Nz:List (Nat×TO)->Nat->Option (Nat×TC×Bool)
 |[],_=>bh
 |(k',.row e c _ fz)::r,k=>bif bk k k' then aY (e,c,fz)else Nz r k
 |_::r,k=>Nz r k
def JA(hp:List (Nat×TO)):List (Nat×Tp)->AE S.T->AH S.T->AE S.T×AH S.T
 |[],E,H=>(E,H)
 |(t,tp)::r,E,H=>match tp with
  |.row sz k=>match E.get t with
   |.raw .iO=>match Nz hp k with
    |some (e,c,fz)=>bif !(H.has (5000000+t))&&(ck 1 sz&&bk sz (zw S c))then JA hp r ((t,.rh sz (5000000+t) 0)::E) ((5000000+t,.row e c (bif fz then .all else .zero) [] ⟨_,rfl⟩)::H)else JA hp r E H
    |none=>JA hp r E H
   |_=>JA hp r E H
  |_=>JA hp r E H
def ky{K0:List Nat}{hp:List (Nat×TO)}:∀(l:List (Nat×Tp))(E:AE S.T)(H:AH S.T),Cut K0 (eV E) (hV H) (eV (JA hp l E H).1) (hV (JA hp l E H).2)
 |[],E,H=>Cut.refl
 |(t,tp)::r,E,H=>by
  unfold JA;split
  .rename_i sz k;split
   .rename_i hE;split
    .rename_i e c fz _
     cases hb:!(H.has (5000000+t))&&(ck 1 sz&&bk sz (zw S c))with
     |false=>exact ky r E H
     |true =>
      simp only[bn,bL]at hb;have e1:=eb hb.2.2;subst e1;refine Cut.trans ?_ (ky r ((t,.rh (zw S c) (5000000+t) 0)::E) ((5000000+t,.row e c (bif fz then .all else .zero) [] ⟨_,rfl⟩)::H));cases fz<;>exact zj9 t (5000000+t) e (zw S c) hb.2.1 (by rw[Ju,hE];simp only[A.v]) (by rw[ow];exact hb.1)
    .exact ky r E H
   .exact ky r E H
  .exact ky r E H
def sx(T:Tm)(E:AE S.T)(H:AH S.T):AE S.T×AH S.T:=match Bh (Gd T.hp) E H with
 |(E',H')=>JA T.hp T.sl E' H'
def zs9(hS:S.OK){K0:List Nat}(T:Tm)(E:AE S.T)(H:AH S.T):Cut K0 (eV E) (hV H) (eV (sx T E H).1) (hV (sx T E H).2):=(Jz hS (Gd T.hp) E H).trans (ky T.sl _ _)
def Tm.Gv(T:Tm)(K0:List Nat)(E:AE S.T)(H:AH S.T)(x:HL S.T T.cs)(v:HL S.T T.vs):Prop:=T.N3 K0 (sx T E H).1 (sx T E H).2 x v
def vV(hS:S.OK){T:Tm}{K0:List Nat}{E:AE S.T}{H:AH S.T}{x:HL S.T T.cs}{v:HL S.T T.vs}(h:T.Gv K0 E H x v):Cut K0 (eV E) (hV H) (eV (T.pK x v)) (hV (T.pf x v)):=(zs9 hS T E H).trans (zw9 hS h)
def M_{R:Type}(T:Tm)(x:HL S.T T.cs)(k:HL S.T T.vs->Pg R):Option (GR S T.vs)->Pg R
 |some g=>DG (DH (xN T.cs x) (k g.v) g.ml) g.eq
 |none=>.fail
def sy{R:Type}(T:Tm)(K0:List Nat)(E:AE S.T)(H:AH S.T)(x:HL S.T T.cs)(k:HL S.T T.vs->Pg R):Pg R:=match sx T E H with
 |(E',H')=>M_ T x k (T.get K0 E' H')
def qP{R:Type}{r:R}{T:Tm}{K0:List Nat}{E:AE S.T}{H:AH S.T}{x:HL S.T T.cs}{k:HL S.T T.vs->Pg R}(h:(sy T K0 E H x k).Is r):∃v,T.Gv K0 E H x v/\(k v).Is r:=by
 change (M_ T x k (T.get K0 (sx T E H).1 (sx T E H).2)).Is r at h;unfold M_ at h;split at h
 .rename_i g hg;obtain⟨h1,h2⟩:=VC h;obtain⟨h3,h4⟩:=LQ h2;exact⟨g.v,⟨g,hg,h1,h3,rfl⟩,h4⟩
 .exact(Is.fail h).elim
def mF:List (Nat×Nat)->Bool
 |[]=>bg
 |p::r=>bk p.1 p.2&&mF r
def UJ:∀{l:List (Nat×Nat)},mF l=bg->xO l
 |[],_=>λ_ h=>(by cases h)
 |p::r,h=>by
  simp only[mF,bn]at h
  exact λq hq=>(bo.1 hq).elim (λe=>e▸eb h.1) (UJ h.2 q)
def V'{R:Type}(T:Tm)(K0:List Nat)(E:AE S.T)(H:AH S.T)(x:HL S.T T.cs)(k:HL S.T T.vs->Pg R):Pg R:=match sx T E H with
 |(E',H')=>match T.get K0 E' H' with
  |some g=>.lD (fN (mF g.eq=bg)) λ_=>DH (xN T.cs x) (k g.v) g.ml
  |none=>.fail
def zxa{R:Type}{r:R}{T:Tm}{K0:List Nat}{E:AE S.T}{H:AH S.T}{x:HL S.T T.cs}{k:HL S.T T.vs->Pg R}(h:(V' T K0 E H x k).Is r):∃v,T.Gv K0 E H x v/\(k v).Is r:=by
 change (match T.get K0 (sx T E H).1 (sx T E H).2 with
  |some g=>Pg.lD (fN (mF g.eq=bg)) λ_=>DH (xN T.cs x) (k g.v) g.ml
  |none=>.fail).Is r at h
 split at h
 .rename_i g hg;obtain⟨u,hu,h⟩:=Is.lD h;obtain⟨h3,h4⟩:=LQ h;exact⟨g.v,⟨g,hg,UJ (yL hu),h3,rfl⟩,h4⟩
 .exact(Is.fail h).elim
def Gk(hp:List (Nat×TO))(E:AE S.T)(H:AH S.T):List (Nat×Tp)->List (Nat×Dy S.T)
 |[]=>[]
 |(t,tp)::r=>match tp.read hp bf H (E.get t)with
  |some x=>x.ps++Gk hp E H r
  |none=>Gk hp E H r
def D7(hp:List (Nat×TO))(H:AH S.T):List (Nat×TO)->List (Nat×Dy S.T)
 |[]=>[]
 |(k,toZ)::r=>match H.get k with
  |some o=>match toZ.read hp H o with
   |some x=>x.ps++D7 hp H r
   |none=>D7 hp H r
  |none=>D7 hp H r
def MI(T:Tm)(so:List (Nat×Tp))(ho:List (Nat×TO))(E:AE S.T)(H:AH S.T):Option (HL S.T T.cs):=tF (Gk T.hp E H T.sl++(D7 T.hp H T.hp++(Gk ho E H so++D7 ho H ho))) 0 T.cs
def MJ:A S.T->A S.T
 |.raw (.bool b)=>.raw (.bool b)
 |.raw v=>rD v
 |a=>a
def zxd(a:A S.T):(MJ a).v=a.v:=by
 unfold MJ;split
 .rfl
 .rw[Pu];simp[A.v]
 .rfl
def tN(o:Oper)(a:A S.T)(E:AE S.T):AE S.T:=match o.dst with
 |some d=>(d,MJ a)::E
 |none=>E
def F5{o:Oper}{a:A S.T}{E:AE S.T}:eV (tN o a E)=EV.oP o.dst a.v (eV E):=by
 unfold tN EV.oP
 cases o.dst with
 |some d=>simp only[eV,ig,zxd]
 |none=>rfl
def Yj(H:AH S.T):AH S.T->AH S.T
 |[]=>H
 |p::r=>bif (Yj H r).has p.1 then(Yj H r).set p.1 p.2 else p::Yj H r
def SZ:∀{H:aw}{k:Nat}{o:EV.Obj},keys (aw.set H k o)=keys H
 |[],_,_=>rfl
 |(k',o')::r,k,o=>by
  simp only[aw.set]
  cases hb:bk k k' with
  |true=>rfl
  |false =>
   have:=SZ (H:=r) (k:=k) (o:=o);simp only[keys,cf,ig]at this ⊢;rw[this]
def T1:∀{H:aw}{k:Nat}{o:EV.Obj}{j:Nat},k∈keys H->(aw.set H k o).get j=if j=k then aY o else H.get j
 |(k',o')::r,k,o,j,hk=>by
  simp only[aw.set]
  cases hb:bk k k' with
  |true =>
   have:=eb hb;subst this;simp only[ct,aw.get];by_cases e:j=k
   .subst e;simp
   .have hc:bk j k=bf:=by
     cases h:bk j k with
     |true=>exact aQ (eb h) e
     |false=>rfl
    rw[aN e,hc];rfl
  |false =>
   have lE:k≠k':=λe=>by subst e;rw[cl]at hb;cases hb
   simp only[cf,aw.get]
   have mi:k∈keys r:=by simp only[keys,ig,bo]at hk;exact hk.resolve_left lE
   rw[T1 mi]
   cases hc:bk j k' with
   |true =>
    have:=eb hc;subst this;have ab9:¬j=k:=Ne.symm lE;simp[ab9]
   |false=>rfl
def A4{H:AH S.T}(h:(keys (hV H)).Nodup):∀F':AH S.T,(keys (hV (Yj H F'))).Nodup
 |[]=>h
 |p::r=>by
  have ih:=A4 h r;simp only[Yj]
  cases hb:(Yj H r).has p.1 with
  |true=>rw[ct,Ux,SZ];exact ih
  |false =>
   rw[cf];rw[<- ow]at hb
   show(p.1::keys (hV (Yj H r))).Nodup
   refine cr.2 ⟨λhm=>?_,ih⟩;rw[yp.2 hm]at hb;cases hb
def Q0{H:AH S.T}(k:Nat):∀F':AH S.T,(hV (Yj H F')).get k=if k∈keys (hV F')then(hV F').get k else(hV H).get k
 |[]=>rfl
 |p::r=>by
  have ih:=Q0 (H:=H) k r;simp only[Yj];have hk:keys (hV (p::r))=p.1::keys (hV r):=rfl;have hg:(hV (p::r)).get k=bif bk k p.1 then aY p.2.o else(hV r).get k:=rfl;rw[hk,hg]
  cases hb:(Yj H r).has p.1 with
  |true =>
   rw[ct,Ux,T1 (yp.1 (by rw[ow];exact hb))];by_cases e:k=p.1
   .subst e;simp
   .have:bk k p.1=bf:=by
     cases h:bk k p.1 with
     |true=>exact aQ (eb h) e
     |false=>rfl
    rw[aN e,ih,this];simp only[bo,e,false_or,cf]
  |false =>
   rw[cf]
   show(bif bk k p.1 then aY p.2.o else(hV (Yj H r)).get k)=_
   cases h:bk k p.1 with
   |true =>
    have:=eb h;subst this;simp
   |false =>
    have e:k≠p.1:=λe=>by subst e;rw[cl]at h;cases h
    simp only[cf,ih,bo,e,false_or]
def o5(F:AH S.T):List Nat:=F.map (·.1)
def zBm(gk:List (Nat×Nat))(F':AH S.T):Bool:=gk.all λp=>match F'.get p.1 with|none=>bg|some (.rw i)=>bk i p.2|_=>bf
def JB(N:Nat)(gk:List (Nat×Nat))(H:AH S.T)(o:Oper)(kF kR:List Nat)(F':AH S.T):Bool:=Dv N o&&(Vp o.op&&(nodupB (o5 F'++kR)&&(nodupB kF&&(kF.all (o5 F').contains&&((F'.all λp=>kF.contains p.1||!(H.has p.1))&&(nodupB (kF++kR)&&((ue kF H).isSome&&((ue kR H).isSome&&zBm gk F'))))))))
def tO{R:Type}(N:Nat)(gk:List (Nat×Nat))(i:Nat)(o:Oper)(E:AE S.T)(H:AH S.T)(k:AE S.T->AH S.T->FP->Pg R)(kF kR:List Nat)(a:A S.T)(F':AH S.T):Pg R:=bif JB N gk H o kF kR F' then k (tN o a E) (Yj H F') (.m i (o5 F') kR)else .fail
def q7{R:Type}(N:Nat)(gk:List (Nat×Nat))(i:Nat)(o:Oper)(E:AE S.T)(H:AH S.T)(k:AE S.T->AH S.T->FP->Pg R):OR S->Pg R
 |.no=>.fail
 |.one kF kR a F'=>tO N gk i o E H k kF kR a F'
 |.lD ov kF kR r=>.lD ov λx=>match r x with
  |some (a,F')=>tO N gk i o E H k kF kR a F'
  |none=>.fail
 |.eqs l r=>DG (q7 N gk i o E H k r) l
 |.Bu ov l kF kR r=>.lD ov λx=>.lD (CE (l x)) λh=>match r x h.down with
  |some (a,F')=>tO N gk i o E H k kF kR a F'
  |none=>.fail
 |.alt ov kF kR r q=>.tC ov (λx=>match r x with
  |some (a,F')=>tO N gk i o E H k kF kR a F'
  |none=>.fail) (q7 N gk i o E H k q)
inductive aaA where
 |bad|yes|skip
 |ask (d:Nat) (t:Bool) (want:Bool)
def Bn(all:List Oper)(E:AE S.T)(o:Oper):aaA:=match o.guard with
 |none=>.yes
 |some (j,want)=>match (all[j]?).bind (·.dst)with
  |some d=>match E.get d with
   |.raw (.bool bg)=>bif want then .yes else .skip
   |.raw (.bool bf)=>bif want then .skip else .yes
   |.raw .no=>.skip
   |.iR .b t=>.ask d t want
   |_=>.bad
  |none=>.bad
structure Cx(S:lW) where
 P:bl
 N:Nat
 K0:List Nat
 T:l7 S
 cd:Nat->Option TC
 kk:Nat
 nb:NB
 rT:Tm
 x:HL S.T rT.cs
 gk:List (Nat×Nat):=[]
def Dk{R:Type}(N:Nat)(i:Nat)(o:Oper)(E:AE S.T)(H:AH S.T)(k:AE S.T->AH S.T->FP->Pg R):Pg R:=bif Dv N o&&Vp o.op then k (tN o (.raw .no) E) H (.m i [] [])else .fail
abbrev PK(S:lW)(R:Type):=Nat->Oper->List Oper->AE S.T->AH S.T->List FP->Pg R->Pg R
def Fm(P:bl)(N:Nat)(E:AE S.T)(o:Oper):Option (Nat×Bool):=match o.dst,o.op with
 |some d,.binOp .eql t x (.const (.slice bh 0 0)) _=>match ib E x with
  |.iR (.l c) l=>bif qt P t&&ck (d+1) N then aY (d,fH (α:=c.ty S.T) l)else bh
  |_=>bh
 |_,_=>bh
def Nw{R:Type}(b:Bool)(x y:Pg R):Pg R:=bif b then .nW x.run y.run (.rv bg x y)else y
def rg{R:Type}(X:Cx S)(all:List Oper)(dr:Bool)(pk:PK S R)(k:AE S.T->AH S.T->List FP->Pg R):Nat->List Oper->AE S.T->AH S.T->List FP->Pg R
 |_,[],E,H,done=>k E H done
 |i,o::r,E,H,done=>match Bn all E o with
  |.bad=>.fail
  |.yes=>match (bif dr then bh else Fm X.P X.N E o)with
   |some (d,b)=>Nw b (rg X all dr pk k (i+1) r ((d,.raw (.bool bg))::E) H (.m i [] []::done)) (rg X all dr pk k (i+1) r ((d,.raw (.bool bf))::E) H (.m i [] []::done))
   |none=>pk i o r E H done (q7 X.N X.gk i o E H (λE' H' fp=>rg X all dr pk k (i+1) r E' H' (fp::done)) (Dh X.P X.T X.cd E H (o.dst.getD 0+1000000) o.op))
  |.skip=>Dk X.N i o E H λE' H' fp=>rg X all dr pk k (i+1) r E' H' (fp::done)
  |.ask d t want=>.rv t
    (bif want then pk i o r ((d,.raw (.bool bg))::E) H done (q7 X.N X.gk i o ((d,.raw (.bool bg))::E) H (λE' H' fp=>rg X all dr pk k (i+1) r E' H' (fp::done)) (Dh X.P X.T X.cd ((d,.raw (.bool bg))::E) H (o.dst.getD 0+1000000) o.op))
     else Dk X.N i o ((d,.raw (.bool bg))::E) H λE' H' fp=>rg X all dr pk k (i+1) r E' H' (fp::done))
    (bif want then Dk X.N i o ((d,.raw (.bool bf))::E) H (λE' H' fp=>rg X all dr pk k (i+1) r E' H' (fp::done))
     else pk i o r ((d,.raw (.bool bf))::E) H done (q7 X.N X.gk i o ((d,.raw (.bool bf))::E) H (λE' H' fp=>rg X all dr pk k (i+1) r E' H' (fp::done)) (Dh X.P X.T X.cd ((d,.raw (.bool bf))::E) H (o.dst.getD 0+1000000) o.op)))
def E5{R:Type}:PK S R:=λ_ _ _ _ _ _ p=>p
def Mf{R:Type}{r:R}{P:bl}{N i:Nat}{gk:List (Nat×Nat)}{o:Oper}{E:AE S.T}{H:AH S.T}{k:AE S.T->AH S.T->FP->Pg R}:∀{q:OR S},q.OK P o E H->(q7 N gk i o E H k q).Is r ->
  ∃kF kR a F' F Rr,(k (tN o a E) (Yj H F') (.m i (o5 F') kR)).Is r/\JB N gk H o kF kR F'=bg/\ue kF H=aY F/\ue kR H=aY Rr/\EV.Loc P o (eV E) (hV F++hV Rr) a.v (hV F'++hV Rr)
 |.no,_,h=>(Is.fail h).elim
 |.one kF kR a F',hq,h=>by
  simp only[q7,tO]at h
  cases hb:JB N gk H o kF kR F' with
  |false=>rw[hb]at h;exact(Is.fail h).elim
  |true =>
   rw[hb]at h;have ll:=hb;simp only[JB,bn]at ll;obtain⟨_,_,_,_,_,_,_,h1,h2,_⟩:=ll;obtain⟨F,hF⟩:=cE.1 h1;obtain⟨Rr,hR⟩:=cE.1 h2;exact⟨kF,kR,a,F',F,Rr,h,hb,hF,hR,hq F Rr hF hR⟩
 |.lD ov kF kR rr,hq,h=>by
  simp only[q7]at h;obtain⟨x,hx,h⟩:=Is.lD h;split at h
  .rename_i a F' hr;simp only[tO]at h
   cases hb:JB N gk H o kF kR F' with
   |false=>rw[hb]at h;exact(Is.fail h).elim
   |true =>
    rw[hb]at h;have ll:=hb;simp only[JB,bn]at ll;obtain⟨_,_,_,_,_,_,_,h1,h2,_⟩:=ll;obtain⟨F,hF⟩:=cE.1 h1;obtain⟨Rr,hR⟩:=cE.1 h2;exact⟨kF,kR,a,F',F,Rr,h,hb,hF,hR,hq x hx a F' hr F Rr hF hR⟩
  .exact(Is.fail h).elim
 |.eqs l q,hq,h=>by
  simp only[q7]at h;obtain⟨h1,h2⟩:=VC h;exact Mf (hq h1) h2
 |.Bu ov l kF kR rr,hq,h=>by
  simp only[q7]at h;obtain⟨x,hx,h⟩:=Is.lD h;obtain⟨y,hy,h⟩:=Is.lD h;split at h
  .rename_i a F' hr;simp only[tO]at h
   cases hb:JB N gk H o kF kR F' with
   |false=>rw[hb]at h;exact(Is.fail h).elim
   |true =>
    rw[hb]at h;have ll:=hb;simp only[JB,bn]at ll;obtain⟨_,_,_,_,_,_,_,h1,h2,_⟩:=ll;obtain⟨F,hF⟩:=cE.1 h1;obtain⟨Rr,hR⟩:=cE.1 h2;exact⟨kF,kR,a,F',F,Rr,h,hb,hF,hR,hq x hx y.down a F' hr F Rr hF hR⟩
  .exact(Is.fail h).elim
 |.alt ov kF kR rr q,hq,h=>by
  simp only[q7]at h
  rcases Is.tC h with⟨x,hx,h⟩|⟨_,h⟩
  .split at h
   .rename_i a F' hr;simp only[tO]at h
    cases hb:JB N gk H o kF kR F' with
    |false=>rw[hb]at h;exact(Is.fail h).elim
    |true =>
     rw[hb]at h;have ll:=hb;simp only[JB,bn]at ll;obtain⟨_,_,_,_,_,_,_,h1,h2,_⟩:=ll;obtain⟨F,hF⟩:=cE.1 h1;obtain⟨Rr,hR⟩:=cE.1 h2;exact⟨kF,kR,a,F',F,Rr,h,hb,hF,hR,hq.1 x hx a F' hr F Rr hF hR⟩
   .exact(Is.fail h).elim
  .exact Mf hq.2 h
def Ru{all:List Oper}{E:AE S.T}{o:Oper}(h:Bn all E o=.yes):yv all (eV E) o=aY bg:=by
 unfold Bn at h;unfold yv;split at h
 .rename_i hg;rw[hg]
 .rename_i j want hg;rw[hg];split at h
  .rename_i d hd;simp only[hd,Ju];split at h
   .rename_i he;rw[he];cases want<;>first|(cases h;done)|rfl
   .rename_i he;rw[he];cases want<;>first|(cases h;done)|rfl
   .cases h
   .cases h
   .cases h
  .cases h
def zkq{all:List Oper}{E:AE S.T}{o:Oper}(h:Bn all E o=.skip):yv all (eV E) o=aY bf:=by
 unfold Bn at h;unfold yv;split at h
 .cases h
 .rename_i j want hg;rw[hg];split at h
  .rename_i d hd;simp only[hd,Ju];split at h
   .rename_i he;rw[he];cases want<;>first|(cases h;done)|rfl
   .rename_i he;rw[he];cases want<;>first|(cases h;done)|rfl
   .rename_i he;rw[he];rfl
   .cases h
   .cases h
  .cases h
def zom{all:List Oper}{E:AE S.T}{o:Oper}{d:Nat}{t want:Bool}(h:Bn all E o=.ask d t want):(eV E).get d=.bool t/\∀b,yv all ((d,.bool b)::eV E) o=aY (b==want):=by
 unfold Bn at h;unfold yv;split at h
 .cases h
 .rename_i j X_ hg;rw[hg];split at h
  .rename_i d' hd;simp only[hd,Ju];split at h
   .cases X_<;>cases h
   .cases X_<;>cases h
   .cases h
   .rename_i he;cases h;refine⟨by rw[he];rfl,λb=>?_⟩;simp only[Env.get,cl,ct]
   .cases h
  .cases h
variable{X:Cx S}{R:Type}{r:R}{all:List Oper}{pk:PK S R}{k:AE S.T->AH S.T->List FP->Pg R}
def zxe{R:Type}{r:R}{b:Bool}{x y:Pg R}(h:(Nw b x y).Is r):(b=bg->x.Is r)/\y.Is r:=by
 unfold Nw at h
 cases b with
 |false=>exact⟨λe=>(by cases e),h⟩
 |true =>
  rw[ct]at h;obtain⟨e,h⟩:=Is.nW h;obtain⟨h1,h2,h3⟩:=h;have sf:x.run=aY r:=h1;exact⟨λ_=>⟨sf,h2⟩,⟨e.symm.trans sf,h3⟩⟩
def zxf{P:bl}{N:Nat}{E:AE S.T}{o:Oper}{d:Nat}{b:Bool}(h:Fm P N E o=aY (d,b)):∃t x t',o.dst=aY d/\o.op=.binOp .eql t x (.const (.slice bh 0 0)) t'/\qt P t=bg/\ck (d+1) N=bg/\∃sz els,fQ (eV E) x=.vs sz els/\fH els=b:=by
 unfold Fm at h;split at h
 .rename_i d' t x t' e1 e2;split at h
  .rename_i c l e3
   cases hb:qt P t&&ck (d'+1) N with
   |false=>rw[hb]at h;cases h
   |true =>
    rw[hb]at h;cases h;simp only[bn]at hb;refine⟨t,x,t',e1,e2,hb.1,hb.2,zw S c,l.map (ub S c),by rw[zY,e3];rfl,?_⟩
    show fH (cN (ub S c) l)=fH (α:=c.ty S.T) l
    cases l<;>rfl
  .cases h
 .cases h
def Cw{dr:Bool}(hS:S.OK)(hT:l7.OK X.P X.T)(W:Nat->List Oper->Env->aw->List FP->Prop)
  (ta:∀i E H done,(k E H done).Is r->W i [] (eV E) (hV H) done)
  (mC:∀i o rest (E:AE S.T) (H:AH S.T) kF kR (a:A S.T) (F' F Rr:AH S.T) done,all.drop i=o::rest->yv all (eV E) o=aY bg->JB X.N X.gk H o kF kR F'=bg->ue kF H=aY F->ue kR H=aY Rr->EV.Loc X.P o (eV E) (hV F++hV Rr) a.v (hV F'++hV Rr)->∀fp:FP,fp.i=i->fp.fk=o5 F'->fp.rk=kR->Bq X.P o (eV E).get (hV H).get (hV (Yj H F')).get a.v fp->W (i+1) rest (eV (tN o a E)) (hV (Yj H F')) (fp::done)->W i (o::rest) (eV E) (hV H) done)
  (Da:∀i o rest (E:AE S.T) (H:AH S.T) done,all.drop i=o::rest->yv all (eV E) o=aY bf->(Dv X.N o&&Vp o.op)=bg->W (i+1) rest (eV (tN o (.raw .no) E)) (hV H) (.m i [] []::done)->W i (o::rest) (eV E) (hV H) done)
  (tS:∀i l d v (E:AE S.T) (H:AH S.T) done,(eV E).get d=v->W i l ((d,v)::eV E) (hV H) done->W i l (eV E) (hV H) done)
  (sN:∀i o rest (E:AE S.T) (H:AH S.T) done p,all.drop i=o::rest->yv all (eV E) o=aY bg->(pk i o rest E H done p).Is r->p.Is r∨W i (o::rest) (eV E) (hV H) done)
  (nM:dr=bf->∀i o rest (E:AE S.T) (H:AH S.T) done d b,yv all (eV E) o=aY bg->Fm X.P X.N E o=aY (d,b)->(b=bg->W (i+1) rest ((d,.bool bg)::eV E) (hV H) (.m i [] []::done))->W (i+1) rest ((d,.bool bf)::eV E) (hV H) (.m i [] []::done)->W i (o::rest) (eV E) (hV H) done):
  ∀(l:List Oper)(i:Nat)(E:AE S.T)(H:AH S.T)(done:List FP),all.drop i=l->(rg X all dr pk k i l E H done).Is r->W i l (eV E) (hV H) done
 |[],i,E,H,done,_,h=>ta i E H done h
 |o::rest,i,E,H,done,hd,h=>by
  have l5:all.drop (i+1)=rest:=by rw[<- List.drop_drop,hd];rfl
  have go:∀E:AE S.T,yv all (eV E) o=aY bg->(pk i o rest E H done (q7 X.N X.gk i o E H (λE' H' fp=>rg X all dr pk k (i+1) rest E' H' (fp::done)) (Dh X.P X.T X.cd E H (o.dst.getD 0+1000000) o.op))).Is r->W i (o::rest) (eV E) (hV H) done:=λE hw h=>by
   rcases sN i o rest E H done _ hd hw h with h|h
   rotate_left
   .exact h
   obtain⟨kF,kR,a,F',F,Rr,h1,h2,h3,h4,h5⟩:=Mf (zBi hS hT) h;exact mC i o rest E H kF kR a F' F Rr done hd hw h2 h3 h4 h5 _ rfl rfl rfl zAt (Cw hS hT W ta mC Da tS sN nM rest (i+1) _ _ _ l5 h1)
  have sk:∀E:AE S.T,yv all (eV E) o=aY bf->(Dk X.N i o E H λE' H' fp=>rg X all dr pk k (i+1) rest E' H' (fp::done)).Is r->W i (o::rest) (eV E) (hV H) done:=λE hw h=>by
   unfold Dk at h
   cases hb:Dv X.N o&&Vp o.op with
   |false=>rw[hb]at h;exact(Is.fail h).elim
   |true =>rw[hb]at h;exact Da i o rest E H done hd hw hb (Cw hS hT W ta mC Da tS sN nM rest (i+1) _ _ _ l5 h)
  simp only[rg]at h;split at h
  .exact(Is.fail h).elim
  .rename_i hw;split at h
   .rename_i d b hq
    cases dr with
    |true=>cases hq
    |false =>obtain⟨g1,g2⟩:=zxe h;exact nM rfl i o rest E H done d b (Ru hw) hq (λe=>Cw hS hT W ta mC Da tS sN nM rest (i+1) _ _ _ l5 (g1 e)) (Cw hS hT W ta mC Da tS sN nM rest (i+1) _ _ _ l5 g2)
   .exact go E (Ru hw) h
  .rename_i hw;exact sk E (zkq hw) h
  .rename_i d t want hw;obtain⟨h1,h2⟩:=zom hw;obtain⟨h3,h4⟩:=Is.rv h
   cases t with
   |true =>
    have h3:=h3 rfl;refine tS i _ d (.bool bg) E H done h1 ?_;have h2:=h2 bg
    cases want with
    |true=>exact go ((d,.raw (.bool bg))::E) h2 h3
    |false=>exact sk ((d,.raw (.bool bg))::E) h2 h3
   |false =>
    have h4:=h4 rfl;refine tS i _ d (.bool bf) E H done h1 ?_;have h2:=h2 bf
    cases want with
    |true=>exact sk ((d,.raw (.bool bf))::E) h2 h4
    |false=>exact go ((d,.raw (.bool bf))::E) h2 h4
def JC(F:AH S.T):o5 F=keys (hV F):=(TR F).symm
def S0:∀{a b:List Nat}{H F G:aw},ua a H=aY F->ua b H=aY G->ua (a++b) H=aY (F++G)
 |[],b,H,F,G,h1,h2=>by cases h1;exact h2
 |q::a,b,H,F,G,h1,h2=>by
  simp only[ua]at h1;split at h1
  .rename_i o l ho hl;cases h1;simp only[cK,ua,ho,S0 hl h2]
  .cases h1
def S5{H F' F Rr:AH S.T}{kF kR:List Nat}(hn:(keys (hV H)).Nodup)(h1:nodupB (o5 F'++kR)=bg)(h2:(kF.all (o5 F').contains)=bg)(h3:(F'.all λp=>kF.contains p.1||!(H.has p.1))=bg)(hR:ue kR H=aY Rr):
  (hV F'++kr kF (hV H)).Perm (hV (Yj H F'))/\((hV F'++hV Rr)++kr (kF++kR) (hV H)).Perm (hV (Yj H F')):=by
 have lM:=ka hR;obtain⟨v_,Ie⟩:=yK lM;rw[JC]at h1;have nL:=yn h1
 have nU:∀k∈kF,k∈keys (hV F'):=λk hk=>by have:=(bm.1 h2) k hk;rw[<- JC];simpa using this
 have ln:∀k∈keys (hV F'),k ∉ kF->k ∉ keys (hV H):=λk hk na IB=>by
  rw[<- JC]at hk;obtain⟨p,hp,rfl⟩:=bF.1 hk;have:=(bm.1 h3) p hp;simp only[cM,bX,aU,bL]at this
  rcases this with h|h
  .exact na h
  .rw[<- ow,yp.2 IB]at h;cases h
 have Xm:∀ks:List Nat,(keys (kr ks (hV H))).Nodup:=λks=>by
  have:(keys (kr ks (hV H)))=(keys (hV H)).filter (λk=>!ks.contains k):=by simp only[keys,kr];rw[gF];rfl
  rw[this];exact hn.filter _
 have lg:∀{ks:List Nat}{k:Nat},k∈keys (kr ks (hV H))->k∈keys (hV H)/\k ∉ ks:=λ{ks k} hk=>by obtain⟨p,hp,rfl⟩:=bF.1 hk;have:=du.1 hp;exact⟨ax this.1,by simpa using this.2⟩
 refine⟨HU ?_ (A4 hn F') λk=>?_,HU ?_ (A4 hn F') λk=>?_⟩
 .rw[zr];refine cz.2 ⟨(cz.1 nL).1,Xm kF,λa ha b hb e=>?_⟩;subst e;exact ln a ha (lg hb).2 (lg hb).1
 .rw[Q0,get_append];split
  .rfl
  .rename_i hk
   exact HS λh=>hk (nU k h)
 .rw[zr,zr,v_];refine cz.2 ⟨nL,Xm _,λa ha b hb e=>?_⟩;subst e;obtain⟨g1,g2⟩:=lg hb
  rcases bI.1 ha with ha|ha
  .exact ln a ha (λh=>g2 (bJ _ h)) g1
  .exact g2 (bO _ ha)
 .rw[Q0,get_append,zr,v_,get_append];by_cases hk:k∈keys (hV F')
  .rw[aO (bJ _ hk),aO hk,aO hk]
  .rw[aN hk,aN hk];by_cases nZ:k∈kR
   .rw[aO (bO _ nZ)];obtain⟨p,hp,e⟩:=bF.1 (v_▸nZ:k∈keys (hV Rr));subst e;rw[get_of_mem (by rw[v_];exact(cz.1 nL).2.1) hp,get_of_mem hn (Ie p hp)]
   .rw[aN λh=>(bI.1 h).elim hk nZ]
    exact HS λh=>(bI.1 h).elim (λh=>hk (nU k h)) nZ
section
variable{K0:List Nat}{c:Ctx K0}{Q:xE}{Pn:Option Nat}
def zxg{ρ:Env}{H:aw}{d:Nat}{v:V}(h:ρ.get d=v):Cut K0 ρ H ((d,v)::ρ) H:=zA3 d h rfl
def zxh(hS:S.OK)(hT:l7.OK X.P X.T){l:List Oper}{E:AE S.T}{H:AH S.T}(h:(rg X l bf E5 k 0 l E H []).Is r)(hQ:∀E H done,(k E H done).Is r->Q .normal (eV E) (hV H) []):QS c X.P Pn X.N l Q l (eV E) (hV H) []:=by
 refine Cw (X:=X) (all:=l) hS hT (λ_ l' ρ H _=>QS c X.P Pn X.N l Q l' ρ H []) (λi E H done h=>zAj (hQ E H done h)) ?_ ?_ ?_ ?_ ?_ l 0 E H [] rfl h
 .intro i o rest E H kF kR a F' F Rr done hd hw hb hF hR hl fp _ _ _ _ hW;have ll:=hb;simp only[JB,bn]at ll;obtain⟨b1,b2,b3,b4,b5,b6,b7,b8⟩:=ll
  refine zsj λhn=>?_
  obtain⟨p1,p2⟩:=S5 (F:=F) hn b3 b5 b6 hR;have pj:ua (kF++kR) (hV H)=aY (hV F++hV Rr):=S0 (ka hF) (ka hR);refine zAr (kF++kR) b1 hw b7 pj hl (bm.2 λp hp=>?_) (zwg p2 ?_)
  .rcases bI.1 hp with hp|hp
   .obtain⟨q,hq,rfl⟩:=bF.1 hp;have:=(bm.1 b6) q hq;simp only[cM,bX,aU,bL,bI]at this ⊢
    rcases this with h|h
    .exact .inl (.inl h)
    .right;rw[<- ow]at h;simp only[aW]
     exact λhm=>by rw[yp.2 hm]at h;cases h
   .have:=ax hp;rw[(yK (ka hR)).1]at this;simp[this]
  .rw[<- F5];exact hW
 .intro i o rest E H done hd hw hb hW;simp only[bn]at hb;have:=hW;rw[F5,show(A.raw (T:=S.T) .no).v=.no by simp only[A.v]]at this;have w_:=hb.1;unfold Dv at w_
  cases l5:o.dst with
  |none=>rw[l5]at this;exact zsa l5 hw this
  |some d=>rw[l5]at this w_;exact zv7 d l5 w_ hw this
 .intro i l' d v E H done hg hW;exact acb _ _ (zxg hg) hW
 .exact λi o rest E H done p hd hw h=>.inl h
 .intro _ i o rest E H done d b hw hq h1 h2;obtain⟨t,x,t',e1,e2,ht,hd,sz,els,hx,hb⟩:=zxf hq;obtain⟨dst,op,ty,pos,aft,gd⟩:=o;have e1:dst=aY d:=e1;have e2:op=_:=e2;subst e1;subst e2;exact zBf hd ht hx rfl hw (λe=>h1 (hb▸e)) h2
def acL{P:bl}{N:Nat}{all l:List Oper}{done:List FP}{ρ ρ':Env}{H:aw}{K:Env->aw->Prop}(hg:ρ'.get=ρ.get)(h:Vo P N all done l ρ' H K):Vo P N all done l ρ H K:=by unfold Vo at h ⊢;rw[hg]at h;exact h
def zBn{i:Nat}{o:Oper}{rest:List Oper}{E:AE S.T}{H F' F Rr:AH S.T}{kF kR:List Nat}{a:A S.T}(hd:all.drop i=o::rest)(hw:yv all (eV E) o=aY bg)(hb:JB X.N X.gk H o kF kR F'=bg)(hF:ue kF H=aY F)(hR:ue kR H=aY Rr)
  (hl:EV.Loc X.P o (eV E) (hV F++hV Rr) a.v (hV F'++hV Rr)) (hn:(keys (hV H)).Nodup) {fp:FP} (f1:fp.i=i) (f2:fp.fk=o5 F') (f3:fp.rk=kR) (f4:Bq X.P o (eV E).get (hV H).get (hV (Yj H F')).get a.v fp):(keys (hV (Yj H F'))).Nodup/\ud X.P X.N all fp (eV E).get (hV H).get (eV (tN o a E)).get (hV (Yj H F')).get:=by
 have ll:=hb;simp only[JB,bn]at ll;obtain⟨b1,b2,b3,b4,b5,b6,b7,b8⟩:=ll;obtain⟨p1,p2⟩:=S5 (F:=F) hn b3 b5 b6 hR
 have nD:all[i]?=aY o:=by have:=aP (λx=>x[0]?) hd;simpa using this
 rw[JC]at b3 b5
 have e:(hV F'++kr kF (hV H)).get=(hV (Yj H F')).get:=by
  funext k
  rw[Q0,get_append];split
  .rfl
  .rename_i hk
   exact HS λh=>hk (by
    have:=(bm.1 b5) k h
    simpa using this)
 obtain⟨h1,h2⟩:=zw0 (P:=X.P) (N:=X.N) (all:=all) (ρ:=eV E) (H:=hV H) (F:=hV F) (R:=hV Rr) (F':=hV F') i kF kR nD (Hw b2) b1 hw (ka hF) (ka hR) b3 b4 b5 (bm.2 λp hp=>by
  obtain⟨q,hq,rfl⟩:=bF.1 hp;have:=(bm.1 b6) q hq;simp only[ow]
  exact this) hl hn (fp:=fp) f1 (f2.trans (JC F')) f3 (by rw[e];exact f4)
 have qa:=A4 hn F';rw[e,<- F5]at h2;exact⟨qa,h2⟩
def ext_get{d:Nat}{v:V}{ρ:Env}(hg:ρ.get d=v):Env.get ((d,v)::ρ)=ρ.get:=by
 funext t
 simp only[Env.get]
 cases ht:bk t d with
 |true =>
  have:=eb ht;subst this;exact hg.symm
 |false=>rfl
def zxi(hS:S.OK)(hT:l7.OK X.P X.T){l:List Oper}{E:AE S.T}{H:AH S.T}{K:Env->aw->Prop}(h:(rg X l bg E5 (λE H done=>bif jD l (HR l []) done.reverse then k E H done else .fail) 0 l E H []).Is r)(hQ:∀E H done,(k E H done).Is r->K (eV E) (hV H)):
  Vo X.P X.N l [] l (eV E) (hV H) K:=by
 refine Cw (X:=X) (all:=l) hS hT (λ_ l' ρ H' done=>Vo X.P X.N l done l' ρ H' K) (λi E H done h=>?_) ?_ ?_ ?_ (λi o rest E H done p hd hw h=>.inl h) (λe=>by cases e) l 0 E H [] rfl h
 .cases hb:jD l (HR l []) done.reverse with
  |false=>rw[hb]at h;exact(Is.fail h).elim
  |true=>rw[hb]at h;exact acM hb (hQ E H done h)
 .intro i o rest E1 H1 kF kR a F' F Rr done hd hw hb hF hR hl fp f1 f2 f3 f4 hW;have hlen:=aP ba hd;simp only[cS,lX]at hlen;exact UI (fp:=fp) ab ab (λhn=>zBn hd hw hb hF hR hl hn f1 f2 f3 f4) hW
 .intro i o rest E1 H1 done hd hw hb hW;have hlen:=aP ba hd;simp only[cS,lX]at hlen
  have nD:l[i]?=aY o:=by have:=aP (λx=>x[0]?) hd;simpa using this
  simp only[bn]at hb;have:=hW;rw[F5,show(A.raw (T:=S.T) .no).v=.no by simp only[A.v]]at this;exact zA1 i ab (dB ab) nD (Hw hb.2) hb.1 hw this
 .intro i l' d v E1 H1 done hg hW;exact acL (ext_get hg) hW
end
end
end Go.EQ
