/- texts that the proof reaches, part 7 -/
import Derived.Test.YtmjfiffpolkdeaaGreatDoorKf
import Derived.Deep.RegionLaw
import Derived.Lib.MakeNoZero
import Derived.Defers
import Derived.Recover
import Derived.Laws.Pointers
set_option linter.all false
open Array renaming getElem?_modify->dm,replicate->fh,size_push->fi
open Bool renaming false->bd,true->bg,false_eq_true->cr
open Go renaming Program->bm,Value->bu,TypeId->bA,World->bE,execOp->ca,Deferred->cg
open Go.Proofs.Tryz renaming prog->bo,underlying67->dh
open List renaming length->bf,all_eq_true->bj,mem_append->bw,length_drop->bU,length_take->bX,size_toArray->cH,nodup_cons->cJ,map->cP,flatten_append->da,take_left->dO,mem_of_mem_drop->ee
open Nat renaming beq->bk,zero_le->bP,ble->cw,le_trans->cR,le_of_eq->fa
open Option renaming bind->aN,some->bc,none->bh
namespace Go.EQ
open Go Go.RowKit Go.iE Go.EV
def P_(P:bm)(f:FuncId)(args:List V)(F:ax)(r:V)(F':ax):Prop:=
 ∀w m Z vals u,wo m Z F w->zG (bc m) Z args vals ->
  CallsDIn Fence.wide 0 P f vals.toArray u w λen u' w'=>u'=u/\∃x m' Z',en=.returned x/\Step m Z F w m' Z' F' w'/\aV (bc m') Z' r x
def Du(l:List (Nat⊕cg)):List Nat:=l.filterMap Sum.getLeft?
def L2(l:List (Nat⊕cg)):List cg:=l.filterMap Sum.getRight?
def unS(l:List (Nat⊕cg)):List cg:=l.map (Sum.elim iE.mark id)
section
variable{K0:List Nat}{c:Ctx K0}{P:bm}{fn:Func}{tmps:Array bu}{R:Ending->bE->Prop}
def zm7{m:M}{Z:ZM}{H:ax}{w:bE}{D:Nat}(h3:w.heap[D]?=bc (.deferred (bc [])))(h4:c.W0.heap.size<=D)(S:QI c m Z H w):QI c m Z H (w.putObj D (.deferred bh)):=S.lps (row:=bc D) (iE.aaa w D _) λb e=>by cases e;exact⟨h4,_,h3,rfl⟩
def zgf{w:bE}{D:Nat}{l:List Nat}(hn:D ∉ l)(h:∀D'∈l,w.heap[D']?=bc (.deferred (bc []))/\c.W0.heap.size<=D'):∀D'∈l,(w.putObj D (.deferred bh)).heap[D']?=bc (.deferred (bc []))/\c.W0.heap.size<=D':=λD' sD=>by obtain⟨h7,h8⟩:=h D' sD;exact⟨(World.putObj_heap_other (λe=>hn (by first|(rw[<- e];exact sD)|(rw[e];exact sD)))).trans h7,h8⟩
def JO{m:M}{Z:ZM}{H:ax}:∀(l:List (Nat⊕cg))(w:bE),L2 l=[]->(Du l).Nodup->(∀D∈Du l,w.heap[D]?=bc (.deferred (bc []))/\c.W0.heap.size<=D)->QI c m Z H w ->
  (∀w2,QI c m Z H w2->∃v,(results fn tmps).run P w2=.ok v w2/\R (.returned v) w2)->LeavesInM Fence.wide 0 P fn tmps R (unS l) .returning w
 |[],w,_,_,_,S,h=>h w S
 |.inl D::l,w,hr,hn,hD,S,h=>by
  have tz:D ∉ Du l/\(Du l).Nodup:=cJ.1 hn;obtain⟨h3,h4⟩:=hD D al;exact⟨af,.inl ⟨D,_,rfl,run_takeDeferred h3,JO l _ hr tz.2 (zgf tz.1 λD' sD=>hD D' (gq _ sD)) (zm7 h3 h4 S) h⟩⟩
 |.inr d::l,w,hr,_,_,_,_=>by simp[L2]at hr
def zgg{m:M}{Z:ZM}{H:ax}{fv:FuncId}{dargs:List bu}(hnr:∀w,(callFunc fv dargs.toArray).run P w=.ok (.enter fv dargs.toArray) w)
  (E_:∀w,QI c m Z H w->CallsDIn Fence.wide 0 P fv dargs.toArray .returning w λen u' w'=>u'=.returning/\∃x m' Z' H',en=.returned x/\Step m Z H w m' Z' H' w'/\QI c m' Z' H' w'/\∀w2,QI c m' Z' H' w2->∃v,(results fn tmps).run P w2=.ok v w2/\R (.returned v) w2):
  ∀(l:List (Nat⊕cg))(w:bE),L2 l=[{ target:=.fn (.func fv) #[],args:=dargs.toArray }]->(Du l).Nodup->(∀D∈Du l,w.heap[D]?=bc (.deferred (bc []))/\c.W0.heap.size<=D)->QI c m Z H w ->
  LeavesInM Fence.wide 0 P fn tmps R (unS l) .returning w
 |[],w,hr,_,_,_=>by cases hr
 |.inl D::l,w,hr,hn,hD,S=>by
  have tz:D ∉ Du l/\(Du l).Nodup:=cJ.1 hn;obtain⟨h3,h4⟩:=hD D al;exact⟨af,.inl ⟨D,_,rfl,run_takeDeferred h3,zgg hnr E_ l _ hr tz.2 (zgf tz.1 λD' sD=>hD D' (gq _ sD)) (zm7 h3 h4 S)⟩⟩
 |.inr d::l,w,hr,hn,hD,S=>by
  have Ea:d={ target:=.fn (.func fv) #[],args:=dargs.toArray }/\L2 l=[]:=by have:d::L2 l=[{ target:=.fn (.func fv) #[],args:=dargs.toArray }]:=hr;simp only[List.cons.injEq]at this;exact this
  obtain⟨rfl,hr0⟩:=Ea;refine⟨af,.inr ⟨λhx=>by simp[Fence.wide]at hx,.func fv,#[],fv,dargs.toArray,rfl,?_,λ_ _=>trivial,?_⟩⟩
  .show(callFunc fv (dargs.toArray++#[])).run P w=_
   rw[Array.append_empty];exact hnr w
  .refine(E_ w S).mono ?_;rintro en u' w' ⟨rfl,x,m',Z',H',rfl,st,S',pS⟩;exact JO l w' hr0 hn (λD sD=>⟨st.lp S.step.gy (hD D sD).1 rfl,(hD D sD).2⟩) S' pS
def Ya{T:lD}{X:Cx T}{cc:Ctx X.K0}(hS:T.OK)(hT:ke.OK X.P X.T)(mo:X.Fg)(hm:X.P.follows .mixedOrders=bg){h:HT T X.rT.vs}{code:Code}{R:Type}{kn:AE T.T->AH T.T->Pg R}{E:AE T.T}{H:AH T.T}{r:R}{Q:ZN}
  (hI:(wrap X h (ev X code) R bh kn (λ_ _ _=>.fail) E H).Is r)
  (hn:∀E' H',(kn E' H').Is r->∀ρr w ds,Kv cc (eV E') (hV H') ρr w->xg cc ds w->Q .normal ρr ds w):
  ∀ρr w ds,Kv cc (eV E) (hV H) ρr w->xg cc ds w->Wp X.P bh X.N code Q ρr ds w:=by
 intro ρr w ds SA hM;have h1:lK cc X.P bh X.N code (λe ρ H _=>e=.normal/\∀ρr w ds,Kv cc ρ H ρr w->xg cc ds w->Q .normal ρr ds w) (eV E) (hV H) []:=wA (X:=X) (c:=cc) hS (ou hS hT mo hm code) h R bh kn (λ_ _ _=>.fail) E H r _ hI (λE' H' g=>⟨rfl,hn E' H' g⟩) (λ_ _ _ g=>(Is.fail g).elim) (λq i e _=>by cases e);refine LU (h1 ρr w ds SA hM) ?_;rintro e y2 lX w' ⟨ρ,H',afS,lT,rfl,h2⟩;exact h2 _ _ _ afS lT
end
section
variable{S:lD}
abbrev N5(S:lD):=(c:TC)->Nat->c.ty S.T->Option (c.ty S.T)
def zVk(X:Cx S)(D:N5 S)(k:Nat)(E:AE S.T)(H:AH S.T):Pg (HL S.T X.rT.vs):=match H.get k with
 |some (.gn i c s)=>.iJ (D c i s) λs'=>pQ X.rT X.K0 E (YV H [(k,.gn i c s')]) X.x λv=>.ret (bc v)
 |_=>.fail
def Ib(X:Cx S)(r0 r1 r2:Code)(tc:Nat)(r3:Code)(d1:Nat)(B:Code)(D:N5 S)(k0:Nat)(hB hB':HT S X.rT.vs)(E:AE S.T)(H:AH S.T):Pg (HL S.T X.rT.vs):=
 wrap X .n (ev X r0) _ bh (λE H=>wrap X .n (ev X r1) _ bh (λE H=>wrap X .n (ev X r2) _ bh (λE H=>match bV E (.tmp tc)with
  |.gC .b b=>.rO b
   (wrap X .n (ev X r3) _ bh (λE H=>match bV E (.tmp 0)with
    |.raw (.ptr k 0 0)=>bif bk k k0&&cw (d1+1) X.N then
      wrap X hB (ev X B) _ bh (λE H=>zVk X D k0 E H) (λ_ _ _=>.fail) ((d1,.raw (.ptr k0 0 0))::E) H else .fail
    |_=>.fail) (λ_ _ _=>.fail) E H)
   (wrap X hB' (ev X B) _ bh (λE H=>pQ X.rT X.K0 E H X.x λv=>.ret (bc v)) (λ_ _ _=>.fail) E H)
  |_=>.fail) (λ_ _ _=>.fail) E H) (λ_ _ _=>.fail) E H) (λ_ _ _=>.fail) E H
def zQm{P:bm}{N:Nat}{Q:ZN}{ρr:yC}{ds:List cg}{w:bE}{id d1 f:Nat}{sc:bu}{Nn IQ:bA}{P1 MC:String}{PJ Ml:Array Edge}{ts:Array bA}(hd:d1<N)
  (h:Q .normal (sM ρr d1 (ρr 0)) ({ target:=.fn (.func f) #[],args:=#[ρr 0,sc] }::ds) w):
  Wp P bh N (.region id #[⟨bc d1,.move (.tmp 0),Nn,P1,PJ,bh⟩,⟨bh,.defer ⟨.value (.func f),#[.tmp d1,.const sc],ts⟩,IQ,MC,Ml,bh⟩] bd) Q ρr ds w:=by
 refine ztb (l:=[_,_]) λa n hf=>?_
 have h1:=hf.put hd (ρr 0);have e1:a.eval=iE.ev ρr:=hf.eval;have e2:(a.put (bc d1) (ρr 0)).eval=iE.ev (sM ρr d1 (ρr 0)):=h1.eval;simp only[wpListIn,Region.wanted,if_true];refine⟨λ_ _=>trivial,?_⟩;rw[oZ ai,e1]
 show Oper.uponIn _ _ _ _ _ _ _ (.ok (.value (ρr 0)) w)
 rw[Oper.uponIn_value];refine⟨λ_ _=>trivial,?_⟩;rw[show(Fw bh).round=bh from rfl,Oper.semAt_none,e2]
 have e3:sM ρr d1 (ρr 0) d1=ρr 0:=by simp[sM]
 have e4:(ca (iE.ev (sM ρr d1 (ρr 0))) ⟨bh,.defer ⟨.value (.func f),#[.tmp d1,.const sc],ts⟩,IQ,MC,Ml,bh⟩).run P w=.ok (.defer { target:=.fn (.func f) #[],args:=#[ρr 0,sc] }) w:=by simp[ca,resolve,Deferred.ofValue,iE.ev,e3]
 rw[e4,Oper.uponIn_defer];exact⟨_,_,⟨h1.size,by show _::(a.put (bc d1) (ρr 0)).defers=_;rw[h1.defs],h1.get⟩,h⟩
def zVl{X:Cx S}{cc:Ctx X.K0}{m:M}{Z:ZM}{H:ax}{w:bE}{bs:List cg}(h:QI cc m Z H w):QI (K0:=X.K0) { cc with base:=bs } m Z H w:=⟨h.step,h.rn⟩
def zJk(hS:S.OK){P:bm}{f:Nat}{fn:Func}{r0 r1 r2 r3 B:Code}{tc d1 fW id4 k0:Nat}{l:ak}{Nn IQ:bA}{P1 MC:String}{PJ Ml:Array Edge}{ts:Array bA}{T:ke S}{cd:Nat->Option TC}{kk:Nat}{nb:NB}{c:Ct S}{rs:List (Nat×Tp)}{D:N5 S}{afJ:V}{hB hB':HT S c.co}{rest:List Tp}
  (hf:P.funcs[f]?=bc fn) (hb:fn.body=bc (.seq r0 (.seq r1 (.seq (.seq r2 (.cond (.tmp tc) (.seq r3 (.region id4 #[⟨bc d1,.move (.tmp 0),Nn,P1,PJ,bh⟩,⟨bh,.defer ⟨.value (.func fW),#[.tmp d1,.const (.string ⟨l.toArray⟩)],ts⟩,IQ,MC,Ml,bh⟩] bd)) .skip)) B))))
  (hm:P.follows .mixedOrders=bg) (hT:ke.OK P T) (Sh:NV P [] c.iB fn.results.toList c.out=bc rs) (hc:Lg fn.ntmps c rs=bg) (hin:c.ins=.ptr k0 0::rest)
  (hD:∀ct i s s',D ct i s=bc s'->∀k,P_ P fW [.ptr k 0 0,.str l] [(k,S.go i ct s)] afJ [(k,S.go i ct s')]) (hfW:∀args w,(callFunc fW args).run P w=.ok (.enter fW args) w)
  (iV:∀x,(Ib (CE P fn.ntmps T cd kk nb c rs x (c.hin.map (·.1))) r0 r1 r2 tc r3 d1 B D k0 hB hB' (Cq (Tp.j_ c.hin (yP c.ci x) c.ins)) (oY c.hin (yP c.ci x))).run=c.fn x)
  (IH:∀x,(Ib (CE P fn.ntmps T cd kk nb c rs x (c.hin.map (·.1))) r0 r1 r2 tc r3 d1 B D k0 hB hB' (Cq (Tp.j_ c.hin (yP c.ci x) c.ins)) (oY c.hin (yP c.ci x))).tr bg=(Ib (CE P fn.ntmps T cd kk nb c rs x (c.hin.map (·.1))) r0 r1 r2 tc r3 d1 B D k0 hB hB' (Cq (Tp.j_ c.hin (yP c.ci x) c.ins)) (oY c.hin (yP c.ci x))).tr bd):c.OK P f:=by
 intro x r hr
 let X:Cx S:=CE P fn.ntmps T cd kk nb c rs x (c.hin.map (·.1))
 have hI:(Ib X r0 r1 r2 tc r3 d1 B D k0 hB hB' (Cq (Tp.j_ c.hin (yP c.ci x) c.ins)) (oY c.hin (yP c.ci x))).Is r:=⟨(iV x).trans hr,wv _ (IH x)⟩
 simp only[Lg,bn]at hc;obtain⟨c1,c2,c3,c4,c5⟩:=hc;simp only[qN,bn]at c3
 have oo:∀ds,keys (hV (oY (S:=S) c.iB ds))=c.iB.map (·.1):=λds=>wO
 have pS:K' P fn (c.hin.map (·.1)) (c.out.put c.iB (yP c.ci x++yP c.co r)).v (hV (oY c.iB (yP c.ci x++yP c.co r))) .ret
   (eV (pP c.iB rs (yP c.ci x++yP c.co r))) (hV (oY c.iB (yP c.ci x++yP c.co r))) []:=by refine⟨rfl,zCn Sh λt tp gV=>by rw[Jh,WW (yj c1) gV],WB λp hp=>get_of_mem (by rw[oo];exact yj c4) hp,?_⟩;have lk:=AX (S:=S) hS (ins:=[c.out]) (hin:=c.iB) (ds:=yP c.ci x++yP c.co r) (by simp only[qN,bn];exact c3);simp only[EV.AA,bn,Tp.j_,A.vs,wi,List.append_nil]at lk;simp only[F3,bn,oo]at lk ⊢;exact⟨c4,c5,lk.1,lk.2⟩
 intro w m Z vals hs hv sQ;have Ec:=hv.length
 have ha:vals.length<=fn.ntmps:=by rw[Ec,qA,Ab,List.length_map];exact lb c2
 have CP:keys (hV (oY (S:=S) c.hin (yP c.ci x)))=X.K0:=wO
 let cc:Ctx X.K0:=⟨[],w,m,Z,_,CP,λk hk=>sQ k (by rw[CP];exact hk)⟩
 have aen:Kv cc (eV (Cq (Tp.j_ c.hin (yP c.ci x) c.ins))) (hV (oY c.hin (yP c.ci x))) (jw vals) w:=⟨m,Z,⟨Step.refl hs,λk hk=>sQ k hk⟩,λt=>by
  rw[XL];have:=Vt _ vals 0 t hv
  simpa[ur,jw]using this⟩
 -- the thing's place
 obtain⟨MB,pv,sF,hp0,B5⟩:∃loc pv,m k0 0=bc loc/\jw vals 0=pv/\pv=.pointer (bc ⟨loc.1,0,bh⟩):=by rw[hin]at hv;simp only[Tp.j_,Tp.put,A.vs,A.v]at hv;obtain⟨y,ys,rfl,⟨g,loc,e1,e2,e3⟩,_⟩:=hv;cases e1;exact⟨loc,_,e2,rfl,by simpa[jw]using e3⟩
 let R:Ending->bE->Prop:=λen w'=>∃y m' Z',en=.returned y/\Step m Z (hV (oY c.hin (yP c.ci x))) w m' Z' (hV (oY c.iB (yP c.ci x++yP c.co r))) w'/\aV (bc m') Z' (c.out.put c.iB (yP c.ci x++yP c.co r)).v y
 let aem:ZN:=λe ρr ds w'=>e=.normal/\∀tmps:Array bu,(∀t,tmps.getD t Go.undef=ρr t)->LeavesInM Fence.wide 0 P fn tmps R ds .returning w'
 have Mp:∀(bs:List cg) E' H',(pQ X.rT X.K0 E' H' X.x λv=>.ret (bc v)).Is r->∀m' Z' ρr (tmps:Array bu) w2,(∀t,tmps.getD t Go.undef=ρr t)->QI { cc with base:=bs } m' Z' (hV H') w2->pO m' Z' (eV E') ρr->∃v,(results fn tmps).run P w2=.ok v w2/\R (.returned v) w2:=by intro bs E' H' g m' Z' ρr tmps w2 ht S1 BU;obtain⟨v,g1,g2⟩:=kL g;have e:=Is.ret g2;cases e;obtain⟨m2,Z2,S2,BV⟩:=xR hS g1 _ _ _ ⟨m',Z',S1,BU⟩;obtain⟨_,E7,na,hfb⟩:=pS;simp only[F3,bn]at hfb;obtain⟨q1,q2,q3,q4⟩:=hfb;obtain⟨m3,S3,hc3⟩:=S2.cut _ na q1 q2 q4;obtain⟨y,hy1,hy2⟩:=zfo S2.step.gy BV E7 (tmps:=tmps) ht;exact⟨y,hy1,y,m3,Z2,rfl,S3.step,hc3 _ _ q3 hy2⟩
 have aj9:Wp P bh fn.ntmps (.seq r0 (.seq r1 (.seq (.seq r2 (.cond (.tmp tc) (.seq r3 (.region id4 #[⟨bc d1,.move (.tmp 0),Nn,P1,PJ,bh⟩,⟨bh,.defer ⟨.value (.func fW),#[.tmp d1,.const (.string ⟨l.toArray⟩)],ts⟩,IQ,MC,Ml,bh⟩] bd)) .skip)) B))) aem (jw vals) [] w:=by
  unfold Ib at hI;refine Gw (Ya (X:=X) (cc:=cc) hS hT (λe=>by cases e) hm hI (λE1 H1 g1 lS w1 iX afT hM1=>?_) _ _ _ aen (xg.nil rfl));refine Gw (Ya (X:=X) (cc:=cc) hS hT (λe=>by cases e) hm g1 (λakU H2 g2 ρ2 w2 tu afU RD=>?_) _ _ _ afT hM1);refine Gw (Gw (Ya (X:=X) (cc:=cc) hS hT (λe=>by cases e) hm g2 (λakV H3 g3 MP w3 ds3 Qe BS=>?_) _ _ _ afU RD));split at g3
  .rename_i b hbt;obtain⟨gt,afs⟩:=Is.rO g3
   have M5:iE.ev MP (.tmp tc)=.bool b:=by obtain⟨m3,akW,S3,hR3⟩:=Qe;have:=hR3.ev (.tmp tc);rw[zJ,hbt]at this;exact this
   refine zLv b M5 (λmD=>?_) (λmD=>?_)
   .refine Gw (Ya (X:=X) (cc:=cc) hS hT (λe=>by cases e) hm (gt mD) (λE4 H4 g4 CA w4 ds4 Qm RE=>?_) _ _ _ Qe BS);split at g4
    .rename_i k tX
     cases hk:bk k k0&&cw (d1+1) X.N with
     |false=>rw[hk]at g4;exact(Is.fail g4).elim
     |true =>
      rw[hk,aH]at g4;simp only[bn]at hk;have hkk:=eb hk.1;subst hkk;have hd1:d1<fn.ntmps:=lb hk.2;obtain⟨m4,Z4,S4,M0⟩:=Qm;have hm4:m4 k 0=bc MB:=S4.step.mM _ _ _ sF
      have M7:CA 0=.pointer (bc ⟨MB.1,0,bh⟩):=by have:=M0.ev (.tmp 0);rw[zJ,tX]at this;obtain⟨g,loc,e1,e2,e3⟩:=this;cases e1;rw[hm4]at e2;cases e2;exact e3
      refine zQm (N:=fn.ntmps) hd1 ?_
      let dd:cg:={ target:=.fn (.func fW) #[],args:=#[CA 0,.string ⟨l.toArray⟩] }
      let G':Ctx X.K0:={ cc with base:=[dd] }
      have afV:Kv G' (eV ((d1,.raw (.ptr k 0 0))::E4)) (hV H4) (sM CA d1 (CA 0)) w4:=⟨m4,Z4,zVl S4,by
       refine M0.put d1 (v:=.ptr k 0 0) ?_
       exact⟨m4,MB,rfl,hm4,M7⟩⟩
      have hM5:xg G' (dd::ds4) w4:=by
       obtain⟨lq,h1,h2,h3,h4,h5⟩:=RE;refine⟨.inr dd::lq,by rw[h1];rfl,?_,h3,h4,λd hd D' e=>?_⟩
       .show dd::lq.filterMap Sum.getRight?=[dd]
        rw[h2]
       .cases bS.1 hd;cases e
      refine Ya (X:=X) (cc:=G') hS hT (λe=>by cases e) hm g4 (λE6 H6 g6 acj afN ds6 afW hM6=>?_) _ _ _ afV hM5;refine⟨rfl,λtmps ht=>?_⟩;unfold zVk at g6;split at g6
      .rename_i i ct s hgk;obtain⟨s',CS,g7⟩:=Is.iJ g6;obtain⟨m6,Z6,aai,hR6⟩:=afW;obtain⟨lq,rfl,h2,h3,h4,h5⟩:=hM6;have hm6:m6 k 0=bc MB:=aai.step.mM _ _ _ sF;refine zgg (c:=G') (m:=m6) (Z:=Z6) (H:=hV H6) (fv:=fW) (dargs:=[CA 0,.string ⟨l.toArray⟩]) (λw=>hfW _ w) (λw7 S7=>?_) lq afN h2 h3 h4 aai
       have na:qL [k] H6=bc [(k,.gn i ct s)]:=by simp only[qL,hgk]
       have hp:=vF S7.step.gy.nodup (cJ.2 ⟨af,List.nodup_nil⟩) (vf na);have Eb:wo m6 Z6 ([(k,S.go i ct s)]++qw [k] (hV H6)) w7:=S7.step.gy.perm hp
       have hRp:zG (bc m6) Z6 [.ptr k 0 0,.str l] [CA 0,.string ⟨l.toArray⟩]:=⟨_,_,rfl,⟨m6,MB,rfl,hm6,M7⟩,_,_,rfl,rfl,rfl⟩
       refine(hD ct i s s' CS k w7 m6 Z6 _ .returning Eb.left hRp).mono ?_;rintro en u' acg ⟨rfl,y,m8,Z8,rfl,st,_⟩
       have SL:=Step.sv Eb st λp hp q hq e=>by
        cases bS.1 hp;have hn:=Eb.nodup;rw[zC]at hn;exact(List.nodup_append.1 hn).2.2 k (bS.2 rfl) _ (ay hq) e
       have hup:=(V2 (F:=[]) (H:=H6) (F':=[(k,.gn i ct s')]) (Rr:=[]) (kF:=[k]) (kR:=[]) S7.step.gy.nodup rfl (by simp[EQ.oo]) af rfl).1;have FT:Step m6 Z6 (hV H6) w7 m8 Z8 (hV (YV H6 [(k,.gn i ct s')])) acg:=(SL.adS hp.symm).MJ hup
       have Iu:∀k',k' ∉ keys (hV (YV H6 [(k,.gn i ct s')]))->∀L,m8 k' L=bh:=λk' me L=>by rw[FT.pT k' me];exact S7.rn k' (λh=>me (FT.keep k' h)) L
       have aeo:QI G' m8 Z8 (hV (YV H6 [(k,.gn i ct s')])) acg:=⟨S7.step.trans FT,Iu⟩
       have hR8:pO m8 Z8 (eV E6) acj:=λt=>(hR6 t).up FT.lR (λg e=>by cases e;exact⟨m8,rfl,FT.mM⟩)
       exact⟨rfl,y,m8,Z8,_,rfl,FT,aeo,λw9 S9=>Mp [dd] E6 _ g7 m8 Z8 acj tmps w9 ht S9 hR8⟩
      .exact(Is.fail g6).elim
    .exact(Is.fail g4).elim
   .refine zqd (Ya (X:=X) (cc:=cc) hS hT (λe=>by cases e) hm (afs mD) (λE4 H4 g4 CA w4 ds4 Qm RE=>?_) _ _ _ Qe BS);refine⟨rfl,λtmps ht=>?_⟩;obtain⟨m4,Z4,S4,M0⟩:=Qm;obtain⟨lq,rfl,h2,h3,h4,h5⟩:=RE
    exact JO lq w4 h2 h3 h4 S4 λw9 S9=>Mp [] E4 H4 g4 m4 Z4 CA tmps w9 ht S9 M0
  .exact(Is.fail g3).elim
 refine(callsIn_wide (n:=0)).1 (callsIn_of_wp_marks hf hb trivial ?_)
 refine wpIn_mono (aj9 _ 0 ⟨?_,rfl,λt=>?_⟩) λe a w' hq=>?_
 .simp;omega
 .simp only[jw,Array.getD_eq_getD_getElem?,List.getD_eq_getElem?_getD];rw[Array.getElem?_append];split
  .simp
  .rename_i fZ;simp only[cH]at fZ;rw[List.getElem?_eq_none ab];simp only[cH];rw[Array.getElem?_replicate];split<;>rfl
 .obtain⟨y2,lX,mb,rfl,h⟩:=hq;have:=h a.tmps mb.get;rw[<- mb.defs]at this;exact this
end
end Go.EQ
namespace Go.Proofs.YtmjfiffpolkdeaaGreatDoor
open Go Go.RowKit Go.iE Go.EV Go.EQ
def zQn{T:Nat}(hT:w_ T)(k:Nat)(s t:ak)(hl:s.length+t.length<=140737488355328):P_ bo 26 [.ptr k 0 0,.str t] [(k,sb T s)] (.gu [.int .i64 (t.length:Nat),.lJ]) [(k,sb T (s++t))]:=by intro w m Z vals u hs hv;obtain⟨b,h1,h2⟩:=I' hs;obtain⟨r,rfl,h3⟩:=KI h1 hv;obtain⟨x,xs,rfl,rfl,h4⟩:=h3;cases h4;refine((zzs hT b _ ⟨t.toArray⟩ w h2 (by rw[Lib.byteCells_length,size_mk];exact hl)).2 u).mono ?_;rintro en u' w' ⟨rfl,rfl,h5,h6⟩;rw[strCells_eq,<- aap]at h5;obtain⟨m',st⟩:=Lt hs h1 h5 h6;exact⟨rfl,_,m',Z,rfl,st,_,rfl,_,_,rfl,by rw[size_mk];rfl,_,_,rfl,rfl,rfl⟩
def zJl(args:Array bu)(w:bE):(callFunc 26 args).run bo w=.ok (.enter 26 args) w:=enters_of Tryz.func26 (by kernel_rfl) rfl args w
def tI(s:ak):Option ak:=aN (ea (bf s+2<=140737488355328)) λ_=>bc (s++[32,41])
class Fuel where
 n:Nat
 DN:18446744073709551616<=n
def KK[Fuel]:Nat:=Fuel.n
set_option maxRecDepth 100000
variable[JC]
def VP(s old new:ak)(n:Int):Option ak:=aN (ea (bf s<4294967281/\1<=bf old/\bf s+Lib.count s old*bf new<=140737488355328)) λ_=>bc (Lib.replace s old new n)
def zCu(s old new:ak)(n:Int)(r:ak)(hs:VP s old new n=bc r):mx bo 68 [.str s,.str old,.str new,.int .i64 n] gl (.str r) gl:=by
 unfold VP at hs;obtain⟨_,h,hs⟩:=bind_some hs;obtain⟨h0,h1,h2⟩:=yD h;obtain rfl:=Option.some.inj hs
 refine ZR MX rfl λw Z vals hf hg hv=>?_
 obtain⟨x,xs,rfl,e1,x2,xs2,rfl,e2,x3,xs3,rfl,e3,x4,xs4,rfl,e4,e5⟩:=hv;cases e5;cases e1;cases e2;cases e3;cases e4;obtain⟨cur,u,fr,g1,g2⟩:=hg (900000002,DY JC.C0 JC.m2) (by simp[gl]) 3 _ _ rfl;obtain⟨y,ys,g3,rfl,rfl⟩:=g2
 have hm:w.cell? ⟨3,0,bh⟩=bc (.int .i64 JC.m2):=by rw[cell_of_row w 3 0 cur u fr g1,<- Array.getElem?_toList,g3];rfl
 refine Calls.mono (Tryz.strings_Replace ⟨s.toArray⟩ ⟨old.toArray⟩ ⟨new.toArray⟩ n JC.m2 w (XN h0) hm (by rw[size_mk];exact h1) (by rw[size_mk,size_mk];exact h2)) ?_;rintro e w' ⟨rfl,hb⟩;exact⟨_,rfl,λ_=>rfl,hb⟩
def zQo{o o':EV.Obj}{k:Nat}(h:ax.get [(1,o)] k=bc o'):k=1/\o=o':=by
 simp only[ax.get]at h
 cases hb:bk k 1 with
 |true=>rw[hb]at h;exact⟨eb hb,Option.some.inj h⟩
 |false=>rw[hb]at h;cases h
def zJm{P:bm}{ops:Array Oper}{o:Oper}{a:Act}{w:bE}{K:Act->bE->Prop}{Q:Exit->Act->bE->Prop}{E:Prop}
  (hg:o.guard=bh) (s x:Operand) (t:bA) (iS:o.op=Op.call { callee:=Callee.builtin Builtin.append,args:=#[s,x],argTypes:=#[t,t] })
  {b n cap m c:Nat} {ad:Addr} {v:bu} {w2:bE}
  (hs:a.eval s=.slice (bc ⟨b,0,bh⟩) n cap) (hx:a.eval x=.slice (bc ad) m c)
  (iV:∀ty,(Builtin.append_ #[t,t] ty #[.slice (bc ⟨b,0,bh⟩) n cap,.slice (bc ad) m c]).run P w=.ok v w2)
  (hK:K (a.put o.dst v) w2):
  if Region.wanted o (yielded ops a.tmps)=bg then Oper.wp P o a w K Q else E:=by
 have hw:Region.wanted o (yielded ops a.tmps)=bg:=by simp[Region.wanted,hg]
 rw[aP hw];unfold Oper.wp;simp[ca,iS,resolve,invoke,builtin,hs,hx,iV,Result.andThen];exact hK
set_option maxHeartbeats 4000000 in
set_option maxRecDepth 1000000 in
theorem zCv(b cap L:Nat)(cur:Array bu)(fr:Nat×Nat)(w:bE)(hg:w.heap[b]?=bc (.cells cur 83 fr))(iO:fr.2=0)(gp:cur.size=cap*4)(h4:4<=L)(hL:L<=cap)(hm:cap<=9223372036854775807)(h1:∀u∈cur.toList.take (L*4),u.oneCell'=bg){w1 w2:bE}
  (Ee:w1=w.drew.setRow b (cur.toList.take 12++(cur.toList.take (L*4)).drop 16++cur.toList.drop (12+(L-4)*4)).toArray)
  (lk:∀ty,(Builtin.clear_ #[78] ty #[.slice (bc ⟨b,(3+(L-4))*4,bh⟩) (L-(3+(L-4))) (cap-(3+(L-4)))]).run bo w1=.ok (.tuple #[]) w2):
  Calls bo 76 #[.slice (bc ⟨b,0,bh⟩) L cap,.int .i64 3,.int .i64 4] w λe w'=>e=.returned (.slice (bc ⟨b,0,bh⟩) (3+(L-4)) cap)/\w'=w2:=by
 obtain⟨A,hA,adu⟩:∃A:Addr,(if cap=4 then bc (⟨b,0,bh⟩:Addr)else bc ⟨b,16,bh⟩)=bc A/\∀t u,((cur.toList.take (L*4)).drop 16)[t]?=bc u->w.drew.cell? (A.add t)=bc u:=by
  have key:∀t u,((cur.toList.take (L*4)).drop 16)[t]?=bc u->16+t<L*4/\w.drew.cell? ⟨b,16+t,bh⟩=bc u:=λt u h=>by
   rw[List.getElem?_drop,List.getElem?_take]at h;split at h
   .refine⟨by assumption,?_⟩;have hb:w.drew.heap[b]?=bc (.cells cur 83 fr):=hg;simpa[World.cell?,hb]using h
   .cases h
  by_cases hc:cap=4
  .refine⟨⟨b,0,bh⟩,aP hc,λt u h=>?_⟩;have:=(key t u h).1;omega
  .refine⟨⟨b,16,bh⟩,aO hc,λt u h=>?_⟩;rw[Addr.add_lit];exact(key t u h).2
 have iV:∀ty,(Builtin.append_ #[78,78] ty #[.slice (bc ⟨b,0,bh⟩) 3 cap,.slice (bc A) (L-4) (cap-4)]).run bo w.drew=.ok (.slice (bc ⟨b,0,bh⟩) (3+(L-4)) cap) w1:=λty=>by
  obtain⟨i,z,hu,hi,hz,tM,BW,Ba,h0⟩:=qz (P:=bo) (t:=78) (e:=83) (sz:=4) (bytes:=40) (by kernel_rfl)
  have hl:((cur.toList.take (L*4)).drop 16).length=(L-4)*4:=by rw[bU,bX,Array.length_toList];omega
  have:=run_append_roomF (P:=bo) w.drew 78 ty 83 i hu hi b 3 cap cur fr hg (by rw[iO];omega) A (L-4) (cap-4) ((cur.toList.take (L*4)).drop 16) (by rw[hl,tM]) adu (λu h=>h1 u (ee h)) ab (by rw[hl,tM];omega);rw[this,Ee,hl,tM]
 clear Ee hg gp h1 iO adu;have mixed:=YN;have c3:(3:Int)<=(cap:Int):=ab;have c4:(4:Int)<=(cap:Int):=ab;have c5:(4:Int)<=(L:Int):=ab;have c7:((3+(L-4):Nat):Int)<=(L:Int):=ab;have c8:(L:Int)<=(cap:Int):=ab;have c6:(3:Int)<=(L:Int):=ab
 go_enter Tryz.func76,Tryz.ntmps76
 go_wp2_with fail
 go_region_law_o (refine zJm rfl (.tmp 22) (.tmp 25) 78 rfl (by simp[Act.eval,Act.put]) (by simp[Act.eval,Act.put]) iV ?_)
 go_wp2
 go_ret
 exact⟨rfl,rfl⟩
set_option maxRecDepth 100000 in
theorem zQp{els:List (List V)}(h1:∀c∈els,c.length=4/\c.all V.one=bg)(h4:4<=els.length):mx bo 76 [.sl 4 1 els.length 0 els.length,.int .i64 3,.int .i64 4] [(1,.row 83 4 0 els)] (.vs 4 (els.take 3++els.drop 4)) [(1,.row 83 4 els.length (els.take 3++(els.drop 4++[[.int .i64 0,.str [],.int .i64 0,.int .i64 0]])))]:=by
 rintro w m Z vals hs ⟨x,xs,rfl,hx,y,ys,rfl,hy,z,zs,rfl,hz,Ba⟩ _;cases Ba;obtain rfl:y=.int .i64 3:=hy;obtain rfl:z=.int .i64 4:=hz;obtain⟨f,loc,e1,e2,e3,e4,e5⟩:=hx;cases e1
 have hT:qy bo 78=bc (83,4,40):=by kernel_rfl
 rcases hs.holds _ (bS.2 rfl)with⟨_,g1,_⟩|⟨b,cap,cur,fr,g1,g0,g2,g3,g4,g5,g6,g7,g8,g9,g10,g11,g12,g13⟩
 .subst g1;simp at h4
 rw[g1]at e2;cases e2
 have ex:x=.slice (bc ⟨b,0,bh⟩) els.length cap:=by
  rcases e5 with e5|⟨e5,_⟩|⟨e5,_⟩
  .simpa using e5
  .simp only at e5;omega
  .omega
 subst ex
 have lk:cur.toList.length=cap*4:=by simpa using g5
 have tV:∀a x,Z a=bc x->a.block≠b:=λa x ha e=>by have:=g11 a x ha e;simp at this
 have tq:∀u∈cur.toList.take (els.length*4),u.oneCell'=bg:=Wz g7 (bj.2 λv hv=>by
  obtain⟨c,hc,B6⟩:=List.mem_flatten.1 hv
  exact(bj.1 (h1 c hc).2) v B6)
 obtain⟨Cw,nY⟩:∃Cw,Cw=els.take 3++els.drop 4++els.drop (els.length-1):=⟨_,rfl⟩
 have rv:Cw.length=els.length:=by rw[nY];simp;omega
 obtain⟨DV,l7⟩:∃DV,DV=(cur.toList.take 12++(cur.toList.take (els.length*4)).drop 16++cur.toList.drop (12+(els.length-4)*4)).toArray:=⟨_,rfl⟩
 have s0:Step m Z [(1,.row 83 4 0 els)] w m Z [(1,.row 83 4 0 els)] w.drew:=Step.same hs rfl rfl rfl rfl
 have iI:fD m (1,.row 83 4 0 els) b:=by have:cap≠0:=ab;simp[fD,qZ,Obj.hO,g1,this]
 have agv:∀c∈Cw,c.length=4:=λc hc=>by
  rw[nY]at hc
  rcases bw.1 hc with hc|hc
  .rcases bw.1 hc with hc|hc
   .exact g8 c (List.mem_of_mem_take hc)
   .exact g8 c (ee hc)
  .exact g8 c (ee hc)
 have s1:Step m Z [(1,.row 83 4 0 els)] w.drew m Z [(1,.row 83 4 0 Cw)] (w.drew.setRow b DV):=by
  refine Step.write (b:=b) s0.gy iI (λb2 h=>QJ (by simp only[Obj.hO];exact rv) rfl rfl b2 h) rfl rfl rfl af (λj hj=>setRow_other w.drew b j _ hj) (λa x ha e=>aU e (tV a x ha)) ?_;refine .inr ⟨b,cap,_,fr,by rw[rv];exact g1,g0,setRow_heap w.drew b cur _ 83 fr g2,by rw[rv];exact g3,g4,?_,g6,?_,agv,g9,ab,λa x ha e=>aU e (tV a x ha),by rw[rv];exact g12,λoff x h=>by simp at h⟩
  .rw[l7];simp only[cH,la,bX,bU,lk];omega
  .rw[rv]
   have rP:Cw.flatten=els.flatten.take 12++els.flatten.drop 16++els.flatten.drop ((els.length-1)*4):=by rw[nY,da,da,vr g8,jK g8,jK g8]
   have D7:DV.toList.take (els.length*4)=(cur.toList.take (els.length*4)).take 12++(cur.toList.take (els.length*4)).drop 16++(cur.toList.take (els.length*4)).drop ((els.length-1)*4):=by
    rw[l7];simp only[]
    have q1:(cur.toList.take 12++(cur.toList.take (els.length*4)).drop 16).length=12+(els.length-4)*4:=by rw[la,bX,bU,bX,lk];omega
    rw[List.take_append,List.take_of_length_le (by rw[q1];omega),q1,List.take_take,List.drop_take (i:=(els.length-1)*4),show 12+(els.length-4)*4=(els.length-1)*4 by omega]
    congr 2
    rw[Nat.min_eq_left ab]
   rw[rP,D7];exact((g7.take _).append (g7.drop _)).append (g7.drop _)
 obtain⟨w2,hr,s2⟩:=zA4 (P:=bo) (ty:=0) (L:=els.length) (o:=3+(els.length-4)) (n:=els.length-(3+(els.length-4))) (cs2:=[.int .i64 0,.str [],.int .i64 0,.int .i64 0]) (X:=.slice (bc ⟨b,(3+(els.length-4))*4,bh⟩) (els.length-(3+(els.length-4))) (cap-(3+(els.length-4)))) hT (by kernel_rfl) (λZ l h=>h) rfl rfl s1.gy ⟨_,(b,cap),rfl,g1,ab,g4,.inl af⟩ rv.symm ab
 have ahS:∀ty,(Builtin.clear_ #[78] ty #[.slice (bc ⟨b,(3+(els.length-4))*4,bh⟩) (els.length-(3+(els.length-4))) (cap-(3+(els.length-4)))]).run bo (w.drew.setRow b DV)=.ok (.tuple #[]) w2:=λty=>hr
 have e7:mr Cw (3+(els.length-4)) (List.replicate (els.length-(3+(els.length-4))) [.int .i64 0,.str [],.int .i64 0,.int .i64 0])=els.take 3++(els.drop 4++[[.int .i64 0,.str [],.int .i64 0,.int .i64 0]]):=by
  have q:(els.take 3++els.drop 4).length=3+(els.length-4):=by simp;omega
  have e9:Cw.take (3+(els.length-4))=els.take 3++els.drop 4:=by rw[nY,<- q,dO]
  have Rb:Cw.drop (3+(els.length-4)+1)=[]:=List.drop_eq_nil_of_le (by rw[rv];omega);rw[mr,show els.length-(3+(els.length-4))=1 by omega,List.length_replicate,e9,Rb];simp
 rw[e7]at s2
 refine Calls.mono (zCv b cap els.length cur fr w g2 (by simpa using g9) g5 h4 g3 g4 tq (aQ _ l7) ahS) λen w' ⟨he,hw⟩=>?_
 subst hw;have st:=s0.trans (s1.trans s2);have fz:=Step.freeze st.gy;have SK:=st.trans fz
 have sG:(els.take 3++(els.drop 4++[[V.int .i64 0,.str [],.int .i64 0,.int .i64 0]])).length=els.length:=by simp;omega
 simp only[gD,sG]at SK;refine⟨_,m,_,he,SK,?_⟩
 have hv:=av.rep (m:=m) (F:=[(1,.row 83 4 els.length (els.take 3++(els.drop 4++[[V.int .i64 0,.str [],.int .i64 0,.int .i64 0]])))]) (λk t sz fz BJ hk=>by
  obtain⟨rfl,e⟩:k=1/\_=_:=zQo hk;cases e;have:=SK.gy.holds _ (bS.2 rfl);rw[sG]
  exact this) (av.sub (k:=1) (sz:=4) (t:=83) (fz:=els.length) (L:=els.length) (o:=0) (n:=3+(els.length-4)) ai sG.symm ab) (x:=.slice (bc ⟨b,0,bh⟩) (3+(els.length-4)) cap) ⟨_,(b,cap),rfl,g1,ab,g4,.inl af⟩
 have e8:((els.take 3++(els.drop 4++[[V.int .i64 0,.str [],.int .i64 0,.int .i64 0]])).drop 0).take (3+(els.length-4))=els.take 3++els.drop 4:=by
  have q:(els.take 3++els.drop 4).length=3+(els.length-4):=by simp;omega
  rw[List.drop_zero,<- gO,<- q,dO]
 rw[e8]at hv;exact hv
open Go Go.RowKit
def ako:(Tryz.prog.info? 5).map (·.size)=bc 1:=by kernel_rfl
set_option maxHeartbeats 2000000 in
set_option maxRecDepth 1000000 in
theorem zx5(b n:Nat)(w:bE)(iI:w.heap[b]?=bc (.cells #[.pointer (bc ⟨b,0,bh⟩),.slice bh 0 0] 69 (0,0)))(hn:n<=281474976710656):
  Calls bo 202 #[.pointer (bc ⟨b,0,bh⟩),.int .i64 n] w λe w'=>e=.returned (.tuple #[])/\Lib.IsBuilderF 69 5 0 b [] w'/\Hk b w w':=by
 obtain⟨cs,iV,hle,PV⟩:=Lib.run_makeNoZero (P:=bo) w.drew #[3] 67 5 dh n hn
 have hw:IntKind.i64.wrap (IntKind.i64.wrap 0+(n:Int))=n:=by rw[IntKind.wrap_i64,IntKind.wrap_i64];omega
 have E_:(callFunc 226 #[.int .i64 (IntKind.i64.wrap (IntKind.i64.wrap 0+(n:Int)))]).run bo w.drew=.ok (.value (.slice (bc ⟨w.drew.heap.size,0,bh⟩) n cs.size)) (w.drew.drew.drew.alloc (.cells cs 5)):=by rw[hw,run_callFunc_extern Tryz.func226 (by kernel_rfl) (by kernel_rfl) (by kernel_rfl) (e:=Extern.BytealgMakeNoZero.makeNoZero #[3] #[67]) (by kernel_rfl),iV];rfl
 have fZ:b<w.heap.size:=by
  rcases Nat.lt_or_ge b w.heap.size with h'|h'
  .exact h'
  .simp[Array.getElem?_eq_none h']at iI
 have c1:w.drew.cell? ⟨b,1,bh⟩=bc (.slice bh 0 0):=by have:w.drew.heap[b]?=_:=iI;rw[Lib.cell_of_heap this];rfl
 have c2:(w.alloc (.cells cs 5)).cell? ⟨b,1,bh⟩=bc (.slice bh 0 0):=by have:(w.alloc (.cells cs 5)).heap[b]?=_:=(Lib.alloc_old w _ b fZ).trans iI;rw[Lib.cell_of_heap this];rfl
 have f2:(w.alloc (.cells cs 5)).frozen? ⟨b,1,bh⟩=bd:=Lib.frozen_of_heap ((Lib.alloc_old w _ b fZ).trans iI) 1
 have alD:∀W:bE,(Builtin.copy_ #[67,67] 3 #[.slice (bc ⟨w.heap.size,0,bh⟩) 0 cs.size,.slice bh 0 0]).run bo W=.ok (goInt 0) W:=λW=>run_copy_none W 67 67 3 5 _ _ 0 cs.size 0 0 dh ako rfl
 have pS:Lib.IsBuilderF 69 5 0 b [] ((w.setCell ⟨b,1,bh⟩ (.slice (bc ⟨w.heap.size,0,bh⟩) 0 cs.size)).alloc (.cells cs 5)).drew.drew.drew/\Hk b w ((w.setCell ⟨b,1,bh⟩ (.slice (bc ⟨w.heap.size,0,bh⟩) 0 cs.size)).alloc (.cells cs 5)).drew.drew.drew:=by
  have hm:=PV (by unfold maxLen;omega)
  have gp:(w.setCell ⟨b,1,bh⟩ (.slice (bc ⟨w.heap.size,0,bh⟩) 0 cs.size)).heap.size=w.heap.size:=by simp[World.setCell]
  have e1:(w.setCell ⟨b,1,bh⟩ (.slice (bc ⟨w.heap.size,0,bh⟩) 0 cs.size)).heap[b]?=bc (.cells #[.pointer (bc ⟨b,0,bh⟩),.slice (bc ⟨w.heap.size,0,bh⟩) 0 cs.size] 69 (0,0)):=by simp[World.setCell,dm,iI]
  have e2:((w.setCell ⟨b,1,bh⟩ (.slice (bc ⟨w.heap.size,0,bh⟩) 0 cs.size)).alloc (.cells cs 5)).heap[b]?=bc (.cells #[.pointer (bc ⟨b,0,bh⟩),.slice (bc ⟨w.heap.size,0,bh⟩) 0 cs.size] 69 (0,0)):=(Lib.alloc_old _ _ b (by rw[gp];exact fZ)).trans e1
  have e3:((w.setCell ⟨b,1,bh⟩ (.slice (bc ⟨w.heap.size,0,bh⟩) 0 cs.size)).alloc (.cells cs 5)).heap[w.heap.size]?=bc (.cells cs 5 (0,0)):=by
   have:=heap_alloc_new (w.setCell ⟨b,1,bh⟩ (.slice (bc ⟨w.heap.size,0,bh⟩) 0 cs.size)) (.cells cs 5)
   rwa [gp]at this
  refine⟨.inr ⟨bP _,_,e2,⟨rfl,.inr ⟨w.heap.size,cs.size,cs,(0,0),rfl,bP _,e3,bP _,bP _,hm,af,af⟩⟩,by simp[Value.ownBlock];omega⟩,_,_,69,_,_,iI,e2,rfl,rfl,rfl,?_,λk hk mE _=>?_,λg hg=>?_,λg hg=>(by cases hg)⟩
  .have:((w.setCell ⟨b,1,bh⟩ (.slice (bc ⟨w.heap.size,0,bh⟩) 0 cs.size)).alloc (.cells cs 5)).heap.size=(w.setCell ⟨b,1,bh⟩ (.slice (bc ⟨w.heap.size,0,bh⟩) 0 cs.size)).heap.size+1:=af;exact cR (Nat.le_succ w.heap.size) (fa (aQ (·+1) gp.symm |>.trans this.symm))
  .exact(Lib.alloc_old _ _ k (by rw[gp];exact hk)).trans (Below.heap_setCell _ _ _ _ (λe=>mE (by simp[e])))
  .simp only[Value.ownBlock,Option.some.injEq]at hg;exact .inl ab
 clear hw;have mixed:=YN
 go_enter Tryz.func202,Tryz.ntmps202
 go_wp2
 go_region_o
 all_goals (go_wp2;go_end0;exact⟨rfl,pS⟩)
def zJn{T b:Nat}{w:bE}{p v:bu}(iI:w.heap[b]?=bc (.cells #[p,v] T (0,0))):w.shape? b=bc (T,2):=by simp[World.shape?,iI]
set_option maxHeartbeats 2000000 in
set_option maxRecDepth 1000000 in
theorem zJo(b n:Nat)(w:bE)(iI:w.heap[b]?=bc (.cells #[.pointer bh,.slice bh 0 0] 69 (0,0)))(hn:n<=281474976710656):
  Calls bo 159 #[.pointer (bc ⟨b,0,bh⟩),.int .i64 n] w λe w'=>e=.returned (.tuple #[])/\Lib.IsBuilderF 69 5 0 b [] w'/\Hk b w w':=by
 have Mn:(w.setCell ⟨b,0,bh⟩ (.pointer (bc ⟨b,0,bh⟩))).heap[b]?=bc (.cells #[.pointer (bc ⟨b,0,bh⟩),.slice bh 0 0] 69 (0,0)):=by simp[World.setCell,dm,iI]
 have c1:(w.setCell ⟨b,0,bh⟩ (.pointer (bc ⟨b,0,bh⟩))).cell? ⟨b,1,bh⟩=bc (.slice bh 0 0):=by rw[Lib.cell_of_heap Mn];rfl
 have ala:(w.setCell ⟨b,0,bh⟩ (.pointer (bc ⟨b,0,bh⟩))).drew.cell? ⟨b,1,bh⟩=bc (.slice bh 0 0):=c1;have afx:Lib.IsBuilderF 69 5 0 b [] (w.setCell ⟨b,0,bh⟩ (.pointer (bc ⟨b,0,bh⟩))).drew:=.inr ⟨bP _,.slice bh 0 0,Mn,World.ownsRowF_nil _ _ _ _,by simp[Value.ownBlock]⟩
 have hk:∀k,k≠b->(w.setCell ⟨b,0,bh⟩ (.pointer (bc ⟨b,0,bh⟩))).heap[k]?=w.heap[k]?:=λk hk=>Below.heap_setCell _ _ _ _ (λe=>hk (by simp[e]))
 have gp:(w.setCell ⟨b,0,bh⟩ (.pointer (bc ⟨b,0,bh⟩))).heap.size=w.heap.size:=by simp[World.setCell]
 have hT:Hk b w (w.setCell ⟨b,0,bh⟩ (.pointer (bc ⟨b,0,bh⟩))).drew:=⟨_,_,69,_,_,iI,Mn,rfl,rfl,rfl,fa gp.symm,λk _ mE _=>hk k mE,λg hg=>(by cases hg),λg hg=>(by cases hg)⟩
 have hT2:∀w',Hk b (w.setCell ⟨b,0,bh⟩ (.pointer (bc ⟨b,0,bh⟩))).drew w'->Hk b w w':=λw' ⟨p,v,T,p',v',t1,t2,t3,t4,t5,t6,t7,t8,t9⟩=>by
  have agW:=Mn.symm.trans t1;cases agW;refine⟨_,_,69,p',v',iI,t2,t3,t4,t5,cR (fa gp.symm) t6,λk mv mE _=>?_,λg hg=>?_,λg hg=>(by cases hg)⟩
  .exact(t7 k (Nat.lt_of_lt_of_le mv (fa gp.symm)) mE (by simp[Value.ownBlock])).trans (hk k mE)
  .rcases t8 g hg with h|h
   .exact .inl (cR (fa gp.symm) h)
   .cases h
 have mixed:=YN
 go_enter Tryz.func159,Tryz.ntmps159
 go_wp2_with (go_at_call 70;refine(za4 NL b w (by rw[Lib.cell_of_heap iI];rfl) (zJn iI) (Lib.frozen_of_heap iI 0)).mono ?_;rintro e w' ⟨rfl,rfl⟩)
 go_region_o
 all_goals go_wp2_with (go_at_call 202;refine(zx5 b n (w.setCell ⟨b,0,bh⟩ (.pointer (bc ⟨b,0,bh⟩))).drew Mn hn).mono ?_;rintro e w' ⟨rfl,h1,h2⟩)
 all_goals first
  |(go_end0;exact⟨rfl,h1,hT2 _ h2⟩)
  |(go_end0;exact⟨rfl,afx,hT⟩)
open Go.iE Go.EV Go.EQ in
theorem zJp(k n:Nat)(hn:n<=281474976710656):mx bo 159 [.ptr k 0 0,.int .i64 n] [(k,.box 69 [.kq,.gR])] (.gu []) [(k,sb 69 [])]:=by
 intro w m Z vals hs hv _;obtain⟨h1,h2⟩:=Tt (hs.holds _ (bS.2 rfl))
 have CS:wo m Z [(k,sb 69 [])] w:=⟨hs.frozen,λp hp=>by cases bS.1 hp;exact h1,hs.nodup,λp hp q hq _ _ _=>by cases bS.1 hp;cases bS.1 hq;rfl⟩
 obtain⟨b,cur,g1,g2,⟨x,xs,e1,hx,y,ys,e2,hy,e3⟩,g4,g5⟩:=hs.holds _ (bS.2 rfl);subst e3;subst e2;have hx:x=.pointer bh:=hx;have hy:y=.slice bh 0 0:=hy;subst hx;subst hy
 have hc:cur=#[.pointer bh,.slice bh 0 0]:=by apply Array.ext';rw[e1]
 subst hc;obtain⟨r,rfl,h3⟩:=KI g1 hv;obtain⟨x,xs,rfl,rfl,h4⟩:=h3;cases h4;refine Calls.mono (zJo b n w g2 hn) ?_;rintro en w' ⟨rfl,h5,h6⟩;obtain⟨m',st⟩:=Lt CS g1 (s':=[]) h5 h6
 have hb:∀c,¬fD m (k,.box 69 [.kq,.gR]) c->¬fD m (k,sb 69 []) c:=λc hn h=>hn (h2 c h)
 exact⟨_,m',Z,rfl,⟨st.gy,st.mM,st.lR,st.os,st.tape,st.output,st.size,λc hc hn=>st.frame c hc λp hp=>by cases bS.1 hp;exact hb c (hn _ (bS.2 rfl)),st.keep,st.pT,λp hp c hc=>(st.mn p hp c hc).imp id λ⟨q,hq,e⟩=>by cases bS.1 hq;exact⟨_,bS.2 rfl,h2 c e⟩,λa x ha=>(st.mB a x ha).imp id (Or.imp id λ⟨q,hq,e⟩=>by cases bS.1 hq;exact⟨_,bS.2 rfl,h2 _ e⟩)⟩,[],rfl,rfl⟩
end Go.Proofs.YtmjfiffpolkdeaaGreatDoor
set_option maxRecDepth 100000
namespace Go.Proofs.YtmjfiffpolkdeaaGreatDoor.J
open Go Go.RowKit Go.iE Go.EV Go.EQ
structure Expr where
 Op:Int
 N:Int
 S:ak
 Key:ak
 aZ:(List Expr)
instance:Inhabited Expr:=⟨⟨0,0,[],[],[]⟩⟩
mutual
def oy:Expr->List V
 |⟨a0,a1,a2,a3,a4⟩=>[.int .i64 a0,.int .i64 a1,.str a2,.str a3,.vs 5 (yk a4)]
def yk:List Expr->List (List V)
 |[]=>[]
 |x::r=>oy x::yk r
end
def vg(x:Expr):List V:=[.int .i64 x.Op,.int .i64 x.N,.str x.S,.str x.Key,.vs 5 (yk x.aZ)]
def JP(x:Expr):oy x=vg x:=by cases x;rw[oy];rfl
def jL:∀l:List Expr,yk l=l.map vg
 |[]=>by rw[yk];rfl
 |x::r=>by rw[yk,JP,jL r];rfl
structure zx where
 X:Int
 Y:Int
 deriving Inhabited,DecidableEq
def vu(x:zx):List V:=[.int .i64 x.X,.int .i64 x.Y]
structure Def where
 aL:ak
 Body:Expr
 deriving Inhabited
def Lu(x:Def):List V:=[.str x.aL,.int .i64 x.Body.Op,.int .i64 x.Body.N,.str x.Body.S,.str x.Body.Key,.vs 5 (yk x.Body.aZ)]
structure aw where
 aL:ak
 N:Int
 deriving Inhabited,DecidableEq
def AZ(x:aw):List V:=[.str x.aL,.int .i64 x.N]
structure au where
 aL:ak
 Rows:(List aw)
 nn:Int
 deriving Inhabited,DecidableEq
def JQ(x:au):List V:=[.str x.aL,.vs 2 (cP AZ x.Rows),.int .i64 x.nn]
structure zM where
 aL:ak
 mN:Bool
 aA:(List zx)
 deriving Inhabited,DecidableEq
def VQ(x:zM):List V:=[.str x.aL,.bool x.mN,.vs 2 (cP vu x.aA)]
structure zj where
 lz:Int
 ly:Int
 ln:Int
 Den:Int
 deriving Inhabited,DecidableEq
def JR(x:zj):List V:=[.int .i64 x.lz,.int .i64 x.ly,.int .i64 x.ln,.int .i64 x.Den]
structure zd where
 aL:ak
 aB:(List ak)
 Except:(List ak)
 gY:Int
 gW:Int
 hU:Int
 gZ:Bool
 aM:Int
 Test:Expr
 zj:zj
 Uses:Int
 gS:Int
 N:Int
 deriving Inhabited
def KO(x:zd):List V:=[.str x.aL,.vs 1 (cP EV.Cf x.aB),.vs 1 (cP EV.Cf x.Except),.int .i64 x.gY,.int .i64 x.gW,.int .i64 x.hU,.bool x.gZ,.int .i64 x.aM,.int .i64 x.Test.Op,.int .i64 x.Test.N,.str x.Test.S,.str x.Test.Key,.vs 5 (yk x.Test.aZ),.int .i64 x.zj.lz,.int .i64 x.zj.ly,.int .i64 x.zj.ln,.int .i64 x.zj.Den,.int .i64 x.Uses,.int .i64 x.gS,.int .i64 x.N]
structure bD where
 aL:ak
 np:Int
 pH:Int
 aA:(List zx)
 deriving Inhabited,DecidableEq
def Lv(x:bD):List V:=[.str x.aL,.int .i64 x.np,.int .i64 x.pH,.vs 2 (cP vu x.aA)]
structure zl where
 X:Int
 Y:Int
 Z_:Int
 deriving Inhabited,DecidableEq
def kM(x:zl):List V:=[.int .i64 x.X,.int .i64 x.Y,.int .i64 x.Z_]
structure av where
 aL:ak
 iW:zl
 nB:Int
 lB:(List zl)
 deriving Inhabited,DecidableEq
def VR(x:av):List V:=[.str x.aL,.int .i64 x.iW.X,.int .i64 x.iW.Y,.int .i64 x.iW.Z_,.int .i64 x.nB,.vs 3 (cP kM x.lB)]
structure ar where
 aM:Int
 Text:ak
 N:Int
 Pos:Int
 deriving Inhabited,DecidableEq
def vv(x:ar):List V:=[.int .i64 x.aM,.str x.Text,.int .i64 x.N,.int .i64 x.Pos]
variable[JC]
def ni{a b:Prop}(h:a=b)(x:a):b:=h▸x
def Tu(n:Int):Option ak:=aN (ea (0<=n/\n<=281474976710656)) λ_=>bc []
def zVm(n:Int)(r:ak)(h:Tu n=bc r):r=[]/\mx bo 159 [.ptr 1 0 0,.int .i64 n] [(1,.box 69 [.kq,.gR])] (.gu []) [(1,sb 69 [])]:=by obtain⟨_,h1,h2⟩:=bind_some h;obtain⟨g1,g2⟩:=yD h1;cases h2;obtain⟨m,rfl⟩:=Int.eq_ofNat_of_zero_le g1;exact⟨rfl,zJp 1 m ab⟩
def De:Nat->Type
 |0=>Expr
 |1=>zx
 |2=>Def
 |3=>aw
 |4=>au
 |5=>zM
 |6=>zj
 |7=>zd
 |8=>bD
 |9=>zl
 |10=>av
 |11=>ar
 |_=>Unit
def Ig(i:Nat):(c:TC)->c.ty De->EV.Obj
 |.s,x=>sb (bif bk i 0 then 69 else 134) x
 |_,_=>.gen gone
def TS:lD where
 T:=De
 PL:=λn=>match n with
  |0=>(default:Expr)
  |1=>(default:zx)
  |2=>(default:Def)
  |3=>(default:aw)
  |4=>(default:au)
  |5=>(default:zM)
  |6=>(default:zj)
  |7=>(default:zd)
  |8=>(default:bD)
  |9=>(default:zl)
  |10=>(default:av)
  |11=>(default:ar)
  |_+12=>()
 fl:=λn=>match n with
  |0=>[.i .i64,.i .i64,.s,.s,.l (.st 0)]
  |1=>[.i .i64,.i .i64]
  |2=>[.s,.st 0]
  |3=>[.s,.i .i64]
  |4=>[.s,.l (.st 3),.i .i64]
  |5=>[.s,.b,.l (.st 1)]
  |6=>[.i .i64,.i .i64,.i .i64,.i .i64]
  |7=>[.s,.l (.s),.l (.s),.i .i64,.i .i64,.i .i64,.b,.i .i64,.st 0,.st 6,.i .i64,.i .i64,.i .i64]
  |8=>[.s,.i .i64,.i .i64,.l (.st 1)]
  |9=>[.i .i64,.i .i64,.i .i64]
  |10=>[.s,.st 9,.i .i64,.l (.st 9)]
  |11=>[.i .i64,.s,.i .i64,.i .i64]
  |_+12=>[]
 cn:=λn=>match n with
  |0=>5
  |1=>2
  |2=>6
  |3=>2
  |4=>3
  |5=>3
  |6=>4
  |7=>20
  |8=>4
  |9=>3
  |10=>6
  |11=>4
  |_+12=>0
 out:=λn=>match n with
  |0=>λx=>((x:Expr).Op,(x:Expr).N,(x:Expr).S,(x:Expr).Key,(x:Expr).aZ)
  |1=>λx=>((x:zx).X,(x:zx).Y)
  |2=>λx=>((x:Def).aL,(x:Def).Body)
  |3=>λx=>((x:aw).aL,(x:aw).N)
  |4=>λx=>((x:au).aL,(x:au).Rows,(x:au).nn)
  |5=>λx=>((x:zM).aL,(x:zM).mN,(x:zM).aA)
  |6=>λx=>((x:zj).lz,(x:zj).ly,(x:zj).ln,(x:zj).Den)
  |7=>λx=>((x:zd).aL,(x:zd).aB,(x:zd).Except,(x:zd).gY,(x:zd).gW,(x:zd).hU,(x:zd).gZ,(x:zd).aM,(x:zd).Test,(x:zd).zj,(x:zd).Uses,(x:zd).gS,(x:zd).N)
  |8=>λx=>((x:bD).aL,(x:bD).np,(x:bD).pH,(x:bD).aA)
  |9=>λx=>((x:zl).X,(x:zl).Y,(x:zl).Z_)
  |10=>λx=>((x:av).aL,(x:av).iW,(x:av).nB,(x:av).lB)
  |11=>λx=>((x:ar).aM,(x:ar).Text,(x:ar).N,(x:ar).Pos)
  |_+12=>λ_=>()
 inj:=λn=>match n with
  |0=>λx=>(⟨x.1,x.2.1,x.2.2.1,x.2.2.2.1,x.2.2.2.2⟩:Expr)
  |1=>λx=>(⟨x.1,x.2⟩:zx)
  |2=>λx=>(⟨x.1,x.2⟩:Def)
  |3=>λx=>(⟨x.1,x.2⟩:aw)
  |4=>λx=>(⟨x.1,x.2.1,x.2.2⟩:au)
  |5=>λx=>(⟨x.1,x.2.1,x.2.2⟩:zM)
  |6=>λx=>(⟨x.1,x.2.1,x.2.2.1,x.2.2.2⟩:zj)
  |7=>λx=>(⟨x.1,x.2.1,x.2.2.1,x.2.2.2.1,x.2.2.2.2.1,x.2.2.2.2.2.1,x.2.2.2.2.2.2.1,x.2.2.2.2.2.2.2.1,x.2.2.2.2.2.2.2.2.1,x.2.2.2.2.2.2.2.2.2.1,x.2.2.2.2.2.2.2.2.2.2.1,x.2.2.2.2.2.2.2.2.2.2.2.1,x.2.2.2.2.2.2.2.2.2.2.2.2⟩:zd)
  |8=>λx=>(⟨x.1,x.2.1,x.2.2.1,x.2.2.2⟩:bD)
  |9=>λx=>(⟨x.1,x.2.1,x.2.2⟩:zl)
  |10=>λx=>(⟨x.1,x.2.1,x.2.2.1,x.2.2.2⟩:av)
  |11=>λx=>(⟨x.1,x.2.1,x.2.2.1,x.2.2.2⟩:ar)
  |_+12=>λ_=>()
 enc:=λn=>match n with
  |0=>vg
  |1=>vu
  |2=>Lu
  |3=>AZ
  |4=>JQ
  |5=>VQ
  |6=>JR
  |7=>KO
  |8=>Lv
  |9=>kM
  |10=>VR
  |11=>vv
  |_+12=>λ_=>[]
 ro:=λn=>match n with
  |1=>Ie JC.CZ
  |2=>Fu JC.B_
  |3=>DY JC.C0 JC.m2
  |4=>Fv JC.B'
  |_=>.gen gone
 go:=Ig
def Ez:TS.OK where
 Fc:=λn x=>match n with
  |0=>by
   show vg x=_
   unfold vg;simp only[jL];rfl
  |1=>rfl
  |2=>rfl
  |3=>rfl
  |4=>rfl
  |5=>rfl
  |6=>rfl
  |7=>rfl
  |8=>rfl
  |9=>rfl
  |10=>rfl
  |11=>rfl
  |_+12=>rfl
 MM:=λn h=>match n with
  |0=>rfl
  |1=>rfl
  |2=>rfl
  |3=>rfl
  |4=>rfl
  |5=>rfl
  |6=>rfl
  |7=>rfl
  |8=>rfl
  |9=>rfl
  |10=>rfl
  |11=>rfl
  |_+12=>rfl
 Nk:=rfl
 Zy:=λi σ=>match i with|0=>rfl|1=>rfl|2=>rfl|3=>rfl|4=>rfl|_+5=>rfl
 P2:=λi=>match i with|0=>rfl|1=>rfl|2=>rfl|3=>rfl|4=>rfl|_+5=>rfl
 Zv:=λi k=>match i with|0=>rfl|1=>rfl|2=>rfl|3=>rfl|4=>rfl|_+5=>rfl
 len:=λn x=>match n with
  |0=>rfl
  |1=>rfl
  |2=>rfl
  |3=>rfl
  |4=>rfl
  |5=>rfl
  |6=>rfl
  |7=>rfl
  |8=>rfl
  |9=>rfl
  |10=>rfl
  |11=>rfl
  |_+12=>rfl
 one:=λn x=>match n with
  |0=>rfl
  |1=>rfl
  |2=>rfl
  |3=>rfl
  |4=>rfl
  |5=>rfl
  |6=>rfl
  |7=>rfl
  |8=>rfl
  |9=>rfl
  |10=>rfl
  |11=>rfl
  |_+12=>rfl
 refs:=λn x=>match n with
  |0=>rfl
  |1=>rfl
  |2=>rfl
  |3=>rfl
  |4=>rfl
  |5=>rfl
  |6=>rfl
  |7=>rfl
  |8=>rfl
  |9=>rfl
  |10=>rfl
  |11=>rfl
  |_+12=>rfl
 YT:=λi c x σ=>by cases c<;>rfl
 PO:=λi c x=>by cases c<;>rfl
 YR:=λi c x k=>by cases c<;>rfl
 Rk:=λi c x k=>by cases c<;>rfl
def l0(t:Nat):Option TC:=bif bk t 4 then bc (.b)else bif bk t 9 then bc (.s)else bif bk t 29 then bc (.st 0)else bif bk t 33 then bc (.st 7)else bif bk t 83 then bc (.st 11)else bif bk t 93 then bc (.st 1)else bif bk t 99 then bc (.st 2)else bif bk t 101 then bc (.st 5)else bif bk t 107 then bc (.st 4)else bif bk t 115 then bc (.st 8)else bif bk t 119 then bc (.st 9)else bif bk t 121 then bc (.st 10)else bif bk t 126 then bc (.st 3)else bh
def lI:NB:=λt=>bif bk t 29 then[(4,bd,29,.st 0)]else bif bk t 33 then[(1,bd,9,.s),(2,bd,9,.s),(12,bd,29,.st 0)]else bif bk t 36 then[(5,bd,9,.s),(6,bd,9,.s),(16,bd,29,.st 0),(28,bd,29,.st 0),(29,bd,93,.st 1)]else bif bk t 52 then[(0,bd,99,.st 2),(1,bd,107,.st 4),(2,bd,101,.st 5),(3,bd,33,.st 7),(4,bd,115,.st 8),(5,bd,121,.st 10),(6,bd,119,.st 9)]else bif bk t 99 then[(5,bd,29,.st 0)]else bif bk t 101 then[(2,bd,93,.st 1)]else bif bk t 107 then[(1,bd,126,.st 3)]else bif bk t 115 then[(3,bd,93,.st 1)]else bif bk t 121 then[(5,bd,119,.st 9)]else bif bk t 149 then[(0,bd,83,.st 11)]else bif bk t 153 then[(0,bd,83,.st 11),(2,bg,99,.st 2),(3,bg,107,.st 4),(4,bg,101,.st 5),(5,bg,33,.st 7),(6,bg,115,.st 8),(7,bg,121,.st 10),(8,bg,8000119,.st 9),(10,bg,7000000,.l (.m (.s) (.b))),(11,bg,7000000,.l (.m (.s) (.b))),(12,bg,7000000,.l (.m (.s) (.b))),(13,bg,7000000,.l (.m (.s) (.b))),(14,bg,7000000,.l (.m (.s) (.b))),(15,bg,7000000,.l (.m (.s) (.b)))]else[]
def EA:Tryz.prog.follows .mixedOrders=bg:=by kernel_rfl
variable[Fuel]
def zVn:ze bo 159:=zg (by kernel_rfl)
def JD:ze bo 26:=zg (by kernel_rfl)
def GA:ze bo 28:=zg (by kernel_rfl)
def Tv:ze bo 155:=zg (by kernel_rfl)
def fB{f:Nat}{fn:Func}{code:Code}{T:ke TS}{c:Ct TS}{h:HT TS c.co}(hf:Tryz.prog.funcs[f]?=bc fn)(hb:fn.body=bc code)(hB:ze bo f)(hT:ke.OK bo T)(hr:∀x,((mP bo fn code T l0 KK lI c [] h x).run,(mP bo fn code T l0 KK lI c [] h x).tr bg)=(c.fn x,(mP bo fn code T l0 KK lI c [] h x).tr bd)):ze bo f/\c.OK bo f:=⟨hB,Ut (T:=T) (cd:=l0) (kk:=KK) (nb:=lI) (rc:=[]) (h:=h) Ez hf hb EA hT (λx=>aQ Prod.fst (hr x)) (λx=>aQ Prod.snd (hr x))⟩
def Pw(a0:Int):Option (ak):=Tu a0
def zMo:Ct TS:=⟨[.ptr 1 0,.d (.i .i64) 0],[(1,.box 69 [.kq,.gR])],[.i .i64],.gu [],[(1,.gn 0 (.s) 1)],[.s],bd,λx=>Pw x⟩
def zQs:zMo.OK bo 159:=λx r h=>by obtain⟨h1,h2⟩:=zVm x r h;cases h1;exact ni (by kernel_rfl) h2
def yz(a0:ak)(a1:ak):Option (Int×ak):=aN (ea (bf a0+bf a1<=140737488355328)) λ_=>bc (((bf a1:Nat):Int),a0++a1)
def Yb:Ct TS:=⟨[.ptr 1 0,.d .s 1],[(1,.gn 0 (.s) 0)],[.s,.s],.gu [.d (.i .i64) 2,.lJ],[(1,.gn 0 (.s) 3)],[.i .i64,.s],bd,λx=>yz x.1 x.2⟩
def Z7:Yb.OK bo 26:=λx r h=>by obtain⟨_,h1,h2⟩:=bind_some h;cases h2;exact ni (by kernel_rfl) (XM NL 1 x.1 x.2 (yD h1))
def kN(a0:ak):Option (ak):=bc a0
def uR:Ct TS:=⟨[.ptr 1 0],[(1,.gn 0 (.s) 0)],[.s],.d .s 1,[(1,.gn 0 (.s) 0)],[.s],bd,λx=>kN x⟩
def Hu:uR.OK bo 28:=λx r h=>by
 cases h;exact ni (by kernel_rfl) (WJ (T:=69) 1 x)
def yq(c0:(List ak))(c1:ak)(c2:Int):Nat->(Int×Int)->Option (Int)
 |0,_=>bh
 |K+1,q=>(bif (decide (q.2<c2))then(idx c0 q.2).bind λx1=>(bif (decide (((bf x1:Nat):Int)>(aS (9223372036854775807-q.1))))then bh else yq c0 c1 c2 K ((aS (q.1+((bf x1:Nat):Int))),(aS (q.2+1))))else bc q.1)
def yr(c0:ak)(c1:(List ak))(c2:Int):Nat->(Int×ak)->Option (ak)
 |0,_=>bh
 |K+1,q=>(bif (decide (q.1<c2))then(idx c1 q.1).bind λx1=>aN (yz q.2 c0) λx2=>aN (yz x2.2 x1) λx3=>yr c0 c1 c2 K ((aS (q.1+1)),x3.2)else bc q.2)
def qo(elems:(List ak))(sep:ak):Option (ak):=(bif (decide (((bf elems:Nat):Int)=0))then bc ([]:ak)else(bif (decide (((bf elems:Nat):Int)=1))then(idx elems 0).bind λx1=>bc x1 else((bif (decide (((bf sep:Nat):Int)>0))then(ea ((aS (((bf elems:Nat):Int)-1))≠0)).bind λ_=>(bif (decide (((bf sep:Nat):Int)>=(aS (Int.tdiv 9223372036854775807 (aS (((bf elems:Nat):Int)-1))))))then bh else bc (aS (0+(aS (((bf sep:Nat):Int)*(aS (((bf elems:Nat):Int)-1)))))))else bc 0)).bind λx2=>aN (yq elems sep ((bf elems:Nat):Int) KK (x2,0)) λx4=>aN (Pw x4) λx5=>aN (idx elems 0) λx6=>aN (yz x5 x6) λx7=>aN (cut elems 1 ((bf elems:Nat):Int)) λx8=>aN (yr sep x8 ((bf x8:Nat):Int) KK (0,x7.2)) λx9=>aN (kN x9) λgw=>bc gw))
def ze2:Ct TS:=⟨[.d (.l (.s)) 0,.d .s 1],[],[.l (.s),.s],.d .s 2,[],[.s],bd,λx=>qo x.1 x.2⟩
def zb7:ze bo 155/\ze2.OK bo 155:=fB (T:=[(159,zMo),(26,Yb),(28,uR)]) (h:=.s .n (.s .n (.s .n (.s (.j ⟨[(0,.d (.l (.s)) 0),(1,.d .s 1),(5,.d (.i .i64) 2)],[],[.l (.s),.s],[.i .i64]⟩ bd .n) (.s (.s .n (.s (.l ⟨[(0,.d (.l (.s)) 0),(1,.d .s 1),(5,.d (.i .i64) 3),(39,.d (.l (.s)) 0),(40,.d (.i .i64) 2),(41,.d (.i .i64) 4)],[],[.l (.s),.s,.i .i64],[.i .i64,.i .i64]⟩ [(0,.d (.l (.s)) 0),(1,.d .s 1),(5,.d (.i .i64) 3)] [] [.i .i64] 1 (λx K v=>yq x.1 x.2.1 x.2.2 K v) .n) .n)) (.s .n (.s .n (.s .n (.s (.s .n (.s (.l ⟨[(1,.d .s 0),(8,.ptr 1000008 0),(63,.d (.l (.s)) 1),(64,.d (.i .i64) 2),(65,.d (.i .i64) 3)],[(1000008,.gn 0 (.s) 4)],[.s,.l (.s),.i .i64],[.i .i64,.s]⟩ [(8,.ptr 1000008 0)] [(1000008,.gn 0 (.s) 3)] [.s] 3 (λx K v=>yr x.1 x.2.1 x.2.2 K v) .n) .n)) .n))))))))) Tryz.func155 rfl Tv ⟨⟨zVn,zQs⟩,⟨JD,Z7⟩,⟨GA,Hu⟩,trivial⟩ λx=>by kernel_rfl
def zVo(l:List ak)(sep:ak)(r:ak)(h:qo l sep=bc r):mx bo 155 [.vs 1 (l.map EV.Cf),.str sep] [] (.str r) []:=ni (by kernel_rfl) (zb7.2 (l,sep) r h)
end Go.Proofs.YtmjfiffpolkdeaaGreatDoor.J
namespace Go.Proofs.YtmjfiffpolkdeaaGreatDoor
open Go Go.RowKit
def zx7(p q:Addr)(w:bE):
  CallsD bo 166 #[.pointer (bc p),.pointer (bc q)] .returning w λe u' w'=>e=.returned (.tuple #[])/\u'=.returning/\w'=w:=by
 refine callsD_of_wpS Tryz.func166 rfl λaaR cs hu=>?_
 apply wpS_seq;apply wpS_region;simp[wpOpsS,go_sem,recoverD,hu,Tryz.ntmps166,Exit.thenS];apply wpS_seq;apply wpS_region;simp[wpOpsS,go_sem,Exit.thenS];refine wpS_cond (t:=bd) (by simp[Act.eval,fh]) ?_;simp only[cr,if_false];refine wpS_of_wp (wp_skip ?_);cases aaR
 simp_all [bodyPostS,results,Tryz.results166]
def aks(v:bu)(w:bE):(Instr.typeAssert (.iface 252 v) 20 252 bg).run bo w=.ok (.tuple #[v,.bool bg]) w:=by kernel_rfl
set_option maxHeartbeats 4000000 in
set_option maxRecDepth 1000000 in
theorem zCz(p q:Addr)(x y:Int)(cp aaQ:bu)(w:bE)(hp:w.cell? p=bc cp)(hq:w.cell? q=bc aaQ)(afP:w.frozen? p=bd)(afQ:w.frozen? q=bd)(hpq:p.block≠q.block)(lp:p.block<w.heap.size)(lq:q.block<w.heap.size):
  CallsD bo 166 #[.pointer (bc p),.pointer (bc q)] (.panicking [{ v:=.iface 252 (.agg #[.int .i64 x,.int .i64 y]),recovered:=bd }]) w λe u' w' =>
   e=.returned (.tuple #[])/\u'=.panicking [{ v:=.iface 252 (.agg #[.int .i64 x,.int .i64 y]),recovered:=bg }] /\
   w'=(((w.alloc (.cells #[.int .i64 x,.int .i64 y] 252)).setCell p (.int .i64 x)).setCell q (.int .i64 y)).drew:=by
 refine callsD_of_wpS Tryz.func166 rfl λaaR cs hu=>?_
 apply wpS_seq;apply wpS_region;simp[wpOpsS,go_sem,recoverD,hu,Tryz.ntmps166,Exit.thenS];apply wpS_seq;apply wpS_region;simp[wpOpsS,go_sem,Exit.thenS];refine wpS_cond (t:=bg) (by simp[Act.eval,fh]) ?_;simp only[if_true];apply wpS_seq;apply wpS_region;simp[wpOpsS,go_sem,Exit.thenS,aks];apply wpS_seq;apply wpS_seq;apply wpS_region;simp[wpOpsS,go_sem,Exit.thenS];refine wpS_cond (t:=bd) (by simp[Act.eval,fh]) ?_;simp only[cr,if_false];refine wpS_of_wp (wp_skip ?_);simp only[Exit.thenS];refine wpS_of_wp ?_;have mixed:=YN
 have a1:∀o:Obj,(w.alloc o).heap[p.block]?=w.heap[p.block]?:=λo=>Lib.alloc_old w o p.block lp
 have a2:∀o:Obj,(w.alloc o).heap[q.block]?=w.heap[q.block]?:=λo=>Lib.alloc_old w o q.block lq
 have c1:∀o:Obj,(w.alloc o).drew.cell? p=bc cp:=λo=>by rw[<- hp];unfold World.cell?;rw[show(w.alloc o).drew.heap=(w.alloc o).heap from rfl,a1]
 have z1:∀o:Obj,(w.alloc o).frozen? p=bd:=λo=>by rw[<- afP];unfold World.frozen?;rw[a1]
 have c2:∀o:Obj,((w.alloc o).setCell p (.int .i64 x)).cell? q=bc aaQ:=λo=>by rw[<- hq];unfold World.cell?;rw[Below.heap_setCell _ _ _ _ (λe=>hpq e.symm),a2]
 have z2:∀o:Obj,((w.alloc o).setCell p (.int .i64 x)).frozen? q=bd:=λo=>by rw[<- afQ];unfold World.frozen?;rw[Below.heap_setCell _ _ _ _ (λe=>hpq e.symm),a2]
 have c3:((w.alloc (.cells #[.int .i64 x,.int .i64 y] 252)).setCell p (.int .i64 x)).cell? ⟨w.heap.size,1,bh⟩=bc (.int .i64 y):=by unfold World.cell?;rw[Below.heap_setCell _ _ _ _ (λe=>by simp only at e;omega)];rw[World.alloc_heap_new];rfl
 simp[fh]
 go_region_o
 all_goals simp[bodyPostS,results,Tryz.results166]
def zC0{w1:bE}{n:Nat}(h1:w1.heap[n]?=bc (.cells #[.int .i64 0] 3))(h2:w1.heap[n+1]?=bc (.cells #[.int .i64 0] 37))(x y:bu):
  w1.cell? ⟨n,0,bh⟩=bc (.int .i64 0)/\(w1.setCell ⟨n,0,bh⟩ x).cell? ⟨n+1,0,bh⟩=bc (.int .i64 0)/\w1.frozen? ⟨n,0,bh⟩=bd/\(w1.setCell ⟨n,0,bh⟩ x).frozen? ⟨n+1,0,bh⟩=bd /\
  ((w1.setCell ⟨n,0,bh⟩ x).setCell ⟨n+1,0,bh⟩ y).cell? ⟨n,0,bh⟩=bc x/\((w1.setCell ⟨n,0,bh⟩ x).setCell ⟨n+1,0,bh⟩ y).cell? ⟨n+1,0,bh⟩=bc y:=by
 have e2:(w1.setCell ⟨n,0,bh⟩ x).heap[n+1]?=bc (.cells #[.int .i64 0] 37):=(Below.heap_setCell _ _ _ _ (λe=>by simp at e)).trans h2
 have e1:(w1.setCell ⟨n,0,bh⟩ x).heap[n]?=bc (.cells #[x] 3):=by simp[World.setCell,dm,h1]
 have e3:((w1.setCell ⟨n,0,bh⟩ x).setCell ⟨n+1,0,bh⟩ y).heap[n+1]?=bc (.cells #[y] 37):=by rw[show ∀W:bE,(W.setCell ⟨n+1,0,bh⟩ y).heap[n+1]?=W.heap[n+1]?.map λo=>match o with|.cells c t r=>.cells (c.setIfInBounds 0 y) t r|o=>o from λW=>by simp[World.setCell,dm];rfl,e2];rfl
 refine⟨by rw[Lib.cell_of_heap h1];rfl,by rw[Lib.cell_of_heap e2];rfl,Lib.frozen_of_heap h1 0,Lib.frozen_of_heap e2 0,?_,by rw[Lib.cell_of_heap e3];rfl⟩;unfold World.cell?;rw[Below.heap_setCell _ _ _ _ (λe=>by simp at e),e1];rfl
def zQt{w1:bE}{n:Nat}(h1:w1.heap[n]?=bc (.cells #[.int .i64 0] 3))(h2:w1.heap[n+1]?=bc (.cells #[.int .i64 0] 37))(o:Obj):
  n<w1.heap.size/\n+1<w1.heap.size/\w1.cell? ⟨n,0,bh⟩=bc (.int .i64 0)/\w1.cell? ⟨n+1,0,bh⟩=bc (.int .i64 0)/\w1.frozen? ⟨n,0,bh⟩=bd/\w1.frozen? ⟨n+1,0,bh⟩=bd /\
  (w1.alloc o).heap[n]?=bc (.cells #[.int .i64 0] 3)/\(w1.alloc o).heap[n+1]?=bc (.cells #[.int .i64 0] 37):=by have l2:n+1<w1.heap.size:=(Array.getElem?_eq_some_iff.1 h2).1;have l1:n<w1.heap.size:=Nat.lt_of_succ_lt l2;exact⟨l1,l2,by rw[Lib.cell_of_heap h1];rfl,by rw[Lib.cell_of_heap h2];rfl,Lib.frozen_of_heap h1 0,Lib.frozen_of_heap h2 0,(Lib.alloc_old w1 o n l1).trans h1,(Lib.alloc_old w1 o _ l2).trans h2⟩
def zQu(pv a:bu)(w:bE)(Q:bE->Prop)
  (ζ:Calls bo 75 #[a] ((w.alloc (.cells #[.int .i64 0] 3)).alloc (.cells #[.int .i64 0] 37)) λe w'=>e=.returned (.tuple #[])/\w'.heap[w.heap.size]?=bc (.cells #[.int .i64 0] 3)/\w'.heap[w.heap.size+1]?=bc (.cells #[.int .i64 0] 37)/\Q w'):
  Calls bo 74 #[pv,.func (.func 75) #[a] #[]] w λe w'=>e=.returned (.tuple #[.int .i64 0,.int .i64 0])/\∃w1,w1.heap[w.heap.size]?=bc (.cells #[.int .i64 0] 3)/\w1.heap[w.heap.size+1]?=bc (.cells #[.int .i64 0] 37)/\Q w1/\w'=(w1.setCell ⟨w.heap.size,0,bh⟩ (.int .i64 0)).setCell ⟨w.heap.size+1,0,bh⟩ (.int .i64 0):=by
 have hmf:∀(fn:Fn)(first cap:Array bu)(w:bE),(Instr.makeFunc fn first cap).run bo w=.ok (.func fn first cap) w:=λ_ _ _ _=>rfl
 go_enter_defers Tryz.func74,Tryz.ntmps74
 go_wp2_with (go_at_call 75;refine ζ.mono ?_;rintro e w1 ⟨rfl,h1,h2,hQ⟩;obtain⟨c1,c2,z1,z2,d1,d2⟩:=zC0 h1 h2 (.int .i64 0) (.int .i64 0))
 refine leaves_cons (f:=166) (args:=#[.pointer (bc ⟨w.heap.size,0,bh⟩),.pointer (bc ⟨w.heap.size+1,0,bh⟩)]) af (by simp[go_sem]) ?_;refine(zx7 ⟨w.heap.size,0,bh⟩ ⟨w.heap.size+1,0,bh⟩ _).mono ?_;rintro e u' rF ⟨rfl,rfl,rfl⟩;simp[Leaves,settle,results,Tryz.results74,go_sem,d1,d2];exact⟨w1,h1,h2,hQ,rfl⟩
def zJq(pv a:bu)(x y:Int)(w:bE)(Q:bE->Prop)
  (ζ:Calls bo 75 #[a] ((w.alloc (.cells #[.int .i64 0] 3)).alloc (.cells #[.int .i64 0] 37)) λe w'=>e=.panicked [{ v:=.iface 252 (.agg #[.int .i64 x,.int .i64 y]),recovered:=bd }]/\w'.heap[w.heap.size]?=bc (.cells #[.int .i64 0] 3)/\w'.heap[w.heap.size+1]?=bc (.cells #[.int .i64 0] 37)/\Q w'):
  Calls bo 74 #[pv,.func (.func 75) #[a] #[]] w λe w'=>e=.returned (.tuple #[.int .i64 x,.int .i64 y])/\∃w1,w1.heap[w.heap.size]?=bc (.cells #[.int .i64 0] 3)/\w1.heap[w.heap.size+1]?=bc (.cells #[.int .i64 0] 37)/\Q w1/\w'=(((w1.alloc (.cells #[.int .i64 x,.int .i64 y] 252)).setCell ⟨w.heap.size,0,bh⟩ (.int .i64 x)).setCell ⟨w.heap.size+1,0,bh⟩ (.int .i64 y)).drew:=by
 have hmf:∀(fn:Fn)(first cap:Array bu)(w:bE),(Instr.makeFunc fn first cap).run bo w=.ok (.func fn first cap) w:=λ_ _ _ _=>rfl
 go_enter_defers Tryz.func74,Tryz.ntmps74
 go_wp2_with (go_at_call 75;refine ζ.mono ?_;rintro e w1 ⟨rfl,h1,h2,hQ⟩)
 obtain⟨l1,l2,c1,c3,z1,z3,a1,a2⟩:=zQt h1 h2 (.cells #[.int .i64 x,.int .i64 y] 252);obtain⟨_,_,_,_,d1,d2⟩:=zC0 a1 a2 (.int .i64 x) (.int .i64 y);refine leaves_cons (f:=166) (args:=#[.pointer (bc ⟨w.heap.size,0,bh⟩),.pointer (bc ⟨w.heap.size+1,0,bh⟩)]) af (by simp[go_sem]) ?_;refine(zCz ⟨w.heap.size,0,bh⟩ ⟨w.heap.size+1,0,bh⟩ x y (.int .i64 0) (.int .i64 0) _ c1 c3 z1 z3 af l1 l2).mono ?_;rintro e u' rF ⟨rfl,rfl,rfl⟩;simp[Leaves,settle,results,Tryz.results74,go_sem,d1,d2];exact⟨w1,h1,h2,hQ,rfl⟩
open Go.iE Go.EV Go.EQ in
theorem WY{m:M}{Z:ZM}{F:ax}{w w':bE}(hs:wo m Z F w)(h1:∀p∈F,∀b,fD m p b->w'.heap[b]?=w.heap[b]?)(h2:∀a x,Z a=bc x->w'.heap[a.block]?=w.heap[a.block]?):wo m Z F w':=⟨λa x ha=>(by simp only[World.cell?,h2 a x ha]:w'.cell? a=w.cell? a).trans (hs.frozen a x ha),λp hp=>(hs.holds p hp).keep (λ_ _ _ e=>e) rfl (λ_ _ e=>e) λb hb=>⟨h1 p hp b hb,λ_ _ e _=>e⟩,hs.nodup,hs.nW⟩
open Go.iE Go.EV Go.EQ in
theorem zuj{m m':M}{Z Z':ZM}{F F':ax}{w w2 w1 w3:bE}{c:Nat}(h0:wo m Z F w)(h2:Step m Z F w2 m' Z' F' w1)(s2:w.heap.size+c<=w2.heap.size)
  (o2:w2.os=w.os) (t2:w2.tape=w.tape) (u2:w2.output=w.output) (e2:∀b,b<w.heap.size->w2.heap[b]?=w.heap[b]?) (o3:w3.os=w1.os) (t3:w3.tape=w1.tape) (u3:w3.output=w1.output)
  (s3:w1.heap.size<=w3.heap.size) (e3:∀b,b<w1.heap.size->(b<w.heap.size∨w.heap.size+c<=b)->w3.heap[b]?=w1.heap[b]?):Step m Z F w m' Z' F' w3:=by
 have hold:∀q∈F,∀b,fD m q b->b<w.heap.size:=λq hq b hb=>(h0.holds q hq).fD b hb
 have gp:=h2.size
 have iO:∀a x,Z' a=bc x->a.block<w.heap.size∨w.heap.size+c<=a.block:=λa x ha=>by
  rcases h2.mB a x ha with h|h|⟨q,hq,hb⟩
  .exact .inl (World.block_lt_of_cell? w a (h0.frozen a x h))
  .exact .inr (cR s2 h)
  .exact .inl (hold q hq _ hb)
 refine⟨WY h2.gy (λp hp b hb=>e3 b ((h2.gy.holds p hp).fD b hb) ?_) (λa x ha=>e3 a.block (World.block_lt_of_cell? w1 a (h2.gy.frozen a x ha)) (iO a x ha)),h2.mM,h2.lR,o3.trans (h2.os.trans o2),t3.trans (h2.tape.trans t2),u3.trans (h2.output.trans u2),ab,λb hb hn=>?_,h2.keep,h2.pT,λp hp b hb=>?_,λa x ha=>?_⟩
 .rcases h2.mn p hp b hb with h|⟨q,hq,hb⟩
  .exact .inr (cR s2 h)
  .exact .inl (hold q hq _ hb)
 .exact(e3 b ab (.inl hb)).trans ((h2.frame b ab hn).trans (e2 b hb))
 .exact(h2.mn p hp b hb).imp (λh=>ab) id
 .exact(h2.mB a x ha).imp id (Or.imp (λh=>ab) id)
def uS(w:bE)(o o':Obj)(b:Nat)(hb:b<w.heap.size):((w.alloc o).alloc o').heap[b]?=w.heap[b]?:=
 (Lib.alloc_old _ o' b (by rw[show(w.alloc o).heap.size=w.heap.size+1 from fi _];omega)).trans (Lib.alloc_old w o b hb)
def zb8(w:bE)(o o':Obj):((w.alloc o).alloc o').heap.size=w.heap.size+2:=by rw[show((w.alloc o).alloc o').heap.size=(w.alloc o).heap.size+1 from fi _,show(w.alloc o).heap.size=w.heap.size+1 from fi _]
def KP(w:bE)(o o':Obj):((w.alloc o).alloc o').heap[w.heap.size]?=bc o/\((w.alloc o).alloc o').heap[w.heap.size+1]?=bc o':=by have h:(w.alloc o).heap.size=w.heap.size+1:=fi _;exact⟨(Lib.alloc_old _ o' _ ab).trans (World.alloc_heap_new w o),by rw[<- h];exact World.alloc_heap_new _ o'⟩
open Go.iE Go.EV Go.EQ in
open Go.iE Go.EV Go.EQ in
open Go.iE Go.EV Go.EQ in
theorem zro{F F':ax}{pv a:V}(h:mx bo 75 [a] F (.gu []) F'):mx bo 74 [pv,.fn 75 [a] []] F (.gu [.int .i64 0,.int .i64 0]) F':=by
 intro w m Z vals hs hv sQ;obtain⟨p,xs,rfl,hp,hv⟩:=hv;obtain⟨q,ys,rfl,⟨l1,l2,rfl,r1,r2⟩,hv⟩:=hv;cases hv;cases r2;obtain⟨x1,_,rfl,k1,e⟩:=r1;cases e;have lu:wo m Z F ((w.alloc (.cells #[.int .i64 0] 3)).alloc (.cells #[.int .i64 0] 37)):=WY hs (λp hp b hb=>uS _ _ _ _ ((hs.holds p hp).fD b hb)) (λa x ha=>uS _ _ _ _ (World.block_lt_of_cell? w a (hs.frozen a x ha)));have gp:=zb8 w (.cells #[.int .i64 0] 3) (.cells #[.int .i64 0] 37)
 have B0:∀b,w.heap.size<=b->∀p∈F,¬fD m p b:=λb hb p hp h=>aU ((hs.holds p hp).fD b h) ab
 have hr:=h _ m Z _ lu ⟨x1,_,rfl,k1,rfl⟩ sQ;refine Calls.mono (zQu p x1 w (λw1=>∃m' Z',Step m Z F ((w.alloc (.cells #[.int .i64 0] 3)).alloc (.cells #[.int .i64 0] 37)) m' Z' F' w1) (Calls.mono hr ?_)) ?_
 .rintro en w1 ⟨x,m',Z',rfl,st,l,rfl,hl⟩;cases hl;exact⟨rfl,(st.frame _ ab (B0 _ aq)).trans (KP w _ _).1,(st.frame _ ab (B0 _ ab)).trans (KP w _ _).2,_,_,st⟩
 .rintro en w3 ⟨rfl,w1,h1,h2,⟨m',Z',st⟩,rfl⟩;refine⟨_,m',Z',rfl,zuj (c:=2) hs st ab rfl rfl rfl (λb hb=>uS _ _ _ _ hb) rfl rfl rfl ?_ ?_,[.int .i64 0,.int .i64 0],rfl,_,_,rfl,rfl,_,_,rfl,rfl,rfl⟩
  .simp[World.setCell]
  .intro b hb hor;rw[Below.heap_setCell _ _ _ _ (λe=>by simp only at e;omega),Below.heap_setCell _ _ _ _ (λe=>by simp only at e;omega)]
open Go.iE Go.EV Go.EQ in
theorem zm8{F:ax}{pv a:V}{x y:Int}(h:Ff bo 75 [a] F (.iface 252 (.agg #[.int .i64 x,.int .i64 y]))):mx bo 74 [pv,.fn 75 [a] []] F (.gu [.int .i64 x,.int .i64 y]) (Dp F):=by
 intro w m Z vals hs hv sQ;obtain⟨p,xs,rfl,hp,hv⟩:=hv;obtain⟨q,ys,rfl,⟨l1,l2,rfl,r1,r2⟩,hv⟩:=hv;cases hv;cases r2;obtain⟨x1,_,rfl,k1,e⟩:=r1;cases e;have lu:wo m Z F ((w.alloc (.cells #[.int .i64 0] 3)).alloc (.cells #[.int .i64 0] 37)):=WY hs (λp hp b hb=>uS _ _ _ _ ((hs.holds p hp).fD b hb)) (λa x ha=>uS _ _ _ _ (World.block_lt_of_cell? w a (hs.frozen a x ha)));have gp:=zb8 w (.cells #[.int .i64 0] 3) (.cells #[.int .i64 0] 37)
 have B0:∀b,w.heap.size<=b->∀p∈F,¬fD m p b:=λb hb p hp h=>aU ((hs.holds p hp).fD b h) ab
 have hr:=h _ m Z _ lu ⟨x1,_,rfl,k1,rfl⟩ sQ;refine Calls.mono (zJq p x1 x y w (λw1=>∃m' Z',Step m Z F ((w.alloc (.cells #[.int .i64 0] 3)).alloc (.cells #[.int .i64 0] 37)) m' Z' (Dp F) w1) (Calls.mono hr ?_)) ?_
 .rintro en w1 ⟨rfl,Z',lo⟩;have st:=lo.step lu;exact⟨rfl,(st.frame _ ab (B0 _ aq)).trans (KP w _ _).1,(st.frame _ ab (B0 _ ab)).trans (KP w _ _).2,_,_,st⟩
 .rintro en w3 ⟨rfl,w1,h1,h2,⟨m',Z',st⟩,rfl⟩;refine⟨_,m',Z',rfl,zuj (c:=2) hs st ab rfl rfl rfl (λb hb=>uS _ _ _ _ hb) rfl rfl rfl ?_ ?_,[.int .i64 x,.int .i64 y],rfl,_,_,rfl,rfl,_,_,rfl,rfl,rfl⟩
  .have hsa:(w1.alloc (.cells #[.int .i64 x,.int .i64 y] 252)).heap.size=w1.heap.size+1:=fi _;simp[World.setCell]
  .intro b hb hor
   show(World.setCell (World.setCell _ _ _) _ _).heap[b]?=_
   rw[Below.heap_setCell _ _ _ _ (λe=>by simp only at e;omega),Below.heap_setCell _ _ _ _ (λe=>by simp only at e;omega)];exact Lib.alloc_old _ _ _ hb
end Go.Proofs.YtmjfiffpolkdeaaGreatDoor
