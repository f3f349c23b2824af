/- texts that the proof reaches, part 7 -/
import Derived.Test.YtffencjoddkghaaGreatDoorKf
import Derived.Lib.MakeNoZero
import Derived.Defers
import Derived.Recover
import Derived.Laws.Pointers
set_option linter.all false
open Array renaming getElem?_modify->dh,size_push->ew,replicate->eJ
open Bool renaming false->bd,true->bf,false_eq_true->cF
open Go renaming Program->bm,Value->bu,World->bG,TypeId->bJ,Deferred->cb
open Go.Proofs.Tryz renaming prog->bq,underlying106->dc
open List renaming length->bg,nodup_cons->cG,size_toArray->cN,map->cX
open Nat renaming beq->bk,zero_le->cj,ble->cm,le_trans->cW,le_of_eq->eE
open Option renaming bind->aN,some->bc,none->bh
namespace Go.EQ
open Go Go.RowKit Go.Eng Go.EV
def FnD(P:bm)(f:FuncId)(args:List V)(F:ax)(r:V)(F':ax):Prop :=
 ∀w m Z vals u,wQ m Z F w->zT (bc m) Z args vals ->
  CallsDIn Fence.wide 0 P f vals.toArray u w λen u' w'=>u'=u/\∃x m' Z',en=.returned x/\Step m Z F w m' Z' F' w'/\Rep (bc m') Z' r x
def znk(l:List (Nat⊕cb)):List Nat:=l.filterMap Sum.getLeft?
def znl(l:List (Nat⊕cb)):List cb:=l.filterMap Sum.getRight?
def unS(l:List (Nat⊕cb)):List cb:=l.map (Sum.elim Eng.mark id)
section
variable{K0:List Nat}{c:Ctx K0}{P:bm}{fn:Func}{tmps:Array bu}{R:Ending->bG->Prop}
def znm{m:M}{Z:ZM}{H:ax}{w:bG}{D:Nat}(h3:w.heap[D]?=bc (.deferred (bc [])))(h4:c.W0.heap.size<=D)(S:Vu c m Z H w):Vu c m Z H (w.putObj D (.deferred bh)) :=
 S.lps (row:=bc D) (Eng.Vf w D _) λb e=>by cases e;exact⟨h4,_,h3,rfl⟩
def zgu{w:bG}{D:Nat}{l:List Nat}(hn:D ∉ l)(h:∀D'∈l,w.heap[D']?=bc (.deferred (bc []))/\c.W0.heap.size<=D'):∀D'∈l,(w.putObj D (.deferred bh)).heap[D']?=bc (.deferred (bc []))/\c.W0.heap.size<=D':=λD' hD'=>by
 obtain⟨h7,h8⟩:=h D' hD';exact⟨(World.putObj_heap_other (λe=>hn (by first|(rw[<- e];exact hD')|(rw[e];exact hD')))).trans h7,h8⟩
def KV{m:M}{Z:ZM}{H:ax}:∀(l:List (Nat⊕cb))(w:bG),znl l=[]->(znk l).Nodup->(∀D∈znk l,w.heap[D]?=bc (.deferred (bc []))/\c.W0.heap.size<=D)->Vu c m Z H w ->
  (∀w2,Vu c m Z H w2->∃v,(results fn tmps).run P w2=.ok v w2/\R (.returned v) w2)->LeavesInM Fence.wide 0 P fn tmps R (unS l) .returning w
 |[],w,_,_,_,S,h=>h w S
 |.inl D::l,w,hr,hn,hD,S,h=>by
  have hn':D ∉ znk l/\(znk l).Nodup:=cG.1 hn;obtain⟨h3,h4⟩:=hD D al;exact⟨af,.inl ⟨D,_,rfl,run_takeDeferred h3,KV l _ hr hn'.2 (zgu hn'.1 λD' hD'=>hD D' (mcQ _ hD')) (znm h3 h4 S) h⟩⟩
 |.inr d::l,w,hr,_,_,_,_=>by simp[znl]at hr
def zgv{m:M}{Z:ZM}{H:ax}{fv:FuncId}{dargs:List bu}(hnr:∀w,(callFunc fv dargs.toArray).run P w=.ok (.enter fv dargs.toArray) w)
  (hcall:∀w,Vu c m Z H w->CallsDIn Fence.wide 0 P fv dargs.toArray .returning w λen u' w'=>u'=.returning/\∃x m' Z' H',en=.returned x/\Step m Z H w m' Z' H' w'/\Vu c m' Z' H' w'/\∀w2,Vu c m' Z' H' w2->∃v,(results fn tmps).run P w2=.ok v w2/\R (.returned v) w2):
  ∀(l:List (Nat⊕cb))(w:bG),znl l=[{ target:=.fn (.func fv) #[],args:=dargs.toArray }]->(znk l).Nodup->(∀D∈znk l,w.heap[D]?=bc (.deferred (bc []))/\c.W0.heap.size<=D)->Vu c m Z H w ->
  LeavesInM Fence.wide 0 P fn tmps R (unS l) .returning w
 |[],w,hr,_,_,_=>by cases hr
 |.inl D::l,w,hr,hn,hD,S=>by
  have hn':D ∉ znk l/\(znk l).Nodup:=cG.1 hn;obtain⟨h3,h4⟩:=hD D al;exact⟨af,.inl ⟨D,_,rfl,run_takeDeferred h3,zgv hnr hcall l _ hr hn'.2 (zgu hn'.1 λD' hD'=>hD D' (mcQ _ hD')) (znm h3 h4 S)⟩⟩
 |.inr d::l,w,hr,hn,hD,S=>by
  have hr':d={ target:=.fn (.func fv) #[],args:=dargs.toArray }/\znl l=[]:=by
   have:d::znl l=[{ target:=.fn (.func fv) #[],args:=dargs.toArray }]:=hr;simp only[List.cons.injEq]at this;exact this
  obtain⟨rfl,hr0⟩:=hr';refine⟨af,.inr ⟨λhx=>by simp[Fence.wide]at hx,.func fv,#[],fv,dargs.toArray,rfl,?_,λ_ _=>trivial,?_⟩⟩
  ·show(callFunc fv (dargs.toArray++#[])).run P w=_
   rw[Array.append_empty];exact hnr w
  ·refine(hcall w S).mono ?_
   rintro en u' w' ⟨rfl,x,m',Z',H',rfl,st,S',hfin⟩;exact KV l w' hr0 hn (λD hD'=>⟨st.lp S.step.sim (hD D hD').1 rfl,(hD D hD').2⟩) S' hfin
def YY{T:Tab}{X:Cx T}{cc:Ctx X.K0}(hS:T.OK)(hT:CtT.OK X.P X.T)(hTP:X.POK)(hm:X.P.follows .mixedOrders=bf){h:HT T X.rT.vs}{code:Code}{R:Type}{kn:AE T.T->AH T.T->Pg R}{E:AE T.T}{H:AH T.T}{r:R}{Q:zak}
  (hI:(wrap X h (ev X code) R bh kn (λ_ _ _=>.fail) E H).Is r)
  (hn:∀E' H',(kn E' H').Is r->∀ρr w ds,QB cc (eV E') (hV H') ρr w->xw cc ds w->Q .normal ρr ds w):
  ∀ρr w ds,QB cc (eV E) (hV H) ρr w->xw cc ds w->Wp X.P bh X.N code Q ρr ds w:=by
 intro ρr w ds SA hM
 have h1:WpV cc X.P bh X.N code (λe ρ H _=>e=.normal/\∀ρr w ds,QB cc ρ H ρr w->xw cc ds w->Q .normal ρr ds w) (eV E) (hV H) [] :=
  wY (X:=X) (c:=cc) hS (oP hS hT hTP hm code) h R bh kn (λ_ _ _=>.fail) E H r _ hI (λE' H' g=>⟨rfl,hn E' H' g⟩) (λ_ _ _ g=>(Is.fail g).elim) (λq i e _=>by cases e)
 refine zly (h1 ρr w ds SA hM) ?_;rintro e ρr' ds' w' ⟨ρ,H',SA',hM',rfl,h2⟩;exact h2 _ _ _ SA' hM'
end
section
variable{S:Tab}
abbrev zI9(S:Tab):=(c:TC)->Nat->c.ty S.T->Option (c.ty S.T)
def zVq(X:Cx S)(D:zI9 S)(k:Nat)(E:AE S.T)(H:AH S.T):Pg (HL S.T X.rT.vs):=match H.get k with
 |some (.gn i c s)=>.bnd (D c i s) λs'=>zjg X.rT X.K0 E (ZB H [(k,.gn i c s')]) X.x λv=>.ret (bc v)
 |_=>.fail
def evW(X:Cx S)(r0 r1 r2:Code)(tc:Nat)(r3:Code)(d1:Nat)(B:Code)(D:zI9 S)(k0:Nat)(hB hB':HT S X.rT.vs)(E:AE S.T)(H:AH S.T):Pg (HL S.T X.rT.vs) :=
 wrap X .n (ev X r0) _ bh (λE H=>wrap X .n (ev X r1) _ bh (λE H=>wrap X .n (ev X r2) _ bh (λE H=>match evA E (.tmp tc)with
  |.dat .b b=>.cnd b
   (wrap X .n (ev X r3) _ bh (λE H=>match evA E (.tmp 0)with
    |.raw (.ptr k 0 0)=>bif bk k k0&&cm (d1+1) X.N then
      wrap X hB (ev X B) _ bh (λE H=>zVq X D k0 E H) (λ_ _ _=>.fail) ((d1,.raw (.ptr k0 0 0))::E) H else .fail
    |_=>.fail) (λ_ _ _=>.fail) E H)
   (wrap X hB' (ev X B) _ bh (λE H=>zjg X.rT X.K0 E H X.x λv=>.ret (bc v)) (λ_ _ _=>.fail) E H)
  |_=>.fail) (λ_ _ _=>.fail) E H) (λ_ _ _=>.fail) E H) (λ_ _ _=>.fail) E H
def zQz{P:bm}{N:Nat}{Q:zak}{ρr:yL}{ds:List cb}{w:bG}{id d1 f:Nat}{sc:bu}{ty1 ty2:bJ}{pos1 pos2:String}{aft1 aft2:Array Edge}{ts:Array bJ}(hd:d1<N)
  (h:Q .normal (upd ρr d1 (ρr 0)) ({ target:=.fn (.func f) #[],args:=#[ρr 0,sc] }::ds) w):
  Wp P bh N (.region id #[⟨bc d1,.move (.tmp 0),ty1,pos1,aft1,bh⟩,⟨bh,.defer ⟨.value (.func f),#[.tmp d1,.const sc],ts⟩,ty2,pos2,aft2,bh⟩] bd) Q ρr ds w:=by
 refine ztc (l:=[_,_]) λa n hf=>?_
 have h1:=hf.put hd (ρr 0);have e1:a.eval=Eng.ev ρr:=hf.eval;have e2:(a.put (bc d1) (ρr 0)).eval=Eng.ev (upd ρr d1 (ρr 0)):=h1.eval;simp only[wpListIn,Region.wanted,if_true];refine⟨λ_ _=>trivial,?_⟩;rw[Ax ai,e1]
 show Oper.uponIn _ _ _ _ _ _ _ (.ok (.value (ρr 0)) w)
 rw[Oper.uponIn_value];refine⟨λ_ _=>trivial,?_⟩;rw[show(Fw bh).round=bh from rfl,Oper.semAt_none,e2]
 have e3:upd ρr d1 (ρr 0) d1=ρr 0:=by simp[upd]
 have e4:(execOp (Eng.ev (upd ρr d1 (ρr 0))) ⟨bh,.defer ⟨.value (.func f),#[.tmp d1,.const sc],ts⟩,ty2,pos2,aft2,bh⟩).run P w=.ok (.defer { target:=.fn (.func f) #[],args:=#[ρr 0,sc] }) w:=by
  simp[execOp,resolve,Deferred.ofValue,Eng.ev,e3]
 rw[e4,Oper.uponIn_defer];exact⟨_,_,⟨h1.size,by show _::(a.put (bc d1) (ρr 0)).defers=_;rw[h1.defs],h1.get⟩,h⟩
def zVr{X:Cx S}{cc:Ctx X.K0}{m:M}{Z:ZM}{H:ax}{w:bG}{bs:List cb}(h:Vu cc m Z H w):Vu (K0:=X.K0) { cc with base:=bs } m Z H w:=⟨h.step,h.dom⟩
def zJa(hS:S.OK){P:bm}{f:Nat}{fn:Func}{r0 r1 r2 r3 B:Code}{tc d1 fW id4 k0:Nat}{l:ak}{ty1 ty2:bJ}{pos1 pos2:String}{aft1 aft2:Array Edge}{ts:Array bJ}{T:CtT S}{cd:Nat->Option TC}{kk:Nat}{nb:NB}{c:Ct S}{rs:List (Nat×Tp)}{D:zI9 S}{rD:V}{hB hB':HT S c.co}{rest:List Tp}
  (hf:P.funcs[f]?=bc fn) (hb:fn.body=bc (.seq r0 (.seq r1 (.seq (.seq r2 (.cond (.tmp tc) (.seq r3 (.region id4 #[⟨bc d1,.move (.tmp 0),ty1,pos1,aft1,bh⟩,⟨bh,.defer ⟨.value (.func fW),#[.tmp d1,.const (.string ⟨l.toArray⟩)],ts⟩,ty2,pos2,aft2,bh⟩] bd)) .skip)) B))))
  (hm:P.follows .mixedOrders=bf) (hT:CtT.OK P T) (hrs:zIz P [] c.hout fn.results.toList c.out=bc rs) (hc:zVj fn.ntmps c rs=bf) (hin:c.ins=.ptr k0 0::rest)
  (hD:∀ct i s s',D ct i s=bc s'->∀k,FnD P fW [.ptr k 0 0,.str l] [(k,S.go i ct s)] rD [(k,S.go i ct s')]) (hfW:∀args w,(callFunc fW args).run P w=.ok (.enter fW args) w)
  (hrun:∀x,(evW (cxF P fn.ntmps T cd kk nb c rs x (c.hin.map (·.1))) r0 r1 r2 tc r3 d1 B D k0 hB hB' (zjl (Tp.puts c.hin (yT c.ci x) c.ins)) (oa c.hin (yT c.ci x))).run=c.fn x)
  (htr:∀x,(evW (cxF P fn.ntmps T cd kk nb c rs x (c.hin.map (·.1))) r0 r1 r2 tc r3 d1 B D k0 hB hB' (zjl (Tp.puts c.hin (yT c.ci x) c.ins)) (oa c.hin (yT c.ci x))).tr bf=(evW (cxF P fn.ntmps T cd kk nb c rs x (c.hin.map (·.1))) r0 r1 r2 tc r3 d1 B D k0 hB hB' (zjl (Tp.puts c.hin (yT c.ci x) c.ins)) (oa c.hin (yT c.ci x))).tr bd):c.OK P f:=by
 intro x r hr
 let X:Cx S:=cxF P fn.ntmps T cd kk nb c rs x (c.hin.map (·.1))
 have hI:(evW X r0 r1 r2 tc r3 d1 B D k0 hB hB' (zjl (Tp.puts c.hin (yT c.ci x) c.ins)) (oa c.hin (yT c.ci x))).Is r:=⟨(hrun x).trans hr,wU _ (htr x)⟩
 simp only[zVj,bn]at hc;obtain⟨c1,c2,c3,c4,c5⟩:=hc;simp only[uj,bn]at c3
 have oN:∀ds,keys (hV (oa (S:=S) c.hout ds))=c.hout.map (·.1):=λds=>vr
 have hfin:zUp P fn (c.hin.map (·.1)) (c.out.put c.hout (yT c.ci x++yT c.co r)).v (hV (oa c.hout (yT c.ci x++yT c.co r))) .ret
   (eV (zlr c.hout rs (yT c.ci x++yT c.co r))) (hV (oa c.hout (yT c.ci x++yT c.co r))) []:=by
  refine⟨rfl,zCk hrs λt tp hmem=>by rw[JT,zjm (yz c1) hmem],YO λp hp=>get_of_mem (by rw[oN];exact yz c4) hp,?_⟩;have hcl:=Hf (S:=S) hS (ins:=[c.out]) (hin:=c.hout) (ds:=yT c.ci x++yT c.co r) (by simp only[uj,bn];exact c3);simp only[EV.AX,bn,Tp.puts,A.vs,wP,List.append_nil]at hcl;simp only[zTp,bn,oN]at hcl ⊢;exact⟨c4,c5,hcl.1,hcl.2⟩
 intro w m Z vals hs hv hdom;have hvl:=hv.length
 have ha:vals.length<=fn.ntmps:=by
  rw[hvl,qN,AA,List.length_map];exact lb c2
 have hk0:keys (hV (oa (S:=S) c.hin (yT c.ci x)))=X.K0:=vr
 let cc:Ctx X.K0:=⟨[],w,m,Z,_,hk0,λk hk=>hdom k (by rw[hk0];exact hk)⟩
 have S0:QB cc (eV (zjl (Tp.puts c.hin (yT c.ci x) c.ins))) (hV (oa c.hin (yT c.ci x))) (jL vals) w:=⟨m,Z,⟨Step.refl hs,λk hk=>hdom k hk⟩,λt=>by
  rw[zrf];have:=Wm _ vals 0 t hv
  simpa[zb0,jL]using this⟩
 -- the thing's place
 obtain⟨loc0,pv,hl0,hp0,hv0⟩:∃loc pv,m k0 0=bc loc/\jL vals 0=pv/\pv=.pointer (bc ⟨loc.1,0,bh⟩):=by
  rw[hin]at hv;simp only[Tp.puts,Tp.put,A.vs,A.v]at hv;obtain⟨y,ys,rfl,⟨g,loc,e1,e2,e3⟩,_⟩:=hv;cases e1;exact⟨loc,_,e2,rfl,by simpa[jL]using e3⟩
 let R:Ending->bG->Prop:=λen w'=>∃y m' Z',en=.returned y/\Step m Z (hV (oa c.hin (yT c.ci x))) w m' Z' (hV (oa c.hout (yT c.ci x++yT c.co r))) w'/\Rep (bc m') Z' (c.out.put c.hout (yT c.ci x++yT c.co r)).v y
 let Qe:zak:=λe ρr ds w'=>e=.normal/\∀tmps:Array bu,(∀t,tmps.getD t Go.undef=ρr t)->LeavesInM Fence.wide 0 P fn tmps R ds .returning w'
 have hend:∀(bs:List cb) E' H',(zjg X.rT X.K0 E' H' X.x λv=>.ret (bc v)).Is r->∀m' Z' ρr (tmps:Array bu) w2,(∀t,tmps.getD t Go.undef=ρr t)->Vu { cc with base:=bs } m' Z' (hV H') w2->zlq m' Z' (eV E') ρr->∃v,(results fn tmps).run P w2=.ok v w2/\R (.returned v) w2:=by
  intro bs E' H' g m' Z' ρr tmps w2 ht S1 hR1;obtain⟨v,g1,g2⟩:=kC g;have e:=Is.ret g2;cases e;obtain⟨m2,Z2,S2,hR2⟩:=wy hS g1 _ _ _ ⟨m',Z',S1,hR1⟩;obtain⟨_,hres,hsel,hfb⟩:=hfin;simp only[zTp,bn]at hfb;obtain⟨q1,q2,q3,q4⟩:=hfb;obtain⟨m3,S3,hc3⟩:=S2.cut _ hsel q1 q2 q4;obtain⟨y,hy1,hy2⟩:=zf4 S2.step.sim hR2 hres (tmps:=tmps) ht;exact⟨y,hy1,y,m3,Z2,rfl,S3.step,hc3 _ _ q3 hy2⟩
 have hmain:Wp P bh fn.ntmps (.seq r0 (.seq r1 (.seq (.seq r2 (.cond (.tmp tc) (.seq r3 (.region id4 #[⟨bc d1,.move (.tmp 0),ty1,pos1,aft1,bh⟩,⟨bh,.defer ⟨.value (.func fW),#[.tmp d1,.const (.string ⟨l.toArray⟩)],ts⟩,ty2,pos2,aft2,bh⟩] bd)) .skip)) B))) Qe (jL vals) [] w:=by
  unfold evW at hI;refine zwz (YY (X:=X) (cc:=cc) hS hT (λe=>by cases e) hm hI (λE1 H1 g1 ρ1 w1 ds1 SA1 hM1=>?_) _ _ _ S0 (xw.nil rfl));refine zwz (YY (X:=X) (cc:=cc) hS hT (λe=>by cases e) hm g1 (λE2 H2 g2 ρ2 w2 ds2 SA2 hM2=>?_) _ _ _ SA1 hM1);refine zwz (zwz (YY (X:=X) (cc:=cc) hS hT (λe=>by cases e) hm g2 (λE3 H3 g3 ρ3 w3 ds3 SA3 hM3=>?_) _ _ _ SA2 hM2));split at g3
  ·rename_i b hbt
   obtain⟨gt,gf⟩:=Is.cnd g3
   have hcv:Eng.ev ρ3 (.tmp tc)=.bool b:=by
    obtain⟨m3,Z3,S3,hR3⟩:=SA3;have:=hR3.ev (.tmp tc);rw[zY,hbt]at this;exact this
   refine zL0 b hcv (λhb1=>?_) (λhb1=>?_)
   ·refine zwz (YY (X:=X) (cc:=cc) hS hT (λe=>by cases e) hm (gt hb1) (λE4 H4 g4 ρ4 w4 ds4 SA4 hM4=>?_) _ _ _ SA3 hM3)
    split at g4
    ·rename_i k hpk
     cases hk:bk k k0&&cm (d1+1) X.N with
     |false=>rw[hk]at g4;exact(Is.fail g4).elim
     |true =>
      rw[hk,ctQ]at g4;simp only[bn]at hk;have hkk:=eb hk.1;subst hkk;have hd1:d1<fn.ntmps:=lb hk.2;obtain⟨m4,Z4,S4,hR4⟩:=SA4;have hm4:m4 k 0=bc loc0:=S4.step.mext _ _ _ hl0
      have hpv:ρ4 0=.pointer (bc ⟨loc0.1,0,bh⟩):=by
       have:=hR4.ev (.tmp 0);rw[zY,hpk]at this;obtain⟨g,loc,e1,e2,e3⟩:=this;cases e1;rw[hm4]at e2;cases e2;exact e3
      refine zQz (N:=fn.ntmps) hd1 ?_
      let dd:cb:={ target:=.fn (.func fW) #[],args:=#[ρ4 0,.string ⟨l.toArray⟩] }
      let cc1:Ctx X.K0:={ cc with base:=[dd] }
      have SA5:QB cc1 (eV ((d1,.raw (.ptr k 0 0))::E4)) (hV H4) (upd ρ4 d1 (ρ4 0)) w4:=⟨m4,Z4,zVr S4,by
       refine hR4.put d1 (v:=.ptr k 0 0) ?_
       exact⟨m4,loc0,rfl,hm4,hpv⟩⟩
      have hM5:xw cc1 (dd::ds4) w4:=by
       obtain⟨lq,h1,h2,h3,h4,h5⟩:=hM4;refine⟨.inr dd::lq,by rw[h1];rfl,?_,h3,h4,λd hd D' e=>?_⟩
       ·show dd::lq.filterMap Sum.getRight?=[dd]
        rw[h2]
       ·cases msQ.1 hd;cases e
      refine YY (X:=X) (cc:=cc1) hS hT (λe=>by cases e) hm g4 (λE6 H6 g6 ρ6 w6 ds6 SA6 hM6=>?_) _ _ _ SA5 hM5;refine⟨rfl,λtmps ht=>?_⟩;unfold zVq at g6;split at g6
      ·rename_i i ct s hgk
       obtain⟨s',hs',g7⟩:=Is.bnd g6;obtain⟨m6,Z6,S6,hR6⟩:=SA6;obtain⟨lq,rfl,h2,h3,h4,h5⟩:=hM6;have hm6:m6 k 0=bc loc0:=S6.step.mext _ _ _ hl0;refine zgv (c:=cc1) (m:=m6) (Z:=Z6) (H:=hV H6) (fv:=fW) (dargs:=[ρ4 0,.string ⟨l.toArray⟩]) (λw=>hfW _ w) (λw7 S7=>?_) lq w6 h2 h3 h4 S6
       have hsel:uz [k] H6=bc [(k,.gn i ct s)]:=by simp only[uz,hgk]
       have hp:=ja S7.step.sim.nodup (cG.2 ⟨af,List.nodup_nil⟩) (vC hsel);have hs7:wQ m6 Z6 ([(k,S.go i ct s)]++qK [k] (hV H6)) w7:=S7.step.sim.perm hp
       have hRp:zT (bc m6) Z6 [.ptr k 0 0,.str l] [ρ4 0,.string ⟨l.toArray⟩]:=⟨_,_,rfl,⟨m6,loc0,rfl,hm6,hpv⟩,_,_,rfl,rfl,rfl⟩
       refine(hD ct i s s' hs' k w7 m6 Z6 _ .returning hs7.left hRp).mono ?_;rintro en u' w8 ⟨rfl,y,m8,Z8,rfl,st,_⟩
       have st2:=Step.frame_rule hs7 st λp hp q hq e=>by
        cases msQ.1 hp;have hn:=hs7.nodup;rw[zH]at hn;exact(List.nodup_append.1 hn).2.2 k (msQ.2 rfl) _ (ay hq) e
       have hup:=(zjj (F:=[]) (H:=H6) (F':=[(k,.gn i ct s')]) (Rr:=[]) (kF:=[k]) (kR:=[]) S7.step.sim.nodup rfl (by simp[EQ.oN]) af rfl).1;have st3:Step m6 Z6 (hV H6) w7 m8 Z8 (hV (ZB H6 [(k,.gn i ct s')])) w8:=(st2.permL hp.symm).permR hup
       have hk6:∀k',k' ∉ keys (hV (ZB H6 [(k,.gn i ct s')]))->∀L,m8 k' L=bh:=λk' hk' L=>by
        rw[st3.newk k' hk'];exact S7.dom k' (λh=>hk' (st3.keep k' h)) L
       have S8:Vu cc1 m8 Z8 (hV (ZB H6 [(k,.gn i ct s')])) w8:=⟨S7.step.trans st3,hk6⟩
       have hR8:zlq m8 Z8 (eV E6) ρ6:=λt=>(hR6 t).up st3.zext (λg e=>by cases e;exact⟨m8,rfl,st3.mext⟩)
       exact⟨rfl,y,m8,Z8,_,rfl,st3,S8,λw9 S9=>hend [dd] E6 _ g7 m8 Z8 ρ6 tmps w9 ht S9 hR8⟩
      ·exact(Is.fail g6).elim
    ·exact(Is.fail g4).elim
   ·refine zqb (YY (X:=X) (cc:=cc) hS hT (λe=>by cases e) hm (gf hb1) (λE4 H4 g4 ρ4 w4 ds4 SA4 hM4=>?_) _ _ _ SA3 hM3)
    refine⟨rfl,λtmps ht=>?_⟩;obtain⟨m4,Z4,S4,hR4⟩:=SA4;obtain⟨lq,rfl,h2,h3,h4,h5⟩:=hM4
    exact KV lq w4 h2 h3 h4 S4 λw9 S9=>hend [] E4 H4 g4 m4 Z4 ρ4 tmps w9 ht S9 hR4
  ·exact(Is.fail g3).elim
 refine(callsIn_wide (n:=0)).1 (callsIn_of_wp_marks hf hb trivial ?_)
 refine wpIn_mono (hmain _ 0 ⟨?_,rfl,λt=>?_⟩) λe a w' hq=>?_
 ·simp;omega
 ·simp only[jL,Array.getD_eq_getD_getElem?,List.getD_eq_getElem?_getD]
  rw[Array.getElem?_append];split
  ·simp
  ·rename_i hlt
   simp only[cN]at hlt;rw[List.getElem?_eq_none ab];simp only[cN];rw[Array.getElem?_replicate];split<;>rfl
 ·obtain⟨ρr',ds',hf',rfl,h⟩:=hq
  have:=h a.tmps hf'.get;rw[<- hf'.defs]at this;exact this
end
end Go.EQ
namespace Go.Proofs.YtffencjoddkghaaGreatDoor
open Go Go.RowKit Go.Eng Go.EV Go.EQ
def zQ0{T:Nat}(hT:zzs T)(k:Nat)(s t:ak)(hl:s.length+t.length<=140737488355328):FnD bq 162 [.ptr k 0 0,.str t] [(k,sb T s)] (.tup [.int .i64 (t.length:Nat),.nili]) [(k,sb T (s++t))]:=by
 intro w m Z vals u hs hv;obtain⟨b,h1,h2⟩:=zCl hs;obtain⟨r,rfl,h3⟩:=QL h1 hv;obtain⟨x,xs,rfl,rfl,h4⟩:=h3;cases h4;refine((zzu hT b _ ⟨t.toArray⟩ w h2 (by rw[Lib.byteCells_length,zcn];exact hl)).2 u).mono ?_;rintro en u' w' ⟨rfl,rfl,h5,h6⟩;rw[strCells_eq,<- WI]at h5;obtain⟨m',st⟩:=zcm hs h1 h5 h6;exact⟨rfl,_,m',Z,rfl,st,_,rfl,_,_,rfl,by rw[zcn];rfl,_,_,rfl,rfl,rfl⟩
def zCq(args:Array bu)(w:bG):(callFunc 162 args).run bq w=.ok (.enter 162 args) w:=enters_of Tryz.func162 (by kernel_rfl) rfl args w
def zzp(s:ak):Option ak:=aN (grd (bg s+2<=140737488355328)) λ_=>bc (s++[32,41])
class Fuel where
 n:Nat
 big:18446744073709551616<=n
def KK[Fuel]:Nat:=Fuel.n
open Go Go.RowKit
def size5:(Tryz.prog.info? 5).map (·.size)=bc 1:=by kernel_rfl
set_option maxHeartbeats 2000000 in
set_option maxRecDepth 1000000 in
theorem zx7(b n:Nat)(w:bG)(hbk:w.heap[b]?=bc (.cells #[.pointer (bc ⟨b,0,bh⟩),.slice bh 0 0] 108 (0,0)))(hn:n<=281474976710656):
  Calls bq 212 #[.pointer (bc ⟨b,0,bh⟩),.int .i64 n] w λe w'=>e=.returned (.tuple #[])/\Lib.IsBuilderF 108 5 0 b [] w'/\HW b w w':=by
 obtain⟨cs,hrun,hle,hmax⟩:=Lib.run_makeNoZero (P:=bq) w.drew #[3] 106 5 dc n hn
 have hw:IntKind.i64.wrap (IntKind.i64.wrap 0+(n:Int))=n:=by
  rw[IntKind.wrap_i64,IntKind.wrap_i64];omega
 have hcall:(callFunc 227 #[.int .i64 (IntKind.i64.wrap (IntKind.i64.wrap 0+(n:Int)))]).run bq w.drew=.ok (.value (.slice (bc ⟨w.drew.heap.size,0,bh⟩) n cs.size)) (w.drew.drew.drew.alloc (.cells cs 5)):=by
  rw[hw,run_callFunc_extern Tryz.func227 (by kernel_rfl) (by kernel_rfl) (by kernel_rfl) (e:=Extern.BytealgMakeNoZero.makeNoZero #[3] #[106]) (by kernel_rfl),hrun];rfl
 have hlt:b<w.heap.size:=by
  rcases Nat.lt_or_ge b w.heap.size with h'|h'
  ·exact h'
  ·simp[Array.getElem?_eq_none h']at hbk
 have c1:w.drew.cell? ⟨b,1,bh⟩=bc (.slice bh 0 0):=by
  have:w.drew.heap[b]?=_:=hbk;rw[Lib.cell_of_heap this];rfl
 have c2:(w.alloc (.cells cs 5)).cell? ⟨b,1,bh⟩=bc (.slice bh 0 0):=by
  have:(w.alloc (.cells cs 5)).heap[b]?=_:=(Lib.alloc_old w _ b hlt).trans hbk;rw[Lib.cell_of_heap this];rfl
 have f2:(w.alloc (.cells cs 5)).frozen? ⟨b,1,bh⟩=bd:=Lib.frozen_of_heap ((Lib.alloc_old w _ b hlt).trans hbk) 1
 have hcopy:∀W:bG,(Builtin.copy_ #[106,106] 3 #[.slice (bc ⟨w.heap.size,0,bh⟩) 0 cs.size,.slice bh 0 0]).run bq W=.ok (goInt 0) W :=
  λW=>run_copy_none W 106 106 3 5 _ _ 0 cs.size 0 0 dc size5 rfl
 have hfin:Lib.IsBuilderF 108 5 0 b [] ((w.setCell ⟨b,1,bh⟩ (.slice (bc ⟨w.heap.size,0,bh⟩) 0 cs.size)).alloc (.cells cs 5)).drew.drew.drew/\HW b w ((w.setCell ⟨b,1,bh⟩ (.slice (bc ⟨w.heap.size,0,bh⟩) 0 cs.size)).alloc (.cells cs 5)).drew.drew.drew:=by
  have hm:=hmax (by unfold maxLen;omega)
  have hsz:(w.setCell ⟨b,1,bh⟩ (.slice (bc ⟨w.heap.size,0,bh⟩) 0 cs.size)).heap.size=w.heap.size:=by simp[World.setCell]
  have e1:(w.setCell ⟨b,1,bh⟩ (.slice (bc ⟨w.heap.size,0,bh⟩) 0 cs.size)).heap[b]?=bc (.cells #[.pointer (bc ⟨b,0,bh⟩),.slice (bc ⟨w.heap.size,0,bh⟩) 0 cs.size] 108 (0,0)):=by simp[World.setCell,dh,hbk]
  have e2:((w.setCell ⟨b,1,bh⟩ (.slice (bc ⟨w.heap.size,0,bh⟩) 0 cs.size)).alloc (.cells cs 5)).heap[b]?=bc (.cells #[.pointer (bc ⟨b,0,bh⟩),.slice (bc ⟨w.heap.size,0,bh⟩) 0 cs.size] 108 (0,0)):=(Lib.alloc_old _ _ b (by rw[hsz];exact hlt)).trans e1
  have e3:((w.setCell ⟨b,1,bh⟩ (.slice (bc ⟨w.heap.size,0,bh⟩) 0 cs.size)).alloc (.cells cs 5)).heap[w.heap.size]?=bc (.cells cs 5 (0,0)):=by
   have:=heap_alloc_new (w.setCell ⟨b,1,bh⟩ (.slice (bc ⟨w.heap.size,0,bh⟩) 0 cs.size)) (.cells cs 5)
   rwa [hsz]at this
  refine⟨.inr ⟨cj _,_,e2,⟨rfl,.inr ⟨w.heap.size,cs.size,cs,(0,0),rfl,cj _,e3,cj _,cj _,hm,af,af⟩⟩,by simp[Value.ownBlock];omega⟩,_,_,108,_,_,hbk,e2,rfl,rfl,rfl,?_,λk hk hkb _=>?_,λg hg=>?_,λg hg=>(by cases hg)⟩
  ·have:((w.setCell ⟨b,1,bh⟩ (.slice (bc ⟨w.heap.size,0,bh⟩) 0 cs.size)).alloc (.cells cs 5)).heap.size=(w.setCell ⟨b,1,bh⟩ (.slice (bc ⟨w.heap.size,0,bh⟩) 0 cs.size)).heap.size+1:=af
   exact cW (Nat.le_succ w.heap.size) (eE (aQ (·+1) hsz.symm |>.trans this.symm))
  ·exact(Lib.alloc_old _ _ k (by rw[hsz];exact hk)).trans (Below.heap_setCell _ _ _ _ (λe=>hkb (by simp[e])))
  ·simp only[Value.ownBlock,Option.some.injEq]at hg
   exact .inl ab
 clear hw;have mixed:=zbp
 go_enter Tryz.func212,Tryz.ntmps212
 go_wp2
 go_region_o
 all_goals (go_wp2;go_end0;exact⟨rfl,hfin⟩)
def zJb{T b:Nat}{w:bG}{p v:bu}(hbk:w.heap[b]?=bc (.cells #[p,v] T (0,0))):w.shape? b=bc (T,2):=by simp[World.shape?,hbk]
set_option maxHeartbeats 2000000 in
set_option maxRecDepth 1000000 in
theorem zJc(b n:Nat)(w:bG)(hbk:w.heap[b]?=bc (.cells #[.pointer bh,.slice bh 0 0] 108 (0,0)))(hn:n<=281474976710656):
  Calls bq 167 #[.pointer (bc ⟨b,0,bh⟩),.int .i64 n] w λe w'=>e=.returned (.tuple #[])/\Lib.IsBuilderF 108 5 0 b [] w'/\HW b w w':=by
 have hbk1:(w.setCell ⟨b,0,bh⟩ (.pointer (bc ⟨b,0,bh⟩))).heap[b]?=bc (.cells #[.pointer (bc ⟨b,0,bh⟩),.slice bh 0 0] 108 (0,0)):=by
  simp[World.setCell,dh,hbk]
 have c1:(w.setCell ⟨b,0,bh⟩ (.pointer (bc ⟨b,0,bh⟩))).cell? ⟨b,1,bh⟩=bc (.slice bh 0 0):=by rw[Lib.cell_of_heap hbk1];rfl
 have c1':(w.setCell ⟨b,0,bh⟩ (.pointer (bc ⟨b,0,bh⟩))).drew.cell? ⟨b,1,bh⟩=bc (.slice bh 0 0):=c1;have hU:Lib.IsBuilderF 108 5 0 b [] (w.setCell ⟨b,0,bh⟩ (.pointer (bc ⟨b,0,bh⟩))).drew:=.inr ⟨cj _,.slice bh 0 0,hbk1,World.ownsRowF_nil _ _ _ _,by simp[Value.ownBlock]⟩
 have hk:∀k,k≠b->(w.setCell ⟨b,0,bh⟩ (.pointer (bc ⟨b,0,bh⟩))).heap[k]?=w.heap[k]?:=λk hk=>Below.heap_setCell _ _ _ _ (λe=>hk (by simp[e]))
 have hsz:(w.setCell ⟨b,0,bh⟩ (.pointer (bc ⟨b,0,bh⟩))).heap.size=w.heap.size:=by simp[World.setCell]
 have hT:HW b w (w.setCell ⟨b,0,bh⟩ (.pointer (bc ⟨b,0,bh⟩))).drew:=⟨_,_,108,_,_,hbk,hbk1,rfl,rfl,rfl,eE hsz.symm,λk _ hkb _=>hk k hkb,λg hg=>(by cases hg),λg hg=>(by cases hg)⟩
 have hT2:∀w',HW b (w.setCell ⟨b,0,bh⟩ (.pointer (bc ⟨b,0,bh⟩))).drew w'->HW b w w':=λw' ⟨p,v,T,p',v',t1,t2,t3,t4,t5,t6,t7,t8,t9⟩=>by
  have t1':=hbk1.symm.trans t1;cases t1';refine⟨_,_,108,p',v',hbk,t2,t3,t4,t5,cW (eE hsz.symm) t6,λk hk1 hkb _=>?_,λg hg=>?_,λg hg=>(by cases hg)⟩
  ·exact(t7 k (Nat.lt_of_lt_of_le hk1 (eE hsz.symm)) hkb (by simp[Value.ownBlock])).trans (hk k hkb)
  ·rcases t8 g hg with h|h
   ·exact .inl (cW (eE hsz.symm) h)
   ·cases h
 have mixed:=zbp
 go_enter Tryz.func167,Tryz.ntmps167
 go_wp2_with (go_at_call 209;refine(zbo zh9 b w (by rw[Lib.cell_of_heap hbk];rfl) (zJb hbk) (Lib.frozen_of_heap hbk 0)).mono ?_;rintro e w' ⟨rfl,rfl⟩)
 go_region_o
 all_goals go_wp2_with (go_at_call 212;refine(zx7 b n (w.setCell ⟨b,0,bh⟩ (.pointer (bc ⟨b,0,bh⟩))).drew hbk1 hn).mono ?_;rintro e w' ⟨rfl,h1,h2⟩)
 all_goals first
  |(go_end0;exact⟨rfl,h1,hT2 _ h2⟩)
  |(go_end0;exact⟨rfl,hU,hT⟩)
open Go.Eng Go.EV Go.EQ in
theorem zJd(k n:Nat)(hn:n<=281474976710656):FnA bq 167 [.ptr k 0 0,.int .i64 n] [(k,.box 108 [.nilp,.nils])] (.tup []) [(k,sb 108 [])]:=by
 intro w m Z vals hs hv _;obtain⟨h1,h2⟩:=zCn (hs.holds _ (msQ.2 rfl))
 have hs':wQ m Z [(k,sb 108 [])] w:=⟨hs.frozen,λp hp=>by cases msQ.1 hp;exact h1,hs.nodup,λp hp q hq _ _ _=>by cases msQ.1 hp;cases msQ.1 hq;rfl⟩
 obtain⟨b,cur,g1,g2,⟨x,xs,e1,hx,y,ys,e2,hy,e3⟩,g4,g5⟩:=hs.holds _ (msQ.2 rfl);subst e3;subst e2;have hx:x=.pointer bh:=hx;have hy:y=.slice bh 0 0:=hy;subst hx;subst hy
 have hc:cur=#[.pointer bh,.slice bh 0 0]:=by
  apply Array.ext';rw[e1]
 subst hc;obtain⟨r,rfl,h3⟩:=QL g1 hv;obtain⟨x,xs,rfl,rfl,h4⟩:=h3;cases h4;refine Calls.mono (zJc b n w g2 hn) ?_;rintro en w' ⟨rfl,h5,h6⟩;obtain⟨m',st⟩:=zcm hs' g1 (s':=[]) h5 h6
 have hb:∀c,¬blk m (k,.box 108 [.nilp,.nils]) c->¬blk m (k,sb 108 []) c:=λc hn h=>hn (h2 c h)
 exact⟨_,m',Z,rfl,⟨st.sim,st.mext,st.zext,st.os,st.tape,st.output,st.size,λc hc hn=>st.frame c hc λp hp=>by cases msQ.1 hp;exact hb c (hn _ (msQ.2 rfl)),st.keep,st.newk,λp hp c hc=>(st.blks p hp c hc).imp id λ⟨q,hq,e⟩=>by cases msQ.1 hq;exact⟨_,msQ.2 rfl,h2 c e⟩,λa x ha=>(st.znew a x ha).imp id (Or.imp id λ⟨q,hq,e⟩=>by cases msQ.1 hq;exact⟨_,msQ.2 rfl,h2 _ e⟩)⟩,[],rfl,rfl⟩
end Go.Proofs.YtffencjoddkghaaGreatDoor
set_option maxRecDepth 100000
namespace Go.Proofs.YtffencjoddkghaaGreatDoor.J
open Go Go.RowKit Go.Eng Go.EV Go.EQ
structure Expr where
 Op:Int
 N:Int
 S:ak
 Key:ak
 Args:(List Expr)
instance:Inhabited Expr:=⟨⟨0,0,[],[],[]⟩⟩
mutual
def oQ:Expr->List V
 |⟨a0,a1,a2,a3,a4⟩=>[.int .i64 a0,.int .i64 a1,.str a2,.str a3,.vs 5 (xl a4)]
def xl:List Expr->List (List V)
 |[]=>[]
 |x::r=>oQ x::xl r
end
def jM(x:Expr):List V:=[.int .i64 x.Op,.int .i64 x.N,.str x.S,.str x.Key,.vs 5 (xl x.Args)]
def KW(x:Expr):oQ x=jM x:=by cases x;rw[oQ];rfl
def qQ:∀l:List Expr,xl l=l.map jM
 |[]=>by rw[xl];rfl
 |x::r=>by rw[xl,KW,qQ r];rfl
structure Def where
 aL:ak
 Body:Expr
 deriving Inhabited
def zcq(x:Def):List V:=[.str x.aL,.int .i64 x.Body.Op,.int .i64 x.Body.N,.str x.Body.S,.str x.Body.Key,.vs 5 (xl x.Body.Args)]
structure aw where
 aL:ak
 N:Int
 deriving Inhabited,DecidableEq
def Hj(x:aw):List V:=[.str x.aL,.int .i64 x.N]
structure au where
 aL:ak
 Rows:(List aw)
 Else:Int
 deriving Inhabited,DecidableEq
def KX(x:au):List V:=[.str x.aL,.vs 2 (cX Hj x.Rows),.int .i64 x.Else]
structure zU where
 X:Int
 Y:Int
 deriving Inhabited,DecidableEq
def qR(x:zU):List V:=[.int .i64 x.X,.int .i64 x.Y]
structure yD where
 aL:ak
 Overlay:Bool
 aA:(List zU)
 deriving Inhabited,DecidableEq
def WJ(x:yD):List V:=[.str x.aL,.bool x.Overlay,.vs 2 (cX qR x.aA)]
structure zx where
 Side:Int
 Base:Int
 Num:Int
 Den:Int
 deriving Inhabited,DecidableEq
def WK(x:zx):List V:=[.int .i64 x.Side,.int .i64 x.Base,.int .i64 x.Num,.int .i64 x.Den]
structure zX where
 aL:ak
 aB:(List ak)
 Except:(List ak)
 From:Int
 Until:Int
 Grace:Int
 Vary:Bool
 aM:Int
 Test:Expr
 zx:zx
 Uses:Int
 Other:Int
 N:Int
 deriving Inhabited
def WL(x:zX):List V:=[.str x.aL,.vs 1 (cX EV.zTq x.aB),.vs 1 (cX EV.zTq x.Except),.int .i64 x.From,.int .i64 x.Until,.int .i64 x.Grace,.bool x.Vary,.int .i64 x.aM,.int .i64 x.Test.Op,.int .i64 x.Test.N,.str x.Test.S,.str x.Test.Key,.vs 5 (xl x.Test.Args),.int .i64 x.zx.Side,.int .i64 x.zx.Base,.int .i64 x.zx.Num,.int .i64 x.zx.Den,.int .i64 x.Uses,.int .i64 x.Other,.int .i64 x.N]
structure Cap where
 aL:ak
 Load:Int
 Limit:Int
 aA:(List zU)
 deriving Inhabited,DecidableEq
def zcr(x:Cap):List V:=[.str x.aL,.int .i64 x.Load,.int .i64 x.Limit,.vs 2 (cX qR x.aA)]
structure zg where
 X:Int
 Y:Int
 Z_:Int
 deriving Inhabited,DecidableEq
def qc(x:zg):List V:=[.int .i64 x.X,.int .i64 x.Y,.int .i64 x.Z_]
structure av where
 aL:ak
 Eye:zg
 Least:Int
 Targets:(List zg)
 deriving Inhabited,DecidableEq
def WM(x:av):List V:=[.str x.aL,.int .i64 x.Eye.X,.int .i64 x.Eye.Y,.int .i64 x.Eye.Z_,.int .i64 x.Least,.vs 3 (cX qc x.Targets)]
structure ar where
 aM:Int
 Text:ak
 N:Int
 Pos:Int
 deriving Inhabited,DecidableEq
def WN(x:ar):List V:=[.int .i64 x.aM,.str x.Text,.int .i64 x.N,.int .i64 x.Pos]
variable[Vl]
def kmp{a b:Prop}(h:a=b)(x:a):b:=h▸x
def zCr(n:Int):Option ak:=aN (grd (0<=n/\n<=281474976710656)) λ_=>bc []
def zVs(n:Int)(r:ak)(h:zCr n=bc r):r=[]/\FnA bq 167 [.ptr 1 0 0,.int .i64 n] [(1,.box 108 [.nilp,.nils])] (.tup []) [(1,sb 108 [])]:=by
 obtain⟨_,h1,h2⟩:=bind_some h;obtain⟨g1,g2⟩:=xo h1;cases h2;obtain⟨m,rfl⟩:=Int.eq_ofNat_of_zero_le g1;exact⟨rfl,zJd 1 m ab⟩
def zMq:Nat->Type
 |0=>Expr
 |1=>Def
 |2=>aw
 |3=>au
 |4=>zU
 |5=>yD
 |6=>zx
 |7=>zX
 |8=>Cap
 |9=>zg
 |10=>av
 |11=>ar
 |_=>Unit
def goT(i:Nat):(c:TC)->c.ty zMq->EV.Obj
 |.s,x=>sb (bif bk i 0 then 108 else 123) x
 |_,_=>.gen gone
def TS:Tab where
 T:=zMq
 dflt:=λn=>match n with
  |0=>(default:Expr)
  |1=>(default:Def)
  |2=>(default:aw)
  |3=>(default:au)
  |4=>(default:zU)
  |5=>(default:yD)
  |6=>(default:zx)
  |7=>(default:zX)
  |8=>(default:Cap)
  |9=>(default:zg)
  |10=>(default:av)
  |11=>(default:ar)
  |_+12=>()
 fl:=λn=>match n with
  |0=>[.i .i64,.i .i64,.s,.s,.l (.st 0)]
  |1=>[.s,.st 0]
  |2=>[.s,.i .i64]
  |3=>[.s,.l (.st 2),.i .i64]
  |4=>[.i .i64,.i .i64]
  |5=>[.s,.b,.l (.st 4)]
  |6=>[.i .i64,.i .i64,.i .i64,.i .i64]
  |7=>[.s,.l (.s),.l (.s),.i .i64,.i .i64,.i .i64,.b,.i .i64,.st 0,.st 6,.i .i64,.i .i64,.i .i64]
  |8=>[.s,.i .i64,.i .i64,.l (.st 4)]
  |9=>[.i .i64,.i .i64,.i .i64]
  |10=>[.s,.st 9,.i .i64,.l (.st 9)]
  |11=>[.i .i64,.s,.i .i64,.i .i64]
  |_+12=>[]
 cn:=λn=>match n with
  |0=>5
  |1=>6
  |2=>2
  |3=>3
  |4=>2
  |5=>3
  |6=>4
  |7=>20
  |8=>4
  |9=>3
  |10=>6
  |11=>4
  |_+12=>0
 out:=λn=>match n with
  |0=>λx=>((x:Expr).Op,(x:Expr).N,(x:Expr).S,(x:Expr).Key,(x:Expr).Args)
  |1=>λx=>((x:Def).aL,(x:Def).Body)
  |2=>λx=>((x:aw).aL,(x:aw).N)
  |3=>λx=>((x:au).aL,(x:au).Rows,(x:au).Else)
  |4=>λx=>((x:zU).X,(x:zU).Y)
  |5=>λx=>((x:yD).aL,(x:yD).Overlay,(x:yD).aA)
  |6=>λx=>((x:zx).Side,(x:zx).Base,(x:zx).Num,(x:zx).Den)
  |7=>λx=>((x:zX).aL,(x:zX).aB,(x:zX).Except,(x:zX).From,(x:zX).Until,(x:zX).Grace,(x:zX).Vary,(x:zX).aM,(x:zX).Test,(x:zX).zx,(x:zX).Uses,(x:zX).Other,(x:zX).N)
  |8=>λx=>((x:Cap).aL,(x:Cap).Load,(x:Cap).Limit,(x:Cap).aA)
  |9=>λx=>((x:zg).X,(x:zg).Y,(x:zg).Z_)
  |10=>λx=>((x:av).aL,(x:av).Eye,(x:av).Least,(x:av).Targets)
  |11=>λx=>((x:ar).aM,(x:ar).Text,(x:ar).N,(x:ar).Pos)
  |_+12=>λ_=>()
 inj:=λn=>match n with
  |0=>λx=>(⟨x.1,x.2.1,x.2.2.1,x.2.2.2.1,x.2.2.2.2⟩:Expr)
  |1=>λx=>(⟨x.1,x.2⟩:Def)
  |2=>λx=>(⟨x.1,x.2⟩:aw)
  |3=>λx=>(⟨x.1,x.2.1,x.2.2⟩:au)
  |4=>λx=>(⟨x.1,x.2⟩:zU)
  |5=>λx=>(⟨x.1,x.2.1,x.2.2⟩:yD)
  |6=>λx=>(⟨x.1,x.2.1,x.2.2.1,x.2.2.2⟩:zx)
  |7=>λx=>(⟨x.1,x.2.1,x.2.2.1,x.2.2.2.1,x.2.2.2.2.1,x.2.2.2.2.2.1,x.2.2.2.2.2.2.1,x.2.2.2.2.2.2.2.1,x.2.2.2.2.2.2.2.2.1,x.2.2.2.2.2.2.2.2.2.1,x.2.2.2.2.2.2.2.2.2.2.1,x.2.2.2.2.2.2.2.2.2.2.2.1,x.2.2.2.2.2.2.2.2.2.2.2.2⟩:zX)
  |8=>λx=>(⟨x.1,x.2.1,x.2.2.1,x.2.2.2⟩:Cap)
  |9=>λx=>(⟨x.1,x.2.1,x.2.2⟩:zg)
  |10=>λx=>(⟨x.1,x.2.1,x.2.2.1,x.2.2.2⟩:av)
  |11=>λx=>(⟨x.1,x.2.1,x.2.2.1,x.2.2.2⟩:ar)
  |_+12=>λ_=>()
 enc:=λn=>match n with
  |0=>jM
  |1=>zcq
  |2=>Hj
  |3=>KX
  |4=>qR
  |5=>WJ
  |6=>WK
  |7=>WL
  |8=>zcr
  |9=>qc
  |10=>WM
  |11=>WN
  |_+12=>λ_=>[]
 ro:=λn=>match n with
  |1=>gl0 Vl.ob0
  |2=>gl1 Vl.ob1
  |3=>gl2 Vl.ob2 Vl.m2
  |4=>gl3 Vl.ob3
  |_=>.gen gone
 go:=goT
def zQ1:TS.OK where
 enc_out:=λn x=>match n with
  |0=>by
   show jM x=_
   unfold jM;simp only[qQ];rfl
  |1=>rfl
  |2=>rfl
  |3=>rfl
  |4=>rfl
  |5=>rfl
  |6=>rfl
  |7=>rfl
  |8=>rfl
  |9=>rfl
  |10=>rfl
  |11=>rfl
  |_+12=>rfl
 out_mk:=λn h=>match n with
  |0=>rfl
  |1=>rfl
  |2=>rfl
  |3=>rfl
  |4=>rfl
  |5=>rfl
  |6=>rfl
  |7=>rfl
  |8=>rfl
  |9=>rfl
  |10=>rfl
  |11=>rfl
  |_+12=>rfl
 ro0:=rfl
 rren:=λi σ=>match i with|0=>rfl|1=>rfl|2=>rfl|3=>rfl|4=>rfl|_+5=>rfl
 rref:=λi=>match i with|0=>rfl|1=>rfl|2=>rfl|3=>rfl|4=>rfl|_+5=>rfl
 rfrz:=λi k=>match i with|0=>rfl|1=>rfl|2=>rfl|3=>rfl|4=>rfl|_+5=>rfl
 len:=λn x=>match n with
  |0=>rfl
  |1=>rfl
  |2=>rfl
  |3=>rfl
  |4=>rfl
  |5=>rfl
  |6=>rfl
  |7=>rfl
  |8=>rfl
  |9=>rfl
  |10=>rfl
  |11=>rfl
  |_+12=>rfl
 one:=λn x=>match n with
  |0=>rfl
  |1=>rfl
  |2=>rfl
  |3=>rfl
  |4=>rfl
  |5=>rfl
  |6=>rfl
  |7=>rfl
  |8=>rfl
  |9=>rfl
  |10=>rfl
  |11=>rfl
  |_+12=>rfl
 refs:=λn x=>match n with
  |0=>rfl
  |1=>rfl
  |2=>rfl
  |3=>rfl
  |4=>rfl
  |5=>rfl
  |6=>rfl
  |7=>rfl
  |8=>rfl
  |9=>rfl
  |10=>rfl
  |11=>rfl
  |_+12=>rfl
 gren:=λi c x σ=>by cases c<;>rfl
 gref:=λi c x=>by cases c<;>rfl
 gfrz:=λi c x k=>by cases c<;>rfl
 ggl:=λi c x k=>by cases c<;>rfl
def cdT(t:Nat):Option TC:=bif bk t 4 then bc (.b)else bif bk t 9 then bc (.s)else bif bk t 37 then bc (.st 0)else bif bk t 51 then bc (.st 11)else bif bk t 57 then bc (.st 1)else bif bk t 64 then bc (.st 5)else bif bk t 87 then bc (.st 3)else bif bk t 94 then bc (.st 7)else bif bk t 96 then bc (.st 8)else bif bk t 98 then bc (.st 9)else bif bk t 100 then bc (.st 10)else bif bk t 119 then bc (.st 2)else bif bk t 156 then bc (.st 4)else bh
def nbT:NB:=λt=>bif bk t 31 then[(0,bf,57,.st 1),(1,bf,87,.st 3),(2,bf,64,.st 5),(3,bf,94,.st 7),(4,bf,96,.st 8),(5,bf,100,.st 10),(6,bf,98,.st 9)]else bif bk t 37 then[(4,bd,37,.st 0)]else bif bk t 57 then[(5,bd,37,.st 0)]else bif bk t 64 then[(2,bd,156,.st 4)]else bif bk t 67 then[(0,bd,51,.st 11)]else bif bk t 71 then[(0,bd,51,.st 11),(2,bf,57,.st 1),(3,bf,87,.st 3),(4,bf,64,.st 5),(5,bf,94,.st 7),(6,bf,96,.st 8),(7,bf,100,.st 10),(8,bf,8000098,.st 9),(10,bf,7000000,.l (.m (.s) (.b))),(11,bf,7000000,.l (.m (.s) (.b))),(12,bf,7000000,.l (.m (.s) (.b))),(13,bf,7000000,.l (.m (.s) (.b))),(14,bf,7000000,.l (.m (.s) (.b))),(15,bf,7000000,.l (.m (.s) (.b)))]else bif bk t 76 then[(0,bd,51,.st 11)]else bif bk t 87 then[(1,bf,119,.st 2)]else bif bk t 94 then[(1,bd,9,.s),(2,bd,9,.s),(12,bd,37,.st 0)]else bif bk t 96 then[(3,bd,156,.st 4)]else bif bk t 100 then[(5,bf,98,.st 9)]else[]
def zQ2:Tryz.prog.follows .mixedOrders=bf:=by kernel_rfl
variable[Fuel]
def zVt:ze bq 167:=zj (by kernel_rfl)
def zuj:ze bq 162:=zj (by kernel_rfl)
def zx8:ze bq 60:=zj (by kernel_rfl)
def zJe:ze bq 65:=zj (by kernel_rfl)
def ctk{f:Nat}{fn:Func}{code:Code}{T:CtT TS}{c:Ct TS}{h:HT TS c.co}(hf:Tryz.prog.funcs[f]?=bc fn)(hb:fn.body=bc code)(hB:ze bq f)(hT:CtT.OK bq T)(hr:∀x,((evF bq fn code T cdT KK nbT c [] h x).run,(evF bq fn code T cdT KK nbT c [] h x).tr bf)=(c.fn x,(evF bq fn code T cdT KK nbT c [] h x).tr bd)):ze bq f/\c.OK bq f :=
 ⟨hB,zQv (T:=T) (cd:=cdT) (kk:=KK) (nb:=nbT) (rc:=[]) (h:=h) zQ1 hf hb zQ2 hT (λx=>aQ Prod.fst (hr x)) (λx=>aQ Prod.snd (hr x))⟩
def zuk(a0:Int):Option (ak):=zCr a0
def zMr:Ct TS:=⟨[.ptr 1 0,.d (.i .i64) 0],[(1,.box 108 [.nilp,.nils])],[.i .i64],.tup [],[(1,.gn 0 (.s) 1)],[.s],bd,λx=>zuk x⟩
def zQ3:zMr.OK bq 167:=λx r h=>by
 obtain⟨h1,h2⟩:=zVs x r h;cases h1;exact kmp (by kernel_rfl) h2
def yX(a0:ak)(a1:ak):Option (Int×ak):=aN (grd (bg a0+bg a1<=140737488355328)) λ_=>bc (((bg a1:Nat):Int),a0++a1)
def zcs:Ct TS:=⟨[.ptr 1 0,.d .s 1],[(1,.gn 0 (.s) 0)],[.s,.s],.tup [.d (.i .i64) 2,.nili],[(1,.gn 0 (.s) 3)],[.i .i64,.s],bd,λx=>yX x.1 x.2⟩
def zjr:zcs.OK bq 162:=λx r h=>by
 obtain⟨_,h1,h2⟩:=bind_some h;cases h2;exact kmp (by kernel_rfl) (zrg zh9 1 x.1 x.2 (xo h1))
def qd(a0:ak):Option (ak):=bc a0
def oe:Ct TS:=⟨[.ptr 1 0],[(1,.gn 0 (.s) 0)],[.s],.d .s 1,[(1,.gn 0 (.s) 0)],[.s],bd,λx=>qd x⟩
def Jc:oe.OK bq 60:=λx r h=>by
 cases h;exact kmp (by kernel_rfl) (YW (T:=108) 1 x)
def yF(c0:(List ak))(c1:ak)(c2:Int):Nat->(Int×Int)->Option (Int)
 |0,_=>bh
 |K+1,q=>(bif (decide (q.2<c2))then(idx c0 q.2).bind λx1=>(bif (decide (((bg x1:Nat):Int)>(w64 (9223372036854775807-q.1))))then bh else yF c0 c1 c2 K ((w64 (q.1+((bg x1:Nat):Int))),(w64 (q.2+1))))else bc q.1)
def yG(c0:ak)(c1:(List ak))(c2:Int):Nat->(Int×ak)->Option (ak)
 |0,_=>bh
 |K+1,q=>(bif (decide (q.1<c2))then(idx c1 q.1).bind λx1=>aN (yX q.2 c0) λx2=>aN (yX x2.2 x1) λx3=>yG c0 c1 c2 K ((w64 (q.1+1)),x3.2)else bc q.2)
def jF(elems:(List ak))(sep:ak):Option (ak) :=
 (bif (decide (((bg elems:Nat):Int)=0))then bc ([]:ak)else(bif (decide (((bg elems:Nat):Int)=1))then(idx elems 0).bind λx1=>bc x1 else((bif (decide (((bg sep:Nat):Int)>0))then(grd ((w64 (((bg elems:Nat):Int)-1))≠0)).bind λ_=>(bif (decide (((bg sep:Nat):Int)>=(w64 (Int.tdiv 9223372036854775807 (w64 (((bg elems:Nat):Int)-1))))))then bh else bc (w64 (0+(w64 (((bg sep:Nat):Int)*(w64 (((bg elems:Nat):Int)-1)))))))else bc 0)).bind λx2=>aN (yF elems sep ((bg elems:Nat):Int) KK (x2,0)) λx4=>aN (zuk x4) λx5=>aN (idx elems 0) λx6=>aN (yX x5 x6) λx7=>aN (cut elems 1 ((bg elems:Nat):Int)) λx8=>aN (yG sep x8 ((bg x8:Nat):Int) KK (0,x7.2)) λx9=>aN (qd x9) λx10=>bc x10))
def zfl:Ct TS:=⟨[.d (.l (.s)) 0,.d .s 1],[],[.l (.s),.s],.d .s 2,[],[.s],bd,λx=>jF x.1 x.2⟩
def zct:ze bq 65/\zfl.OK bq 65:=ctk (T:=[(167,zMr),(162,zcs),(60,oe)]) (h:=.s .n (.s .n (.s .n (.s (.j ⟨[(0,.d (.l (.s)) 0),(1,.d .s 1),(5,.d (.i .i64) 2)],[],[.l (.s),.s],[.i .i64]⟩ bd .n) (.s (.s .n (.s (.l ⟨[(0,.d (.l (.s)) 0),(1,.d .s 1),(5,.d (.i .i64) 3),(39,.d (.l (.s)) 0),(40,.d (.i .i64) 2),(41,.d (.i .i64) 4)],[],[.l (.s),.s,.i .i64],[.i .i64,.i .i64]⟩ [(0,.d (.l (.s)) 0),(1,.d .s 1),(5,.d (.i .i64) 3)] [] [.i .i64] 1 (λx K v=>yF x.1 x.2.1 x.2.2 K v) .n) .n)) (.s .n (.s .n (.s .n (.s (.s .n (.s (.l ⟨[(1,.d .s 0),(8,.ptr 1000008 0),(63,.d (.l (.s)) 1),(64,.d (.i .i64) 2),(65,.d (.i .i64) 3)],[(1000008,.gn 0 (.s) 4)],[.s,.l (.s),.i .i64],[.i .i64,.s]⟩ [(8,.ptr 1000008 0)] [(1000008,.gn 0 (.s) 3)] [.s] 3 (λx K v=>yG x.1 x.2.1 x.2.2 K v) .n) .n)) .n))))))))) Tryz.func65 rfl zJe ⟨⟨zVt,zQ3⟩,⟨zuj,zjr⟩,⟨zx8,Jc⟩,trivial⟩ λx=>by kernel_rfl
def zVu(l:List ak)(sep:ak)(r:ak)(h:jF l sep=bc r):FnA bq 65 [.vs 1 (l.map EV.zTq),.str sep] [] (.str r) []:=kmp (by kernel_rfl) (zct.2 (l,sep) r h)
end Go.Proofs.YtffencjoddkghaaGreatDoor.J
namespace Go.Proofs.YtffencjoddkghaaGreatDoor
open Go Go.RowKit
def zgw(p q:Addr)(w:bG):
  CallsD bq 120 #[.pointer (bc p),.pointer (bc q)] .returning w λe u' w'=>e=.returned (.tuple #[])/\u'=.returning/\w'=w:=by
 refine callsD_of_wpS Tryz.func120 rfl λc₀ cs hu=>?_
 apply wpS_seq;apply wpS_region;simp[wpOpsS,go_sem,recoverD,hu,Tryz.ntmps120,Exit.thenS];apply wpS_seq;apply wpS_region;simp[wpOpsS,go_sem,Exit.thenS];refine wpS_cond (t:=bd) (by simp[Act.eval,eJ]) ?_;simp only[cF,if_false];refine wpS_of_wp (wp_skip ?_);cases c₀
 simp_all [bodyPostS,results,Tryz.results120]
def ta168(v:bu)(w:bG):(Instr.typeAssert (.iface 168 v) 20 168 bf).run bq w=.ok (.tuple #[v,.bool bf]) w:=by kernel_rfl
set_option maxHeartbeats 4000000 in
set_option maxRecDepth 1000000 in
theorem znn(p q:Addr)(x y:Int)(cp cq:bu)(w:bG)(hp:w.cell? p=bc cp)(hq:w.cell? q=bc cq)(zp:w.frozen? p=bd)(zq:w.frozen? q=bd)(hpq:p.block≠q.block)(lp:p.block<w.heap.size)(lq:q.block<w.heap.size):
  CallsD bq 120 #[.pointer (bc p),.pointer (bc q)] (.panicking [{ v:=.iface 168 (.agg #[.int .i64 x,.int .i64 y]),recovered:=bd }]) w λe u' w' =>
   e=.returned (.tuple #[])/\u'=.panicking [{ v:=.iface 168 (.agg #[.int .i64 x,.int .i64 y]),recovered:=bf }] /\
   w'=(((w.alloc (.cells #[.int .i64 x,.int .i64 y] 168)).setCell p (.int .i64 x)).setCell q (.int .i64 y)).drew:=by
 refine callsD_of_wpS Tryz.func120 rfl λc₀ cs hu=>?_
 apply wpS_seq;apply wpS_region;simp[wpOpsS,go_sem,recoverD,hu,Tryz.ntmps120,Exit.thenS];apply wpS_seq;apply wpS_region;simp[wpOpsS,go_sem,Exit.thenS];refine wpS_cond (t:=bf) (by simp[Act.eval,eJ]) ?_;simp only[if_true];apply wpS_seq;apply wpS_region;simp[wpOpsS,go_sem,Exit.thenS,ta168];apply wpS_seq;apply wpS_seq;apply wpS_region;simp[wpOpsS,go_sem,Exit.thenS];refine wpS_cond (t:=bd) (by simp[Act.eval,eJ]) ?_;simp only[cF,if_false];refine wpS_of_wp (wp_skip ?_);simp only[Exit.thenS];refine wpS_of_wp ?_;have mixed:=zbp
 have a1:∀o:Obj,(w.alloc o).heap[p.block]?=w.heap[p.block]?:=λo=>Lib.alloc_old w o p.block lp
 have a2:∀o:Obj,(w.alloc o).heap[q.block]?=w.heap[q.block]?:=λo=>Lib.alloc_old w o q.block lq
 have c1:∀o:Obj,(w.alloc o).drew.cell? p=bc cp:=λo=>by rw[<- hp];unfold World.cell?;rw[show(w.alloc o).drew.heap=(w.alloc o).heap from rfl,a1]
 have z1:∀o:Obj,(w.alloc o).frozen? p=bd:=λo=>by rw[<- zp];unfold World.frozen?;rw[a1]
 have c2:∀o:Obj,((w.alloc o).setCell p (.int .i64 x)).cell? q=bc cq:=λo=>by
  rw[<- hq];unfold World.cell?;rw[Below.heap_setCell _ _ _ _ (λe=>hpq e.symm),a2]
 have z2:∀o:Obj,((w.alloc o).setCell p (.int .i64 x)).frozen? q=bd:=λo=>by
  rw[<- zq];unfold World.frozen?;rw[Below.heap_setCell _ _ _ _ (λe=>hpq e.symm),a2]
 have c3:((w.alloc (.cells #[.int .i64 x,.int .i64 y] 168)).setCell p (.int .i64 x)).cell? ⟨w.heap.size,1,bh⟩=bc (.int .i64 y):=by
  unfold World.cell?;rw[Below.heap_setCell _ _ _ _ (λe=>by simp only at e;omega)];rw[World.alloc_heap_new];rfl
 simp[eJ]
 go_region_o
 all_goals simp[bodyPostS,results,Tryz.results120]
def zjs{w1:bG}{n:Nat}(h1:w1.heap[n]?=bc (.cells #[.int .i64 0] 3))(h2:w1.heap[n+1]?=bc (.cells #[.int .i64 0] 32))(x y:bu):
  w1.cell? ⟨n,0,bh⟩=bc (.int .i64 0)/\(w1.setCell ⟨n,0,bh⟩ x).cell? ⟨n+1,0,bh⟩=bc (.int .i64 0)/\w1.frozen? ⟨n,0,bh⟩=bd/\(w1.setCell ⟨n,0,bh⟩ x).frozen? ⟨n+1,0,bh⟩=bd /\
  ((w1.setCell ⟨n,0,bh⟩ x).setCell ⟨n+1,0,bh⟩ y).cell? ⟨n,0,bh⟩=bc x/\((w1.setCell ⟨n,0,bh⟩ x).setCell ⟨n+1,0,bh⟩ y).cell? ⟨n+1,0,bh⟩=bc y:=by
 have e2:(w1.setCell ⟨n,0,bh⟩ x).heap[n+1]?=bc (.cells #[.int .i64 0] 32):=(Below.heap_setCell _ _ _ _ (λe=>by simp at e)).trans h2
 have e1:(w1.setCell ⟨n,0,bh⟩ x).heap[n]?=bc (.cells #[x] 3):=by
  simp[World.setCell,dh,h1]
 have e3:((w1.setCell ⟨n,0,bh⟩ x).setCell ⟨n+1,0,bh⟩ y).heap[n+1]?=bc (.cells #[y] 32):=by
  rw[show ∀W:bG,(W.setCell ⟨n+1,0,bh⟩ y).heap[n+1]?=W.heap[n+1]?.map λo=>match o with|.cells c t r=>.cells (c.setIfInBounds 0 y) t r|o=>o from λW=>by simp[World.setCell,dh];rfl,e2];rfl
 refine⟨by rw[Lib.cell_of_heap h1];rfl,by rw[Lib.cell_of_heap e2];rfl,Lib.frozen_of_heap h1 0,Lib.frozen_of_heap e2 0,?_,by rw[Lib.cell_of_heap e3];rfl⟩;unfold World.cell?;rw[Below.heap_setCell _ _ _ _ (λe=>by simp at e),e1];rfl
def zCs{w1:bG}{n:Nat}(h1:w1.heap[n]?=bc (.cells #[.int .i64 0] 3))(h2:w1.heap[n+1]?=bc (.cells #[.int .i64 0] 32))(o:Obj):
  n<w1.heap.size/\n+1<w1.heap.size/\w1.cell? ⟨n,0,bh⟩=bc (.int .i64 0)/\w1.cell? ⟨n+1,0,bh⟩=bc (.int .i64 0)/\w1.frozen? ⟨n,0,bh⟩=bd/\w1.frozen? ⟨n+1,0,bh⟩=bd /\
  (w1.alloc o).heap[n]?=bc (.cells #[.int .i64 0] 3)/\(w1.alloc o).heap[n+1]?=bc (.cells #[.int .i64 0] 32):=by
 have l2:n+1<w1.heap.size:=(Array.getElem?_eq_some_iff.1 h2).1;have l1:n<w1.heap.size:=Nat.lt_of_succ_lt l2;exact⟨l1,l2,by rw[Lib.cell_of_heap h1];rfl,by rw[Lib.cell_of_heap h2];rfl,Lib.frozen_of_heap h1 0,Lib.frozen_of_heap h2 0,(Lib.alloc_old w1 o n l1).trans h1,(Lib.alloc_old w1 o _ l2).trans h2⟩
def zJf(pv a b:bu)(w:bG)(Q:bG->Prop)
  (hread:Calls bq 39 #[a,b] ((w.alloc (.cells #[.int .i64 0] 3)).alloc (.cells #[.int .i64 0] 32)) λe w'=>e=.returned (.tuple #[])/\w'.heap[w.heap.size]?=bc (.cells #[.int .i64 0] 3)/\w'.heap[w.heap.size+1]?=bc (.cells #[.int .i64 0] 32)/\Q w'):
  Calls bq 35 #[pv,.func (.func 39) #[] #[a,b]] w λe w'=>e=.returned (.tuple #[.int .i64 0,.int .i64 0])/\∃w1,w1.heap[w.heap.size]?=bc (.cells #[.int .i64 0] 3)/\w1.heap[w.heap.size+1]?=bc (.cells #[.int .i64 0] 32)/\Q w1/\w'=(w1.setCell ⟨w.heap.size,0,bh⟩ (.int .i64 0)).setCell ⟨w.heap.size+1,0,bh⟩ (.int .i64 0):=by
 have hmf:∀(fn:Fn)(first cap:Array bu)(w:bG),(Instr.makeFunc fn first cap).run bq w=.ok (.func fn first cap) w:=λ_ _ _ _=>rfl
 go_enter_defers Tryz.func35,Tryz.ntmps35
 go_wp2_with (go_at_call 39;refine hread.mono ?_;rintro e w1 ⟨rfl,h1,h2,hQ⟩;obtain⟨c1,c2,z1,z2,d1,d2⟩:=zjs h1 h2 (.int .i64 0) (.int .i64 0))
 refine leaves_cons (f:=120) (args:=#[.pointer (bc ⟨w.heap.size,0,bh⟩),.pointer (bc ⟨w.heap.size+1,0,bh⟩)]) af (by simp[go_sem]) ?_;refine(zgw ⟨w.heap.size,0,bh⟩ ⟨w.heap.size+1,0,bh⟩ _).mono ?_;rintro e u' w'' ⟨rfl,rfl,rfl⟩;simp[Leaves,settle,results,Tryz.results35,go_sem,d1,d2];exact⟨w1,h1,h2,hQ,rfl⟩
def zCt(pv a b:bu)(x y:Int)(w:bG)(Q:bG->Prop)
  (hread:Calls bq 39 #[a,b] ((w.alloc (.cells #[.int .i64 0] 3)).alloc (.cells #[.int .i64 0] 32)) λe w'=>e=.panicked [{ v:=.iface 168 (.agg #[.int .i64 x,.int .i64 y]),recovered:=bd }]/\w'.heap[w.heap.size]?=bc (.cells #[.int .i64 0] 3)/\w'.heap[w.heap.size+1]?=bc (.cells #[.int .i64 0] 32)/\Q w'):
  Calls bq 35 #[pv,.func (.func 39) #[] #[a,b]] w λe w'=>e=.returned (.tuple #[.int .i64 x,.int .i64 y])/\∃w1,w1.heap[w.heap.size]?=bc (.cells #[.int .i64 0] 3)/\w1.heap[w.heap.size+1]?=bc (.cells #[.int .i64 0] 32)/\Q w1/\w'=(((w1.alloc (.cells #[.int .i64 x,.int .i64 y] 168)).setCell ⟨w.heap.size,0,bh⟩ (.int .i64 x)).setCell ⟨w.heap.size+1,0,bh⟩ (.int .i64 y)).drew:=by
 have hmf:∀(fn:Fn)(first cap:Array bu)(w:bG),(Instr.makeFunc fn first cap).run bq w=.ok (.func fn first cap) w:=λ_ _ _ _=>rfl
 go_enter_defers Tryz.func35,Tryz.ntmps35
 go_wp2_with (go_at_call 39;refine hread.mono ?_;rintro e w1 ⟨rfl,h1,h2,hQ⟩)
 obtain⟨l1,l2,c1,c3,z1,z3,a1,a2⟩:=zCs h1 h2 (.cells #[.int .i64 x,.int .i64 y] 168);obtain⟨_,_,_,_,d1,d2⟩:=zjs a1 a2 (.int .i64 x) (.int .i64 y);refine leaves_cons (f:=120) (args:=#[.pointer (bc ⟨w.heap.size,0,bh⟩),.pointer (bc ⟨w.heap.size+1,0,bh⟩)]) af (by simp[go_sem]) ?_;refine(znn ⟨w.heap.size,0,bh⟩ ⟨w.heap.size+1,0,bh⟩ x y (.int .i64 0) (.int .i64 0) _ c1 c3 z1 z3 af l1 l2).mono ?_;rintro e u' w'' ⟨rfl,rfl,rfl⟩;simp[Leaves,settle,results,Tryz.results35,go_sem,d1,d2];exact⟨w1,h1,h2,hQ,rfl⟩
def zJg(pv a:bu)(w:bG)(Q:bG->Prop)
  (hread:Calls bq 36 #[a] ((w.alloc (.cells #[.int .i64 0] 3)).alloc (.cells #[.int .i64 0] 32)) λe w'=>e=.returned (.tuple #[])/\w'.heap[w.heap.size]?=bc (.cells #[.int .i64 0] 3)/\w'.heap[w.heap.size+1]?=bc (.cells #[.int .i64 0] 32)/\Q w'):
  Calls bq 35 #[pv,.func (.func 36) #[a] #[]] w λe w'=>e=.returned (.tuple #[.int .i64 0,.int .i64 0])/\∃w1,w1.heap[w.heap.size]?=bc (.cells #[.int .i64 0] 3)/\w1.heap[w.heap.size+1]?=bc (.cells #[.int .i64 0] 32)/\Q w1/\w'=(w1.setCell ⟨w.heap.size,0,bh⟩ (.int .i64 0)).setCell ⟨w.heap.size+1,0,bh⟩ (.int .i64 0):=by
 have hmf:∀(fn:Fn)(first cap:Array bu)(w:bG),(Instr.makeFunc fn first cap).run bq w=.ok (.func fn first cap) w:=λ_ _ _ _=>rfl
 go_enter_defers Tryz.func35,Tryz.ntmps35
 go_wp2_with (go_at_call 36;refine hread.mono ?_;rintro e w1 ⟨rfl,h1,h2,hQ⟩;obtain⟨c1,c2,z1,z2,d1,d2⟩:=zjs h1 h2 (.int .i64 0) (.int .i64 0))
 refine leaves_cons (f:=120) (args:=#[.pointer (bc ⟨w.heap.size,0,bh⟩),.pointer (bc ⟨w.heap.size+1,0,bh⟩)]) af (by simp[go_sem]) ?_;refine(zgw ⟨w.heap.size,0,bh⟩ ⟨w.heap.size+1,0,bh⟩ _).mono ?_;rintro e u' w'' ⟨rfl,rfl,rfl⟩;simp[Leaves,settle,results,Tryz.results35,go_sem,d1,d2];exact⟨w1,h1,h2,hQ,rfl⟩
def zCu(pv a:bu)(x y:Int)(w:bG)(Q:bG->Prop)
  (hread:Calls bq 36 #[a] ((w.alloc (.cells #[.int .i64 0] 3)).alloc (.cells #[.int .i64 0] 32)) λe w'=>e=.panicked [{ v:=.iface 168 (.agg #[.int .i64 x,.int .i64 y]),recovered:=bd }]/\w'.heap[w.heap.size]?=bc (.cells #[.int .i64 0] 3)/\w'.heap[w.heap.size+1]?=bc (.cells #[.int .i64 0] 32)/\Q w'):
  Calls bq 35 #[pv,.func (.func 36) #[a] #[]] w λe w'=>e=.returned (.tuple #[.int .i64 x,.int .i64 y])/\∃w1,w1.heap[w.heap.size]?=bc (.cells #[.int .i64 0] 3)/\w1.heap[w.heap.size+1]?=bc (.cells #[.int .i64 0] 32)/\Q w1/\w'=(((w1.alloc (.cells #[.int .i64 x,.int .i64 y] 168)).setCell ⟨w.heap.size,0,bh⟩ (.int .i64 x)).setCell ⟨w.heap.size+1,0,bh⟩ (.int .i64 y)).drew:=by
 have hmf:∀(fn:Fn)(first cap:Array bu)(w:bG),(Instr.makeFunc fn first cap).run bq w=.ok (.func fn first cap) w:=λ_ _ _ _=>rfl
 go_enter_defers Tryz.func35,Tryz.ntmps35
 go_wp2_with (go_at_call 36;refine hread.mono ?_;rintro e w1 ⟨rfl,h1,h2,hQ⟩)
 obtain⟨l1,l2,c1,c3,z1,z3,a1,a2⟩:=zCs h1 h2 (.cells #[.int .i64 x,.int .i64 y] 168);obtain⟨_,_,_,_,d1,d2⟩:=zjs a1 a2 (.int .i64 x) (.int .i64 y);refine leaves_cons (f:=120) (args:=#[.pointer (bc ⟨w.heap.size,0,bh⟩),.pointer (bc ⟨w.heap.size+1,0,bh⟩)]) af (by simp[go_sem]) ?_;refine(znn ⟨w.heap.size,0,bh⟩ ⟨w.heap.size+1,0,bh⟩ x y (.int .i64 0) (.int .i64 0) _ c1 c3 z1 z3 af l1 l2).mono ?_;rintro e u' w'' ⟨rfl,rfl,rfl⟩;simp[Leaves,settle,results,Tryz.results35,go_sem,d1,d2];exact⟨w1,h1,h2,hQ,rfl⟩
open Go.Eng Go.EV Go.EQ in
theorem WO{m:M}{Z:ZM}{F:ax}{w w':bG}(hs:wQ m Z F w)(h1:∀p∈F,∀b,blk m p b->w'.heap[b]?=w.heap[b]?)(h2:∀a x,Z a=bc x->w'.heap[a.block]?=w.heap[a.block]?):wQ m Z F w' :=
 ⟨λa x ha=>(by simp only[World.cell?,h2 a x ha]:w'.cell? a=w.cell? a).trans (hs.frozen a x ha),λp hp=>(hs.holds p hp).keep (λ_ _ _ e=>e) rfl (λ_ _ e=>e) λb hb=>⟨h1 p hp b hb,λ_ _ e _=>e⟩,hs.nodup,hs.disj⟩
open Go.Eng Go.EV Go.EQ in
theorem zax{m m':M}{Z Z':ZM}{F F':ax}{w w2 w1 w3:bG}{c:Nat}(h0:wQ m Z F w)(h2:Step m Z F w2 m' Z' F' w1)(s2:w.heap.size+c<=w2.heap.size)
  (o2:w2.os=w.os) (t2:w2.tape=w.tape) (u2:w2.output=w.output) (e2:∀b,b<w.heap.size->w2.heap[b]?=w.heap[b]?) (o3:w3.os=w1.os) (t3:w3.tape=w1.tape) (u3:w3.output=w1.output)
  (s3:w1.heap.size<=w3.heap.size) (e3:∀b,b<w1.heap.size->(b<w.heap.size∨w.heap.size+c<=b)->w3.heap[b]?=w1.heap[b]?):Step m Z F w m' Z' F' w3:=by
 have hold:∀q∈F,∀b,blk m q b->b<w.heap.size:=λq hq b hb=>(h0.holds q hq).blk b hb
 have hsz:=h2.size
 have hfr:∀a x,Z' a=bc x->a.block<w.heap.size∨w.heap.size+c<=a.block:=λa x ha=>by
  rcases h2.znew a x ha with h|h|⟨q,hq,hb⟩
  ·exact .inl (World.block_lt_of_cell? w a (h0.frozen a x h))
  ·exact .inr (cW s2 h)
  ·exact .inl (hold q hq _ hb)
 refine⟨WO h2.sim (λp hp b hb=>e3 b ((h2.sim.holds p hp).blk b hb) ?_) (λa x ha=>e3 a.block (World.block_lt_of_cell? w1 a (h2.sim.frozen a x ha)) (hfr a x ha)),h2.mext,h2.zext,o3.trans (h2.os.trans o2),t3.trans (h2.tape.trans t2),u3.trans (h2.output.trans u2),ab,λb hb hn=>?_,h2.keep,h2.newk,λp hp b hb=>?_,λa x ha=>?_⟩
 ·rcases h2.blks p hp b hb with h|⟨q,hq,hb⟩
  ·exact .inr (cW s2 h)
  ·exact .inl (hold q hq _ hb)
 ·exact(e3 b ab (.inl hb)).trans ((h2.frame b ab hn).trans (e2 b hb))
 ·exact(h2.blks p hp b hb).imp (λh=>ab) id
 ·exact(h2.znew a x ha).imp id (Or.imp (λh=>ab) id)
def wb(w:bG)(o o':Obj)(b:Nat)(hb:b<w.heap.size):((w.alloc o).alloc o').heap[b]?=w.heap[b]? :=
 (Lib.alloc_old _ o' b (by rw[show(w.alloc o).heap.size=w.heap.size+1 from ew _];omega)).trans (Lib.alloc_old w o b hb)
def Jd(w:bG)(o o':Obj):((w.alloc o).alloc o').heap.size=w.heap.size+2:=by
 rw[show((w.alloc o).alloc o').heap.size=(w.alloc o).heap.size+1 from ew _,show(w.alloc o).heap.size=w.heap.size+1 from ew _]
def j8(w:bG)(o o':Obj):((w.alloc o).alloc o').heap[w.heap.size]?=bc o/\((w.alloc o).alloc o').heap[w.heap.size+1]?=bc o':=by
 have h:(w.alloc o).heap.size=w.heap.size+1:=ew _;exact⟨(Lib.alloc_old _ o' _ ab).trans (World.alloc_heap_new w o),by rw[<- h];exact World.alloc_heap_new _ o'⟩
open Go.Eng Go.EV Go.EQ in
theorem zno{F F':ax}{pv a b:V}(h:FnA bq 39 [a,b] F (.tup []) F'):FnA bq 35 [pv,.fn 39 [] [a,b]] F (.tup [.int .i64 0,.int .i64 0]) F':=by
 intro w m Z vals hs hv hdom;obtain⟨p,xs,rfl,hp,hv⟩:=hv;obtain⟨q,ys,rfl,⟨l1,l2,rfl,r1,r2⟩,hv⟩:=hv;cases hv;cases r1;obtain⟨x1,_,rfl,k1,x2,_,rfl,k2,e⟩:=r2;cases e;have hs2:wQ m Z F ((w.alloc (.cells #[.int .i64 0] 3)).alloc (.cells #[.int .i64 0] 32)):=WO hs (λp hp b hb=>wb _ _ _ _ ((hs.holds p hp).blk b hb)) (λa x ha=>wb _ _ _ _ (World.block_lt_of_cell? w a (hs.frozen a x ha)));have hsz:=Jd w (.cells #[.int .i64 0] 3) (.cells #[.int .i64 0] 32)
 have hnb:∀b,w.heap.size<=b->∀p∈F,¬blk m p b:=λb hb p hp h=>aU ((hs.holds p hp).blk b h) ab
 have hr:=h _ m Z _ hs2 ⟨x1,_,rfl,k1,x2,_,rfl,k2,rfl⟩ hdom;refine Calls.mono (zJf p x1 x2 w (λw1=>∃m' Z',Step m Z F ((w.alloc (.cells #[.int .i64 0] 3)).alloc (.cells #[.int .i64 0] 32)) m' Z' F' w1) (Calls.mono hr ?_)) ?_
 ·rintro en w1 ⟨x,m',Z',rfl,st,l,rfl,hl⟩
  cases hl;exact⟨rfl,(st.frame _ ab (hnb _ aq)).trans (j8 w _ _).1,(st.frame _ ab (hnb _ ab)).trans (j8 w _ _).2,_,_,st⟩
 ·rintro en w3 ⟨rfl,w1,h1,h2,⟨m',Z',st⟩,rfl⟩
  refine⟨_,m',Z',rfl,zax (c:=2) hs st ab rfl rfl rfl (λb hb=>wb _ _ _ _ hb) rfl rfl rfl ?_ ?_,[.int .i64 0,.int .i64 0],rfl,_,_,rfl,rfl,_,_,rfl,rfl,rfl⟩
  ·simp[World.setCell]
  ·intro b hb hor
   rw[Below.heap_setCell _ _ _ _ (λe=>by simp only at e;omega),Below.heap_setCell _ _ _ _ (λe=>by simp only at e;omega)]
open Go.Eng Go.EV Go.EQ in
theorem zjt{F:ax}{pv a b:V}{x y:Int}(h:FnP bq 39 [a,b] F (.iface 168 (.agg #[.int .i64 x,.int .i64 y]))):FnA bq 35 [pv,.fn 39 [] [a,b]] F (.tup [.int .i64 x,.int .i64 y]) (zfh F):=by
 intro w m Z vals hs hv hdom;obtain⟨p,xs,rfl,hp,hv⟩:=hv;obtain⟨q,ys,rfl,⟨l1,l2,rfl,r1,r2⟩,hv⟩:=hv;cases hv;cases r1;obtain⟨x1,_,rfl,k1,x2,_,rfl,k2,e⟩:=r2;cases e;have hs2:wQ m Z F ((w.alloc (.cells #[.int .i64 0] 3)).alloc (.cells #[.int .i64 0] 32)):=WO hs (λp hp b hb=>wb _ _ _ _ ((hs.holds p hp).blk b hb)) (λa x ha=>wb _ _ _ _ (World.block_lt_of_cell? w a (hs.frozen a x ha)));have hsz:=Jd w (.cells #[.int .i64 0] 3) (.cells #[.int .i64 0] 32)
 have hnb:∀b,w.heap.size<=b->∀p∈F,¬blk m p b:=λb hb p hp h=>aU ((hs.holds p hp).blk b h) ab
 have hr:=h _ m Z _ hs2 ⟨x1,_,rfl,k1,x2,_,rfl,k2,rfl⟩ hdom;refine Calls.mono (zCt p x1 x2 x y w (λw1=>∃m' Z',Step m Z F ((w.alloc (.cells #[.int .i64 0] 3)).alloc (.cells #[.int .i64 0] 32)) m' Z' (zfh F) w1) (Calls.mono hr ?_)) ?_
 ·rintro en w1 ⟨rfl,Z',lo⟩
  have st:=lo.step hs2;exact⟨rfl,(st.frame _ ab (hnb _ aq)).trans (j8 w _ _).1,(st.frame _ ab (hnb _ ab)).trans (j8 w _ _).2,_,_,st⟩
 ·rintro en w3 ⟨rfl,w1,h1,h2,⟨m',Z',st⟩,rfl⟩
  refine⟨_,m',Z',rfl,zax (c:=2) hs st ab rfl rfl rfl (λb hb=>wb _ _ _ _ hb) rfl rfl rfl ?_ ?_,[.int .i64 x,.int .i64 y],rfl,_,_,rfl,rfl,_,_,rfl,rfl,rfl⟩
  ·have hsa:(w1.alloc (.cells #[.int .i64 x,.int .i64 y] 168)).heap.size=w1.heap.size+1:=ew _
   simp[World.setCell]
  ·intro b hb hor
   show(World.setCell (World.setCell _ _ _) _ _).heap[b]?=_
   rw[Below.heap_setCell _ _ _ _ (λe=>by simp only at e;omega),Below.heap_setCell _ _ _ _ (λe=>by simp only at e;omega)];exact Lib.alloc_old _ _ _ hb
open Go.Eng Go.EV Go.EQ in
theorem znp{F F':ax}{pv a:V}(h:FnA bq 36 [a] F (.tup []) F'):FnA bq 35 [pv,.fn 36 [a] []] F (.tup [.int .i64 0,.int .i64 0]) F':=by
 intro w m Z vals hs hv hdom;obtain⟨p,xs,rfl,hp,hv⟩:=hv;obtain⟨q,ys,rfl,⟨l1,l2,rfl,r1,r2⟩,hv⟩:=hv;cases hv;cases r2;obtain⟨x1,_,rfl,k1,e⟩:=r1;cases e;have hs2:wQ m Z F ((w.alloc (.cells #[.int .i64 0] 3)).alloc (.cells #[.int .i64 0] 32)):=WO hs (λp hp b hb=>wb _ _ _ _ ((hs.holds p hp).blk b hb)) (λa x ha=>wb _ _ _ _ (World.block_lt_of_cell? w a (hs.frozen a x ha)));have hsz:=Jd w (.cells #[.int .i64 0] 3) (.cells #[.int .i64 0] 32)
 have hnb:∀b,w.heap.size<=b->∀p∈F,¬blk m p b:=λb hb p hp h=>aU ((hs.holds p hp).blk b h) ab
 have hr:=h _ m Z _ hs2 ⟨x1,_,rfl,k1,rfl⟩ hdom;refine Calls.mono (zJg p x1 w (λw1=>∃m' Z',Step m Z F ((w.alloc (.cells #[.int .i64 0] 3)).alloc (.cells #[.int .i64 0] 32)) m' Z' F' w1) (Calls.mono hr ?_)) ?_
 ·rintro en w1 ⟨x,m',Z',rfl,st,l,rfl,hl⟩
  cases hl;exact⟨rfl,(st.frame _ ab (hnb _ aq)).trans (j8 w _ _).1,(st.frame _ ab (hnb _ ab)).trans (j8 w _ _).2,_,_,st⟩
 ·rintro en w3 ⟨rfl,w1,h1,h2,⟨m',Z',st⟩,rfl⟩
  refine⟨_,m',Z',rfl,zax (c:=2) hs st ab rfl rfl rfl (λb hb=>wb _ _ _ _ hb) rfl rfl rfl ?_ ?_,[.int .i64 0,.int .i64 0],rfl,_,_,rfl,rfl,_,_,rfl,rfl,rfl⟩
  ·simp[World.setCell]
  ·intro b hb hor
   rw[Below.heap_setCell _ _ _ _ (λe=>by simp only at e;omega),Below.heap_setCell _ _ _ _ (λe=>by simp only at e;omega)]
open Go.Eng Go.EV Go.EQ in
theorem zju{F:ax}{pv a:V}{x y:Int}(h:FnP bq 36 [a] F (.iface 168 (.agg #[.int .i64 x,.int .i64 y]))):FnA bq 35 [pv,.fn 36 [a] []] F (.tup [.int .i64 x,.int .i64 y]) (zfh F):=by
 intro w m Z vals hs hv hdom;obtain⟨p,xs,rfl,hp,hv⟩:=hv;obtain⟨q,ys,rfl,⟨l1,l2,rfl,r1,r2⟩,hv⟩:=hv;cases hv;cases r2;obtain⟨x1,_,rfl,k1,e⟩:=r1;cases e;have hs2:wQ m Z F ((w.alloc (.cells #[.int .i64 0] 3)).alloc (.cells #[.int .i64 0] 32)):=WO hs (λp hp b hb=>wb _ _ _ _ ((hs.holds p hp).blk b hb)) (λa x ha=>wb _ _ _ _ (World.block_lt_of_cell? w a (hs.frozen a x ha)));have hsz:=Jd w (.cells #[.int .i64 0] 3) (.cells #[.int .i64 0] 32)
 have hnb:∀b,w.heap.size<=b->∀p∈F,¬blk m p b:=λb hb p hp h=>aU ((hs.holds p hp).blk b h) ab
 have hr:=h _ m Z _ hs2 ⟨x1,_,rfl,k1,rfl⟩ hdom;refine Calls.mono (zCu p x1 x y w (λw1=>∃m' Z',Step m Z F ((w.alloc (.cells #[.int .i64 0] 3)).alloc (.cells #[.int .i64 0] 32)) m' Z' (zfh F) w1) (Calls.mono hr ?_)) ?_
 ·rintro en w1 ⟨rfl,Z',lo⟩
  have st:=lo.step hs2;exact⟨rfl,(st.frame _ ab (hnb _ aq)).trans (j8 w _ _).1,(st.frame _ ab (hnb _ ab)).trans (j8 w _ _).2,_,_,st⟩
 ·rintro en w3 ⟨rfl,w1,h1,h2,⟨m',Z',st⟩,rfl⟩
  refine⟨_,m',Z',rfl,zax (c:=2) hs st ab rfl rfl rfl (λb hb=>wb _ _ _ _ hb) rfl rfl rfl ?_ ?_,[.int .i64 x,.int .i64 y],rfl,_,_,rfl,rfl,_,_,rfl,rfl,rfl⟩
  ·have hsa:(w1.alloc (.cells #[.int .i64 x,.int .i64 y] 168)).heap.size=w1.heap.size+1:=ew _
   simp[World.setCell]
  ·intro b hb hor
   show(World.setCell (World.setCell _ _ _) _ _).heap[b]?=_
   rw[Below.heap_setCell _ _ _ _ (λe=>by simp only at e;omega),Below.heap_setCell _ _ _ _ (λe=>by simp only at e;omega)];exact Lib.alloc_old _ _ _ hb
end Go.Proofs.YtffencjoddkghaaGreatDoor
