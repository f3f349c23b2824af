/- texts that the proof reaches, part 7 -/
import Derived.Test.YtffencjoddkghaaGreatDoorKf
import Derived.Lib.MakeNoZero
import Derived.Defers
import Derived.Recover
import Derived.Laws.Pointers
set_option linter.all false
namespace Go.EQ
open Go Go.RowKit Go.Eng Go.EV
def FnD(P:Program)(f:FuncId)(args:List V)(F:Heap)(r:V)(F':Heap):Prop :=
 ∀w m Z vals u,wH m Z F w->zW (some m) Z args vals ->
  CallsDIn Fence.wide 0 P f vals.toArray u w λen u' w'=>u'=u/\∃x m' Z',en=.returned x/\Step m Z F w m' Z' F' w'/\Rep (some m') Z' r x
def znh(l:List (Nat⊕Deferred)):List Nat:=l.filterMap Sum.getLeft?
def zni(l:List (Nat⊕Deferred)):List Deferred:=l.filterMap Sum.getRight?
def unS(l:List (Nat⊕Deferred)):List Deferred:=l.map (Sum.elim Eng.mark id)
section
variable{K0:List Nat}{c:Ctx K0}{P:Program}{fn:Func}{tmps:Array Value}{R:Ending->World->Prop}
def znj{m:M}{Z:ZM}{H:Heap}{w:World}{D:Nat}(h3:w.heap[D]?=some (.deferred (some [])))(h4:c.W0.heap.size<=D)(S:QX c m Z H w):QX c m Z H (w.putObj D (.deferred none)) :=
 S.lps (row:=some D) (Eng.QF w D _) λb e=>by cases e;exact⟨h4,_,h3,rfl⟩
def zgq{w:World}{D:Nat}{l:List Nat}(hn:D ∉ l)(h:∀D'∈l,w.heap[D']?=some (.deferred (some []))/\c.W0.heap.size<=D'):∀D'∈l,(w.putObj D (.deferred none)).heap[D']?=some (.deferred (some []))/\c.W0.heap.size<=D':=λD' hD'=>by
 obtain⟨h7,h8⟩:=h D' hD';exact⟨(World.putObj_heap_other (λe=>hn (by first|(rw[<- e];exact hD')|(rw[e];exact hD')))).trans h7,h8⟩
def Km{m:M}{Z:ZM}{H:Heap}:∀(l:List (Nat⊕Deferred))(w:World),zni l=[]->(znh l).Nodup->(∀D∈znh l,w.heap[D]?=some (.deferred (some []))/\c.W0.heap.size<=D)->QX c m Z H w ->
  (∀w2,QX c m Z H w2->∃v,(results fn tmps).run P w2=.ok v w2/\R (.returned v) w2)->LeavesInM Fence.wide 0 P fn tmps R (unS l) .returning w
 |[],w,_,_,_,S,h=>h w S
 |.inl D::l,w,hr,hn,hD,S,h=>by
  have hn':D ∉ znh l/\(znh l).Nodup:=List.nodup_cons.1 hn;obtain⟨h3,h4⟩:=hD D al;exact⟨af,.inl ⟨D,_,rfl,run_takeDeferred h3,Km l _ hr hn'.2 (zgq hn'.1 λD' hD'=>hD D' (mcQ _ hD')) (znj h3 h4 S) h⟩⟩
 |.inr d::l,w,hr,_,_,_,_=>by simp[zni]at hr
def zgr{m:M}{Z:ZM}{H:Heap}{fv:FuncId}{dargs:List Value}(hnr:∀w,(callFunc fv dargs.toArray).run P w=.ok (.enter fv dargs.toArray) w)
  (hcall:∀w,QX c m Z H w->CallsDIn Fence.wide 0 P fv dargs.toArray .returning w λen u' w'=>u'=.returning/\∃x m' Z' H',en=.returned x/\Step m Z H w m' Z' H' w'/\QX c m' Z' H' w'/\∀w2,QX c m' Z' H' w2->∃v,(results fn tmps).run P w2=.ok v w2/\R (.returned v) w2):
  ∀(l:List (Nat⊕Deferred))(w:World),zni l=[{ target:=.fn (.func fv) #[],args:=dargs.toArray }]->(znh l).Nodup->(∀D∈znh l,w.heap[D]?=some (.deferred (some []))/\c.W0.heap.size<=D)->QX c m Z H w ->
  LeavesInM Fence.wide 0 P fn tmps R (unS l) .returning w
 |[],w,hr,_,_,_=>by cases hr
 |.inl D::l,w,hr,hn,hD,S=>by
  have hn':D ∉ znh l/\(znh l).Nodup:=List.nodup_cons.1 hn;obtain⟨h3,h4⟩:=hD D al;exact⟨af,.inl ⟨D,_,rfl,run_takeDeferred h3,zgr hnr hcall l _ hr hn'.2 (zgq hn'.1 λD' hD'=>hD D' (mcQ _ hD')) (znj h3 h4 S)⟩⟩
 |.inr d::l,w,hr,hn,hD,S=>by
  have hr':d={ target:=.fn (.func fv) #[],args:=dargs.toArray }/\zni l=[]:=by
   have:d::zni l=[{ target:=.fn (.func fv) #[],args:=dargs.toArray }]:=hr;simp only[List.cons.injEq]at this;exact this
  obtain⟨rfl,hr0⟩:=hr';refine⟨af,.inr ⟨λhx=>by simp[Fence.wide]at hx,.func fv,#[],fv,dargs.toArray,rfl,?_,λ_ _=>trivial,?_⟩⟩
  ·show(callFunc fv (dargs.toArray++#[])).run P w=_
   rw[Array.append_empty];exact hnr w
  ·refine(hcall w S).mono ?_
   rintro en u' w' ⟨rfl,x,m',Z',H',rfl,st,S',hfin⟩;exact Km l w' hr0 hn (λD hD'=>⟨st.lp S.step.sim (hD D hD').1 rfl,(hD D hD').2⟩) S' hfin
def YG{T:Tab}{X:Cx T}{cc:Ctx X.K0}(hS:T.OK)(hT:CtT.OK X.P X.T)(hTP:X.POK)(hm:X.P.follows .mixedOrders=true){h:HT T X.rT.vs}{code:Code}{R:Type}{kn:AE T.T->AH T.T->Pg R}{E:AE T.T}{H:AH T.T}{r:R}{Q:zai}
  (hI:(wrap X h (ev X code) R none kn (λ_ _ _=>.fail) E H).Is r)
  (hn:∀E' H',(kn E' H').Is r->∀ρr w ds,K1 cc (eV E') (hV H') ρr w->xr cc ds w->Q .normal ρr ds w):
  ∀ρr w ds,K1 cc (eV E) (hV H) ρr w->xr cc ds w->Wp X.P none X.N code Q ρr ds w:=by
 intro ρr w ds SA hM
 have h1:WpV cc X.P none X.N code (λe ρ H _=>e=.normal/\∀ρr w ds,K1 cc ρ H ρr w->xr cc ds w->Q .normal ρr ds w) (eV E) (hV H) [] :=
  wQ (X:=X) (c:=cc) hS (oR hS hT hTP hm code) h R none kn (λ_ _ _=>.fail) E H r _ hI (λE' H' g=>⟨rfl,hn E' H' g⟩) (λ_ _ _ g=>(Is.fail g).elim) (λq i e _=>by cases e)
 refine zlw (h1 ρr w ds SA hM) ?_;rintro e ρr' ds' w' ⟨ρ,H',SA',hM',rfl,h2⟩;exact h2 _ _ _ SA' hM'
end
section
variable{S:Tab}
abbrev zI4(S:Tab):=(c:TC)->Nat->c.ty S.T->Option (c.ty S.T)
def zVq(X:Cx S)(D:zI4 S)(k:Nat)(E:AE S.T)(H:AH S.T):Pg (HL S.T X.rT.vs):=match H.get k with
 |some (.gn i c s)=>.bnd (D c i s) λs'=>zje X.rT X.K0 E (Zn H [(k,.gn i c s')]) X.x λv=>.ret (some v)
 |_=>.fail
def evW(X:Cx S)(r0 r1 r2:Code)(tc:Nat)(r3:Code)(d1:Nat)(B:Code)(D:zI4 S)(k0:Nat)(hB hB':HT S X.rT.vs)(E:AE S.T)(H:AH S.T):Pg (HL S.T X.rT.vs) :=
 wrap X .n (ev X r0) _ none (λE H=>wrap X .n (ev X r1) _ none (λE H=>wrap X .n (ev X r2) _ none (λE H=>match evA E (.tmp tc)with
  |.dat .b b=>.cnd b
   (wrap X .n (ev X r3) _ none (λE H=>match evA E (.tmp 0)with
    |.raw (.ptr k 0 0)=>bif Nat.beq k k0&&Nat.ble (d1+1) X.N then
      wrap X hB (ev X B) _ none (λE H=>zVq X D k0 E H) (λ_ _ _=>.fail) ((d1,.raw (.ptr k0 0 0))::E) H else .fail
    |_=>.fail) (λ_ _ _=>.fail) E H)
   (wrap X hB' (ev X B) _ none (λE H=>zje X.rT X.K0 E H X.x λv=>.ret (some v)) (λ_ _ _=>.fail) E H)
  |_=>.fail) (λ_ _ _=>.fail) E H) (λ_ _ _=>.fail) E H) (λ_ _ _=>.fail) E H
def zQs{P:Program}{N:Nat}{Q:zai}{ρr:yJ}{ds:List Deferred}{w:World}{id d1 f:Nat}{sc:Value}{ty1 ty2:TypeId}{pos1 pos2:String}{aft1 aft2:Array Edge}{ts:Array TypeId}(hd:d1<N)
  (h:Q .normal (upd ρr d1 (ρr 0)) ({ target:=.fn (.func f) #[],args:=#[ρr 0,sc] }::ds) w):
  Wp P none N (.region id #[⟨some d1,.move (.tmp 0),ty1,pos1,aft1,none⟩,⟨none,.defer ⟨.value (.func f),#[.tmp d1,.const sc],ts⟩,ty2,pos2,aft2,none⟩] false) Q ρr ds w:=by
 refine zta (l:=[_,_]) λa n hf=>?_
 have h1:=hf.put hd (ρr 0);have e1:a.eval=Eng.ev ρr:=hf.eval;have e2:(a.put (some d1) (ρr 0)).eval=Eng.ev (upd ρr d1 (ρr 0)):=h1.eval;simp only[wpListIn,Region.wanted,if_true];refine⟨λ_ _=>trivial,?_⟩;rw[AB ai,e1]
 show Oper.uponIn _ _ _ _ _ _ _ (.ok (.value (ρr 0)) w)
 rw[Oper.uponIn_value];refine⟨λ_ _=>trivial,?_⟩;rw[show(Fw none).round=none from rfl,Oper.semAt_none,e2]
 have e3:upd ρr d1 (ρr 0) d1=ρr 0:=by simp[upd]
 have e4:(execOp (Eng.ev (upd ρr d1 (ρr 0))) ⟨none,.defer ⟨.value (.func f),#[.tmp d1,.const sc],ts⟩,ty2,pos2,aft2,none⟩).run P w=.ok (.defer { target:=.fn (.func f) #[],args:=#[ρr 0,sc] }) w:=by
  simp[execOp,resolve,Deferred.ofValue,Eng.ev,e3]
 rw[e4,Oper.uponIn_defer];exact⟨_,_,⟨h1.size,by show _::(a.put (some d1) (ρr 0)).defers=_;rw[h1.defs],h1.get⟩,h⟩
def zVr{X:Cx S}{cc:Ctx X.K0}{m:M}{Z:ZM}{H:Heap}{w:World}{bs:List Deferred}(h:QX cc m Z H w):QX (K0:=X.K0) { cc with base:=bs } m Z H w:=⟨h.step,h.dom⟩
def zI5(hS:S.OK){P:Program}{f:Nat}{fn:Func}{r0 r1 r2 r3 B:Code}{tc d1 fW id4 k0:Nat}{l:ak}{ty1 ty2:TypeId}{pos1 pos2:String}{aft1 aft2:Array Edge}{ts:Array TypeId}{T:CtT S}{cd:Nat->Option TC}{kk:Nat}{nb:NB}{c:Ct S}{rs:List (Nat×Tp)}{D:zI4 S}{rD:V}{hB hB':HT S c.co}{rest:List Tp}
  (hf:P.funcs[f]?=some fn) (hb:fn.body=some (.seq r0 (.seq r1 (.seq (.seq r2 (.cond (.tmp tc) (.seq r3 (.region id4 #[⟨some d1,.move (.tmp 0),ty1,pos1,aft1,none⟩,⟨none,.defer ⟨.value (.func fW),#[.tmp d1,.const (.string ⟨l.toArray⟩)],ts⟩,ty2,pos2,aft2,none⟩] false)) .skip)) B))))
  (hm:P.follows .mixedOrders=true) (hT:CtT.OK P T) (hrs:zIt P [] c.hout fn.results.toList c.out=some rs) (hc:zVj fn.ntmps c rs=true) (hin:c.ins=.ptr k0 0::rest)
  (hD:∀ct i s s',D ct i s=some s'->∀k,FnD P fW [.ptr k 0 0,.str l] [(k,S.go i ct s)] rD [(k,S.go i ct s')]) (hfW:∀args w,(callFunc fW args).run P w=.ok (.enter fW args) w)
  (hrun:∀x,(evW (cxF P fn.ntmps T cd kk nb c rs x (c.hin.map (·.1))) r0 r1 r2 tc r3 d1 B D k0 hB hB' (zjj (Tp.puts c.hin (yR c.ci x) c.ins)) (od c.hin (yR c.ci x))).run=c.fn x)
  (htr:∀x,(evW (cxF P fn.ntmps T cd kk nb c rs x (c.hin.map (·.1))) r0 r1 r2 tc r3 d1 B D k0 hB hB' (zjj (Tp.puts c.hin (yR c.ci x) c.ins)) (od c.hin (yR c.ci x))).tr true=(evW (cxF P fn.ntmps T cd kk nb c rs x (c.hin.map (·.1))) r0 r1 r2 tc r3 d1 B D k0 hB hB' (zjj (Tp.puts c.hin (yR c.ci x) c.ins)) (od c.hin (yR c.ci x))).tr false):c.OK P f:=by
 intro x r hr
 let X:Cx S:=cxF P fn.ntmps T cd kk nb c rs x (c.hin.map (·.1))
 have hI:(evW X r0 r1 r2 tc r3 d1 B D k0 hB hB' (zjj (Tp.puts c.hin (yR c.ci x) c.ins)) (od c.hin (yR c.ci x))).Is r:=⟨(hrun x).trans hr,wM _ (htr x)⟩
 simp only[zVj,bn]at hc;obtain⟨c1,c2,c3,c4,c5⟩:=hc;simp only[ur,bn]at c3
 have oP:∀ds,keys (hV (od (S:=S) c.hout ds))=c.hout.map (·.1):=λds=>vf
 have hfin:zUp P fn (c.hin.map (·.1)) (c.out.put c.hout (yR c.ci x++yR c.co r)).v (hV (od c.hout (yR c.ci x++yR c.co r))) .ret
   (eV (zlq c.hout rs (yR c.ci x++yR c.co r))) (hV (od c.hout (yR c.ci x++yR c.co r))) []:=by
  refine⟨rfl,zCf hrs λt tp hmem=>by rw[J0,zjk (yA c1) hmem],Ya λp hp=>get_of_mem (by rw[oP];exact yA c4) hp,?_⟩;have hcl:=Ho (S:=S) hS (ins:=[c.out]) (hin:=c.hout) (ds:=yR c.ci x++yR c.co r) (by simp only[ur,bn];exact c3);simp only[EV.A7,bn,Tp.puts,A.vs,wG,List.append_nil]at hcl;simp only[zTq,bn,oP]at hcl ⊢;exact⟨c4,c5,hcl.1,hcl.2⟩
 intro w m Z vals hs hv hdom;have hvl:=hv.length
 have ha:vals.length<=fn.ntmps:=by
  rw[hvl,qV,AG,List.length_map];exact lb c2
 have hk0:keys (hV (od (S:=S) c.hin (yR c.ci x)))=X.K0:=vf
 let cc:Ctx X.K0:=⟨[],w,m,Z,_,hk0,λk hk=>hdom k (by rw[hk0];exact hk)⟩
 have S0:K1 cc (eV (zjj (Tp.puts c.hin (yR c.ci x) c.ins))) (hV (od c.hin (yR c.ci x))) (jI vals) w:=⟨m,Z,⟨Step.refl hs,λk hk=>hdom k hk⟩,λt=>by
  rw[zrf];have:=VK _ vals 0 t hv
  simpa[zb0,jI]using this⟩
 -- the thing's place
 obtain⟨loc0,pv,hl0,hp0,hv0⟩:∃loc pv,m k0 0=some loc/\jI vals 0=pv/\pv=.pointer (some ⟨loc.1,0,none⟩):=by
  rw[hin]at hv;simp only[Tp.puts,Tp.put,A.vs,A.v]at hv;obtain⟨y,ys,rfl,⟨g,loc,e1,e2,e3⟩,_⟩:=hv;cases e1;exact⟨loc,_,e2,rfl,by simpa[jI]using e3⟩
 let R:Ending->World->Prop:=λen w'=>∃y m' Z',en=.returned y/\Step m Z (hV (od c.hin (yR c.ci x))) w m' Z' (hV (od c.hout (yR c.ci x++yR c.co r))) w'/\Rep (some m') Z' (c.out.put c.hout (yR c.ci x++yR c.co r)).v y
 let Qe:zai:=λe ρr ds w'=>e=.normal/\∀tmps:Array Value,(∀t,tmps.getD t Go.undef=ρr t)->LeavesInM Fence.wide 0 P fn tmps R ds .returning w'
 have hend:∀(bs:List Deferred) E' H',(zje X.rT X.K0 E' H' X.x λv=>.ret (some v)).Is r->∀m' Z' ρr (tmps:Array Value) w2,(∀t,tmps.getD t Go.undef=ρr t)->QX { cc with base:=bs } m' Z' (hV H') w2->zlp m' Z' (eV E') ρr->∃v,(results fn tmps).run P w2=.ok v w2/\R (.returned v) w2:=by
  intro bs E' H' g m' Z' ρr tmps w2 ht S1 hR1;obtain⟨v,g1,g2⟩:=kD g;have e:=Is.ret g2;cases e;obtain⟨m2,Z2,S2,hR2⟩:=wo hS g1 _ _ _ ⟨m',Z',S1,hR1⟩;obtain⟨_,hres,hsel,hfb⟩:=hfin;simp only[zTq,bn]at hfb;obtain⟨q1,q2,q3,q4⟩:=hfb;obtain⟨m3,S3,hc3⟩:=S2.cut _ hsel q1 q2 q4;obtain⟨y,hy1,hy2⟩:=zf0 S2.step.sim hR2 hres (tmps:=tmps) ht;exact⟨y,hy1,y,m3,Z2,rfl,S3.step,hc3 _ _ q3 hy2⟩
 have hmain:Wp P none fn.ntmps (.seq r0 (.seq r1 (.seq (.seq r2 (.cond (.tmp tc) (.seq r3 (.region id4 #[⟨some d1,.move (.tmp 0),ty1,pos1,aft1,none⟩,⟨none,.defer ⟨.value (.func fW),#[.tmp d1,.const (.string ⟨l.toArray⟩)],ts⟩,ty2,pos2,aft2,none⟩] false)) .skip)) B))) Qe (jI vals) [] w:=by
  unfold evW at hI;refine zwt (YG (X:=X) (cc:=cc) hS hT (λe=>by cases e) hm hI (λE1 H1 g1 ρ1 w1 ds1 SA1 hM1=>?_) _ _ _ S0 (xr.nil rfl));refine zwt (YG (X:=X) (cc:=cc) hS hT (λe=>by cases e) hm g1 (λE2 H2 g2 ρ2 w2 ds2 SA2 hM2=>?_) _ _ _ SA1 hM1);refine zwt (zwt (YG (X:=X) (cc:=cc) hS hT (λe=>by cases e) hm g2 (λE3 H3 g3 ρ3 w3 ds3 SA3 hM3=>?_) _ _ _ SA2 hM2));split at g3
  ·rename_i b hbt
   obtain⟨gt,gf⟩:=Is.cnd g3
   have hcv:Eng.ev ρ3 (.tmp tc)=.bool b:=by
    obtain⟨m3,Z3,S3,hR3⟩:=SA3;have:=hR3.ev (.tmp tc);rw[zZ,hbt]at this;exact this
   refine zLv b hcv (λhb1=>?_) (λhb1=>?_)
   ·refine zwt (YG (X:=X) (cc:=cc) hS hT (λe=>by cases e) hm (gt hb1) (λE4 H4 g4 ρ4 w4 ds4 SA4 hM4=>?_) _ _ _ SA3 hM3)
    split at g4
    ·rename_i k hpk
     cases hk:Nat.beq k k0&&Nat.ble (d1+1) X.N with
     |false=>rw[hk]at g4;exact(Is.fail g4).elim
     |true =>
      rw[hk,ctQ]at g4;simp only[bn]at hk;have hkk:=eb hk.1;subst hkk;have hd1:d1<fn.ntmps:=lb hk.2;obtain⟨m4,Z4,S4,hR4⟩:=SA4;have hm4:m4 k 0=some loc0:=S4.step.mext _ _ _ hl0
      have hpv:ρ4 0=.pointer (some ⟨loc0.1,0,none⟩):=by
       have:=hR4.ev (.tmp 0);rw[zZ,hpk]at this;obtain⟨g,loc,e1,e2,e3⟩:=this;cases e1;rw[hm4]at e2;cases e2;exact e3
      refine zQs (N:=fn.ntmps) hd1 ?_
      let dd:Deferred:={ target:=.fn (.func fW) #[],args:=#[ρ4 0,.string ⟨l.toArray⟩] }
      let cc1:Ctx X.K0:={ cc with base:=[dd] }
      have SA5:K1 cc1 (eV ((d1,.raw (.ptr k 0 0))::E4)) (hV H4) (upd ρ4 d1 (ρ4 0)) w4:=⟨m4,Z4,zVr S4,by
       refine hR4.put d1 (v:=.ptr k 0 0) ?_
       exact⟨m4,loc0,rfl,hm4,hpv⟩⟩
      have hM5:xr cc1 (dd::ds4) w4:=by
       obtain⟨lq,h1,h2,h3,h4,h5⟩:=hM4;refine⟨.inr dd::lq,by rw[h1];rfl,?_,h3,h4,λd hd D' e=>?_⟩
       ·show dd::lq.filterMap Sum.getRight?=[dd]
        rw[h2]
       ·cases msQ.1 hd;cases e
      refine YG (X:=X) (cc:=cc1) hS hT (λe=>by cases e) hm g4 (λE6 H6 g6 ρ6 w6 ds6 SA6 hM6=>?_) _ _ _ SA5 hM5;refine⟨rfl,λtmps ht=>?_⟩;unfold zVq at g6;split at g6
      ·rename_i i ct s hgk
       obtain⟨s',hs',g7⟩:=Is.bnd g6;obtain⟨m6,Z6,S6,hR6⟩:=SA6;obtain⟨lq,rfl,h2,h3,h4,h5⟩:=hM6;have hm6:m6 k 0=some loc0:=S6.step.mext _ _ _ hl0;refine zgr (c:=cc1) (m:=m6) (Z:=Z6) (H:=hV H6) (fv:=fW) (dargs:=[ρ4 0,.string ⟨l.toArray⟩]) (λw=>hfW _ w) (λw7 S7=>?_) lq w6 h2 h3 h4 S6
       have hsel:uD [k] H6=some [(k,.gn i ct s)]:=by simp only[uD,hgk]
       have hp:=vT S7.step.sim.nodup (List.nodup_cons.2 ⟨af,List.nodup_nil⟩) (vu hsel);have hs7:wH m6 Z6 ([(k,S.go i ct s)]++qR [k] (hV H6)) w7:=S7.step.sim.perm hp
       have hRp:zW (some m6) Z6 [.ptr k 0 0,.str l] [ρ4 0,.string ⟨l.toArray⟩]:=⟨_,_,rfl,⟨m6,loc0,rfl,hm6,hpv⟩,_,_,rfl,rfl,rfl⟩
       refine(hD ct i s s' hs' k w7 m6 Z6 _ .returning hs7.left hRp).mono ?_;rintro en u' w8 ⟨rfl,y,m8,Z8,rfl,st,_⟩
       have st2:=Step.frame_rule hs7 st λp hp q hq e=>by
        cases msQ.1 hp;have hn:=hs7.nodup;rw[zH]at hn;exact(List.nodup_append.1 hn).2.2 k (msQ.2 rfl) _ (mem_keys hq) e
       have hup:=(zjh (F:=[]) (H:=H6) (F':=[(k,.gn i ct s')]) (Rr:=[]) (kF:=[k]) (kR:=[]) S7.step.sim.nodup rfl (by simp[EQ.oP]) af rfl).1;have st3:Step m6 Z6 (hV H6) w7 m8 Z8 (hV (Zn H6 [(k,.gn i ct s')])) w8:=(st2.permL hp.symm).permR hup
       have hk6:∀k',k' ∉ keys (hV (Zn H6 [(k,.gn i ct s')]))->∀L,m8 k' L=none:=λk' hk' L=>by
        rw[st3.newk k' hk'];exact S7.dom k' (λh=>hk' (st3.keep k' h)) L
       have S8:QX cc1 m8 Z8 (hV (Zn H6 [(k,.gn i ct s')])) w8:=⟨S7.step.trans st3,hk6⟩
       have hR8:zlp m8 Z8 (eV E6) ρ6:=λt=>(hR6 t).up st3.zext (λg e=>by cases e;exact⟨m8,rfl,st3.mext⟩)
       exact⟨rfl,y,m8,Z8,_,rfl,st3,S8,λw9 S9=>hend [dd] E6 _ g7 m8 Z8 ρ6 tmps w9 ht S9 hR8⟩
      ·exact(Is.fail g6).elim
    ·exact(Is.fail g4).elim
   ·refine zqb (YG (X:=X) (cc:=cc) hS hT (λe=>by cases e) hm (gf hb1) (λE4 H4 g4 ρ4 w4 ds4 SA4 hM4=>?_) _ _ _ SA3 hM3)
    refine⟨rfl,λtmps ht=>?_⟩;obtain⟨m4,Z4,S4,hR4⟩:=SA4;obtain⟨lq,rfl,h2,h3,h4,h5⟩:=hM4
    exact Km lq w4 h2 h3 h4 S4 λw9 S9=>hend [] E4 H4 g4 m4 Z4 ρ4 tmps w9 ht S9 hR4
  ·exact(Is.fail g3).elim
 refine(callsIn_wide (n:=0)).1 (callsIn_of_wp_marks hf hb trivial ?_)
 refine wpIn_mono (hmain _ 0 ⟨?_,rfl,λt=>?_⟩) λe a w' hq=>?_
 ·simp;omega
 ·simp only[jI,Array.getD_eq_getD_getElem?,List.getD_eq_getElem?_getD]
  rw[Array.getElem?_append];split
  ·simp
  ·rename_i hlt
   simp only[List.size_toArray]at hlt;rw[List.getElem?_eq_none ab];simp only[List.size_toArray];rw[Array.getElem?_replicate];split<;>rfl
 ·obtain⟨ρr',ds',hf',rfl,h⟩:=hq
  have:=h a.tmps hf'.get;rw[<- hf'.defs]at this;exact this
end
end Go.EQ
namespace Go.Proofs.YtffencjoddkghaaGreatDoor
open Go Go.RowKit Go.Eng Go.EV Go.EQ
def zQt{T:Nat}(hT:zzn T)(k:Nat)(s t:ak)(hl:s.length+t.length<=140737488355328):FnD Tryz.prog 162 [.ptr k 0 0,.str t] [(k,sb T s)] (.tup [.int .i64 (t.length:Nat),.nili]) [(k,sb T (s++t))]:=by
 intro w m Z vals u hs hv;obtain⟨b,h1,h2⟩:=zCg hs;obtain⟨r,rfl,h3⟩:=Qb h1 hv;obtain⟨x,xs,rfl,rfl,h4⟩:=h3;cases h4;refine((zzp hT b _ ⟨t.toArray⟩ w h2 (by rw[Lib.byteCells_length,zcn];exact hl)).2 u).mono ?_;rintro en u' w' ⟨rfl,rfl,h5,h6⟩;rw[strCells_eq,<- V4]at h5;obtain⟨m',st⟩:=zcm hs h1 h5 h6;exact⟨rfl,_,m',Z,rfl,st,_,rfl,_,_,rfl,by rw[zcn];rfl,_,_,rfl,rfl,rfl⟩
def zCm(args:Array Value)(w:World):(callFunc 162 args).run Tryz.prog w=.ok (.enter 162 args) w:=enters_of Tryz.func162 aj rfl args w
def zzg(s:ak):Option ak:=(grd (List.length s+2<=140737488355328)).bind λ_=>some (s++[32,41])
class Fuel where
 n:Nat
 big:18446744073709551616<=n
def KK[Fuel]:Nat:=Fuel.n
open Go Go.RowKit
def size5:(Tryz.prog.info? 5).map (·.size)=some 1:=aj
set_option maxHeartbeats 2000000 in
set_option maxRecDepth 1000000 in
def zx1(b n:Nat)(w:World)(hbk:w.heap[b]?=some (.cells #[.pointer (some ⟨b,0,none⟩),.slice none 0 0] 108 (0,0)))(hn:n<=281474976710656):
  Calls Tryz.prog 212 #[.pointer (some ⟨b,0,none⟩),.int .i64 n] w λe w'=>e=.returned (.tuple #[])/\Lib.IsBuilderF 108 5 0 b [] w'/\H0 b w w':=by
 obtain⟨cs,hrun,hle,hmax⟩:=Lib.run_makeNoZero (P:=Tryz.prog) w.drew #[3] 106 5 Tryz.underlying106 n hn
 have hw:IntKind.i64.wrap (IntKind.i64.wrap 0+(n:Int))=n:=by
  rw[IntKind.wrap_i64,IntKind.wrap_i64];omega
 have hcall:(callFunc 227 #[.int .i64 (IntKind.i64.wrap (IntKind.i64.wrap 0+(n:Int)))]).run Tryz.prog w.drew=.ok (.value (.slice (some ⟨w.drew.heap.size,0,none⟩) n cs.size)) (w.drew.drew.drew.alloc (.cells cs 5)):=by
  rw[hw,run_callFunc_extern Tryz.func227 aj aj aj (e:=Extern.BytealgMakeNoZero.makeNoZero #[3] #[106]) aj,hrun];rfl
 have hlt:b<w.heap.size:=by
  rcases Nat.lt_or_ge b w.heap.size with h'|h'
  ·exact h'
  ·simp[Array.getElem?_eq_none h']at hbk
 have c1:w.drew.cell? ⟨b,1,none⟩=some (.slice none 0 0):=by
  have:w.drew.heap[b]?=_:=hbk;rw[Lib.cell_of_heap this];rfl
 have c2:(w.alloc (.cells cs 5)).cell? ⟨b,1,none⟩=some (.slice none 0 0):=by
  have:(w.alloc (.cells cs 5)).heap[b]?=_:=(Lib.alloc_old w _ b hlt).trans hbk;rw[Lib.cell_of_heap this];rfl
 have f2:(w.alloc (.cells cs 5)).frozen? ⟨b,1,none⟩=false:=Lib.frozen_of_heap ((Lib.alloc_old w _ b hlt).trans hbk) 1
 have hcopy:∀W:World,(Builtin.copy_ #[106,106] 3 #[.slice (some ⟨w.heap.size,0,none⟩) 0 cs.size,.slice none 0 0]).run Tryz.prog W=.ok (goInt 0) W :=
  λW=>run_copy_none W 106 106 3 5 _ _ 0 cs.size 0 0 Tryz.underlying106 size5 rfl
 have hfin:Lib.IsBuilderF 108 5 0 b [] ((w.setCell ⟨b,1,none⟩ (.slice (some ⟨w.heap.size,0,none⟩) 0 cs.size)).alloc (.cells cs 5)).drew.drew.drew/\H0 b w ((w.setCell ⟨b,1,none⟩ (.slice (some ⟨w.heap.size,0,none⟩) 0 cs.size)).alloc (.cells cs 5)).drew.drew.drew:=by
  have hm:=hmax (by unfold maxLen;omega)
  have hsz:(w.setCell ⟨b,1,none⟩ (.slice (some ⟨w.heap.size,0,none⟩) 0 cs.size)).heap.size=w.heap.size:=by simp[World.setCell]
  have e1:(w.setCell ⟨b,1,none⟩ (.slice (some ⟨w.heap.size,0,none⟩) 0 cs.size)).heap[b]?=some (.cells #[.pointer (some ⟨b,0,none⟩),.slice (some ⟨w.heap.size,0,none⟩) 0 cs.size] 108 (0,0)):=by simp[World.setCell,Array.getElem?_modify,hbk]
  have e2:((w.setCell ⟨b,1,none⟩ (.slice (some ⟨w.heap.size,0,none⟩) 0 cs.size)).alloc (.cells cs 5)).heap[b]?=some (.cells #[.pointer (some ⟨b,0,none⟩),.slice (some ⟨w.heap.size,0,none⟩) 0 cs.size] 108 (0,0)):=(Lib.alloc_old _ _ b (by rw[hsz];exact hlt)).trans e1
  have e3:((w.setCell ⟨b,1,none⟩ (.slice (some ⟨w.heap.size,0,none⟩) 0 cs.size)).alloc (.cells cs 5)).heap[w.heap.size]?=some (.cells cs 5 (0,0)):=by
   have:=heap_alloc_new (w.setCell ⟨b,1,none⟩ (.slice (some ⟨w.heap.size,0,none⟩) 0 cs.size)) (.cells cs 5)
   rwa [hsz]at this
  refine⟨.inr ⟨Nat.zero_le _,_,e2,⟨rfl,.inr ⟨w.heap.size,cs.size,cs,(0,0),rfl,Nat.zero_le _,e3,Nat.zero_le _,Nat.zero_le _,hm,af,af⟩⟩,by simp[Value.ownBlock];omega⟩,_,_,108,_,_,hbk,e2,rfl,rfl,rfl,?_,λk hk hkb _=>?_,λg hg=>?_,λg hg=>(by cases hg)⟩
  ·have:((w.setCell ⟨b,1,none⟩ (.slice (some ⟨w.heap.size,0,none⟩) 0 cs.size)).alloc (.cells cs 5)).heap.size=(w.setCell ⟨b,1,none⟩ (.slice (some ⟨w.heap.size,0,none⟩) 0 cs.size)).heap.size+1:=af
   exact Nat.le_trans (Nat.le_succ w.heap.size) (Nat.le_of_eq (congrArg (·+1) hsz.symm |>.trans this.symm))
  ·exact(Lib.alloc_old _ _ k (by rw[hsz];exact hk)).trans (Below.heap_setCell _ _ _ _ (λe=>hkb (by simp[e])))
  ·simp only[Value.ownBlock,Option.some.injEq]at hg
   exact .inl ab
 clear hw;have mixed:=zbp
 go_enter Tryz.func212,Tryz.ntmps212
 go_wp2
 go_region_o
 all_goals (go_wp2;go_end0;exact⟨rfl,hfin⟩)
def zI6{T b:Nat}{w:World}{p v:Value}(hbk:w.heap[b]?=some (.cells #[p,v] T (0,0))):w.shape? b=some (T,2):=by simp[World.shape?,hbk]
set_option maxHeartbeats 2000000 in
set_option maxRecDepth 1000000 in
def zI7(b n:Nat)(w:World)(hbk:w.heap[b]?=some (.cells #[.pointer none,.slice none 0 0] 108 (0,0)))(hn:n<=281474976710656):
  Calls Tryz.prog 167 #[.pointer (some ⟨b,0,none⟩),.int .i64 n] w λe w'=>e=.returned (.tuple #[])/\Lib.IsBuilderF 108 5 0 b [] w'/\H0 b w w':=by
 have hbk1:(w.setCell ⟨b,0,none⟩ (.pointer (some ⟨b,0,none⟩))).heap[b]?=some (.cells #[.pointer (some ⟨b,0,none⟩),.slice none 0 0] 108 (0,0)):=by
  simp[World.setCell,Array.getElem?_modify,hbk]
 have c1:(w.setCell ⟨b,0,none⟩ (.pointer (some ⟨b,0,none⟩))).cell? ⟨b,1,none⟩=some (.slice none 0 0):=by rw[Lib.cell_of_heap hbk1];rfl
 have c1':(w.setCell ⟨b,0,none⟩ (.pointer (some ⟨b,0,none⟩))).drew.cell? ⟨b,1,none⟩=some (.slice none 0 0):=c1;have hU:Lib.IsBuilderF 108 5 0 b [] (w.setCell ⟨b,0,none⟩ (.pointer (some ⟨b,0,none⟩))).drew:=.inr ⟨Nat.zero_le _,.slice none 0 0,hbk1,World.ownsRowF_nil _ _ _ _,by simp[Value.ownBlock]⟩
 have hk:∀k,k≠b->(w.setCell ⟨b,0,none⟩ (.pointer (some ⟨b,0,none⟩))).heap[k]?=w.heap[k]?:=λk hk=>Below.heap_setCell _ _ _ _ (λe=>hk (by simp[e]))
 have hsz:(w.setCell ⟨b,0,none⟩ (.pointer (some ⟨b,0,none⟩))).heap.size=w.heap.size:=by simp[World.setCell]
 have hT:H0 b w (w.setCell ⟨b,0,none⟩ (.pointer (some ⟨b,0,none⟩))).drew:=⟨_,_,108,_,_,hbk,hbk1,rfl,rfl,rfl,Nat.le_of_eq hsz.symm,λk _ hkb _=>hk k hkb,λg hg=>(by cases hg),λg hg=>(by cases hg)⟩
 have hT2:∀w',H0 b (w.setCell ⟨b,0,none⟩ (.pointer (some ⟨b,0,none⟩))).drew w'->H0 b w w':=λw' ⟨p,v,T,p',v',t1,t2,t3,t4,t5,t6,t7,t8,t9⟩=>by
  have t1':=hbk1.symm.trans t1;cases t1';refine⟨_,_,108,p',v',hbk,t2,t3,t4,t5,Nat.le_trans (Nat.le_of_eq hsz.symm) t6,λk hk1 hkb _=>?_,λg hg=>?_,λg hg=>(by cases hg)⟩
  ·exact(t7 k (Nat.lt_of_lt_of_le hk1 (Nat.le_of_eq hsz.symm)) hkb (by simp[Value.ownBlock])).trans (hk k hkb)
  ·rcases t8 g hg with h|h
   ·exact .inl (Nat.le_trans (Nat.le_of_eq hsz.symm) h)
   ·cases h
 have mixed:=zbp
 go_enter Tryz.func167,Tryz.ntmps167
 go_wp2_with (go_at_call 209;refine(zbo zh7 b w (by rw[Lib.cell_of_heap hbk];rfl) (zI6 hbk) (Lib.frozen_of_heap hbk 0)).mono ?_;rintro e w' ⟨rfl,rfl⟩)
 go_region_o
 all_goals go_wp2_with (go_at_call 212;refine(zx1 b n (w.setCell ⟨b,0,none⟩ (.pointer (some ⟨b,0,none⟩))).drew hbk1 hn).mono ?_;rintro e w' ⟨rfl,h1,h2⟩)
 all_goals first
  |(go_end0;exact⟨rfl,h1,hT2 _ h2⟩)
  |(go_end0;exact⟨rfl,hU,hT⟩)
open Go.Eng Go.EV Go.EQ in
def zI8(k n:Nat)(hn:n<=281474976710656):FnA Tryz.prog 167 [.ptr k 0 0,.int .i64 n] [(k,.box 108 [.nilp,.nils])] (.tup []) [(k,sb 108 [])]:=by
 intro w m Z vals hs hv _;obtain⟨h1,h2⟩:=zCi (hs.holds _ (msQ.2 rfl))
 have hs':wH m Z [(k,sb 108 [])] w:=⟨hs.frozen,λp hp=>by cases msQ.1 hp;exact h1,hs.nodup,λp hp q hq _ _ _=>by cases msQ.1 hp;cases msQ.1 hq;rfl⟩
 obtain⟨b,cur,g1,g2,⟨x,xs,e1,hx,y,ys,e2,hy,e3⟩,g4,g5⟩:=hs.holds _ (msQ.2 rfl);subst e3;subst e2;have hx:x=.pointer none:=hx;have hy:y=.slice none 0 0:=hy;subst hx;subst hy
 have hc:cur=#[.pointer none,.slice none 0 0]:=by
  apply Array.ext';rw[e1]
 subst hc;obtain⟨r,rfl,h3⟩:=Qb g1 hv;obtain⟨x,xs,rfl,rfl,h4⟩:=h3;cases h4;refine Calls.mono (zI7 b n w g2 hn) ?_;rintro en w' ⟨rfl,h5,h6⟩;obtain⟨m',st⟩:=zcm hs' g1 (s':=[]) h5 h6
 have hb:∀c,¬blk m (k,.box 108 [.nilp,.nils]) c->¬blk m (k,sb 108 []) c:=λc hn h=>hn (h2 c h)
 exact⟨_,m',Z,rfl,⟨st.sim,st.mext,st.zext,st.os,st.tape,st.output,st.size,λc hc hn=>st.frame c hc λp hp=>by cases msQ.1 hp;exact hb c (hn _ (msQ.2 rfl)),st.keep,st.newk,λp hp c hc=>(st.blks p hp c hc).imp id λ⟨q,hq,e⟩=>by cases msQ.1 hq;exact⟨_,msQ.2 rfl,h2 c e⟩,λa x ha=>(st.znew a x ha).imp id (Or.imp id λ⟨q,hq,e⟩=>by cases msQ.1 hq;exact⟨_,msQ.2 rfl,h2 _ e⟩)⟩,[],rfl,rfl⟩
end Go.Proofs.YtffencjoddkghaaGreatDoor
set_option maxRecDepth 100000
namespace Go.Proofs.YtffencjoddkghaaGreatDoor.J
open Go Go.RowKit Go.Eng Go.EV Go.EQ
structure Expr where
 Op:Int
 N:Int
 S:ak
 Key:ak
 Args:(List Expr)
instance:Inhabited Expr:=⟨⟨0,0,[],[],[]⟩⟩
mutual
def oS:Expr->List V
 |⟨a0,a1,a2,a3,a4⟩=>[.int .i64 a0,.int .i64 a1,.str a2,.str a3,.vs 5 (yK a4)]
def yK:List Expr->List (List V)
 |[]=>[]
 |x::r=>oS x::yK r
end
def vv(x:Expr):List V:=[.int .i64 x.Op,.int .i64 x.N,.str x.S,.str x.Key,.vs 5 (yK x.Args)]
def Ko(x:Expr):oS x=vv x:=by cases x;rw[oS];rfl
def j8:∀l:List Expr,yK l=l.map vv
 |[]=>by rw[yK];rfl
 |x::r=>by rw[yK,Ko,j8 r];rfl
structure Def where
 Name:ak
 Body:Expr
 deriving Inhabited
def Q6(x:Def):List V:=[.str x.Name,.int .i64 x.Body.Op,.int .i64 x.Body.N,.str x.Body.S,.str x.Body.Key,.vs 5 (yK x.Body.Args)]
structure Entry where
 Name:ak
 N:Int
 deriving Inhabited,DecidableEq
def qY(x:Entry):List V:=[.str x.Name,.int .i64 x.N]
structure Table where
 Name:ak
 Rows:(List Entry)
 Else:Int
 deriving Inhabited,DecidableEq
def oT(x:Table):List V:=[.str x.Name,.vs 2 (List.map qY x.Rows),.int .i64 x.Else]
structure zV where
 X:Int
 Y:Int
 deriving Inhabited,DecidableEq
def jC(x:zV):List V:=[.int .i64 x.X,.int .i64 x.Y]
structure yp where
 Name:ak
 Overlay:Bool
 Corners:(List zV)
 deriving Inhabited,DecidableEq
def Jg(x:yp):List V:=[.str x.Name,.bool x.Overlay,.vs 2 (List.map jC x.Corners)]
structure zy where
 Side:Int
 Base:Int
 Num:Int
 Den:Int
 deriving Inhabited,DecidableEq
def Kp(x:zy):List V:=[.int .i64 x.Side,.int .i64 x.Base,.int .i64 x.Num,.int .i64 x.Den]
structure zO where
 Name:ak
 Zones:(List ak)
 Except:(List ak)
 From:Int
 Until:Int
 Grace:Int
 Vary:Bool
 Kind:Int
 Test:Expr
 zy:zy
 Uses:Int
 Other:Int
 N:Int
 deriving Inhabited
def Jh(x:zO):List V:=[.str x.Name,.vs 1 (List.map EV.zO8 x.Zones),.vs 1 (List.map EV.zO8 x.Except),.int .i64 x.From,.int .i64 x.Until,.int .i64 x.Grace,.bool x.Vary,.int .i64 x.Kind,.int .i64 x.Test.Op,.int .i64 x.Test.N,.str x.Test.S,.str x.Test.Key,.vs 5 (yK x.Test.Args),.int .i64 x.zy.Side,.int .i64 x.zy.Base,.int .i64 x.zy.Num,.int .i64 x.zy.Den,.int .i64 x.Uses,.int .i64 x.Other,.int .i64 x.N]
structure Cap where
 Name:ak
 Load:Int
 Limit:Int
 Corners:(List zV)
 deriving Inhabited,DecidableEq
def Q7(x:Cap):List V:=[.str x.Name,.int .i64 x.Load,.int .i64 x.Limit,.vs 2 (List.map jC x.Corners)]
structure zg where
 X:Int
 Y:Int
 Z_:Int
 deriving Inhabited,DecidableEq
def vV(x:zg):List V:=[.int .i64 x.X,.int .i64 x.Y,.int .i64 x.Z_]
structure View where
 Name:ak
 Eye:zg
 Least:Int
 Targets:(List zg)
 deriving Inhabited,DecidableEq
def Ji(x:View):List V:=[.str x.Name,.int .i64 x.Eye.X,.int .i64 x.Eye.Y,.int .i64 x.Eye.Z_,.int .i64 x.Least,.vs 3 (List.map vV x.Targets)]
structure Token where
 Kind:Int
 Text:ak
 N:Int
 Pos:Int
 deriving Inhabited,DecidableEq
def V5(x:Token):List V:=[.int .i64 x.Kind,.str x.Text,.int .i64 x.N,.int .i64 x.Pos]
variable[QL]
def kmp{a b:Prop}(h:a=b)(x:a):b:=h▸x
def zCn(n:Int):Option ak:=(grd (0<=n/\n<=281474976710656)).bind λ_=>some []
def zVs(n:Int)(r:ak)(h:zCn n=some r):r=[]/\FnA Tryz.prog 167 [.ptr 1 0 0,.int .i64 n] [(1,.box 108 [.nilp,.nils])] (.tup []) [(1,sb 108 [])]:=by
 obtain⟨_,h1,h2⟩:=bind_some h;obtain⟨g1,g2⟩:=xl h1;cases h2;obtain⟨m,rfl⟩:=Int.eq_ofNat_of_zero_le g1;exact⟨rfl,zI8 1 m ab⟩
def zMl:Nat->Type
 |0=>Expr
 |1=>Def
 |2=>Entry
 |3=>Table
 |4=>zV
 |5=>yp
 |6=>zy
 |7=>zO
 |8=>Cap
 |9=>zg
 |10=>View
 |11=>Token
 |_=>Unit
def goT(i:Nat):(c:TC)->c.ty zMl->EV.Obj
 |.s,x=>sb (bif Nat.beq i 0 then 108 else 123) x
 |_,_=>.gen gone
def TS:Tab where
 T:=zMl
 dflt:=λn=>match n with
  |0=>(default:Expr)
  |1=>(default:Def)
  |2=>(default:Entry)
  |3=>(default:Table)
  |4=>(default:zV)
  |5=>(default:yp)
  |6=>(default:zy)
  |7=>(default:zO)
  |8=>(default:Cap)
  |9=>(default:zg)
  |10=>(default:View)
  |11=>(default:Token)
  |_+12=>()
 fl:=λn=>match n with
  |0=>[.i .i64,.i .i64,.s,.s,.l (.st 0)]
  |1=>[.s,.st 0]
  |2=>[.s,.i .i64]
  |3=>[.s,.l (.st 2),.i .i64]
  |4=>[.i .i64,.i .i64]
  |5=>[.s,.b,.l (.st 4)]
  |6=>[.i .i64,.i .i64,.i .i64,.i .i64]
  |7=>[.s,.l (.s),.l (.s),.i .i64,.i .i64,.i .i64,.b,.i .i64,.st 0,.st 6,.i .i64,.i .i64,.i .i64]
  |8=>[.s,.i .i64,.i .i64,.l (.st 4)]
  |9=>[.i .i64,.i .i64,.i .i64]
  |10=>[.s,.st 9,.i .i64,.l (.st 9)]
  |11=>[.i .i64,.s,.i .i64,.i .i64]
  |_+12=>[]
 cn:=λn=>match n with
  |0=>5
  |1=>6
  |2=>2
  |3=>3
  |4=>2
  |5=>3
  |6=>4
  |7=>20
  |8=>4
  |9=>3
  |10=>6
  |11=>4
  |_+12=>0
 out:=λn=>match n with
  |0=>λx=>((x:Expr).Op,(x:Expr).N,(x:Expr).S,(x:Expr).Key,(x:Expr).Args)
  |1=>λx=>((x:Def).Name,(x:Def).Body)
  |2=>λx=>((x:Entry).Name,(x:Entry).N)
  |3=>λx=>((x:Table).Name,(x:Table).Rows,(x:Table).Else)
  |4=>λx=>((x:zV).X,(x:zV).Y)
  |5=>λx=>((x:yp).Name,(x:yp).Overlay,(x:yp).Corners)
  |6=>λx=>((x:zy).Side,(x:zy).Base,(x:zy).Num,(x:zy).Den)
  |7=>λx=>((x:zO).Name,(x:zO).Zones,(x:zO).Except,(x:zO).From,(x:zO).Until,(x:zO).Grace,(x:zO).Vary,(x:zO).Kind,(x:zO).Test,(x:zO).zy,(x:zO).Uses,(x:zO).Other,(x:zO).N)
  |8=>λx=>((x:Cap).Name,(x:Cap).Load,(x:Cap).Limit,(x:Cap).Corners)
  |9=>λx=>((x:zg).X,(x:zg).Y,(x:zg).Z_)
  |10=>λx=>((x:View).Name,(x:View).Eye,(x:View).Least,(x:View).Targets)
  |11=>λx=>((x:Token).Kind,(x:Token).Text,(x:Token).N,(x:Token).Pos)
  |_+12=>λ_=>()
 inj:=λn=>match n with
  |0=>λx=>(⟨x.1,x.2.1,x.2.2.1,x.2.2.2.1,x.2.2.2.2⟩:Expr)
  |1=>λx=>(⟨x.1,x.2⟩:Def)
  |2=>λx=>(⟨x.1,x.2⟩:Entry)
  |3=>λx=>(⟨x.1,x.2.1,x.2.2⟩:Table)
  |4=>λx=>(⟨x.1,x.2⟩:zV)
  |5=>λx=>(⟨x.1,x.2.1,x.2.2⟩:yp)
  |6=>λx=>(⟨x.1,x.2.1,x.2.2.1,x.2.2.2⟩:zy)
  |7=>λx=>(⟨x.1,x.2.1,x.2.2.1,x.2.2.2.1,x.2.2.2.2.1,x.2.2.2.2.2.1,x.2.2.2.2.2.2.1,x.2.2.2.2.2.2.2.1,x.2.2.2.2.2.2.2.2.1,x.2.2.2.2.2.2.2.2.2.1,x.2.2.2.2.2.2.2.2.2.2.1,x.2.2.2.2.2.2.2.2.2.2.2.1,x.2.2.2.2.2.2.2.2.2.2.2.2⟩:zO)
  |8=>λx=>(⟨x.1,x.2.1,x.2.2.1,x.2.2.2⟩:Cap)
  |9=>λx=>(⟨x.1,x.2.1,x.2.2⟩:zg)
  |10=>λx=>(⟨x.1,x.2.1,x.2.2.1,x.2.2.2⟩:View)
  |11=>λx=>(⟨x.1,x.2.1,x.2.2.1,x.2.2.2⟩:Token)
  |_+12=>λ_=>()
 enc:=λn=>match n with
  |0=>vv
  |1=>Q6
  |2=>qY
  |3=>oT
  |4=>jC
  |5=>Jg
  |6=>Kp
  |7=>Jh
  |8=>Q7
  |9=>vV
  |10=>Ji
  |11=>V5
  |_+12=>λ_=>[]
 ro:=λn=>match n with
  |1=>gl0 QL.ob0
  |2=>gl1 QL.ob1
  |3=>gl2 QL.ob2 QL.m2
  |4=>gl3 QL.ob3
  |_=>.gen gone
 go:=goT
def zQu:TS.OK where
 enc_out:=λn x=>match n with
  |0=>by
   show vv x=_
   unfold vv;simp only[j8];rfl
  |1=>rfl
  |2=>rfl
  |3=>rfl
  |4=>rfl
  |5=>rfl
  |6=>rfl
  |7=>rfl
  |8=>rfl
  |9=>rfl
  |10=>rfl
  |11=>rfl
  |_+12=>rfl
 out_mk:=λn h=>match n with
  |0=>rfl
  |1=>rfl
  |2=>rfl
  |3=>rfl
  |4=>rfl
  |5=>rfl
  |6=>rfl
  |7=>rfl
  |8=>rfl
  |9=>rfl
  |10=>rfl
  |11=>rfl
  |_+12=>rfl
 ro0:=rfl
 rren:=λi σ=>match i with|0=>rfl|1=>rfl|2=>rfl|3=>rfl|4=>rfl|_+5=>rfl
 rref:=λi=>match i with|0=>rfl|1=>rfl|2=>rfl|3=>rfl|4=>rfl|_+5=>rfl
 rfrz:=λi k=>match i with|0=>rfl|1=>rfl|2=>rfl|3=>rfl|4=>rfl|_+5=>rfl
 len:=λn x=>match n with
  |0=>rfl
  |1=>rfl
  |2=>rfl
  |3=>rfl
  |4=>rfl
  |5=>rfl
  |6=>rfl
  |7=>rfl
  |8=>rfl
  |9=>rfl
  |10=>rfl
  |11=>rfl
  |_+12=>rfl
 one:=λn x=>match n with
  |0=>rfl
  |1=>rfl
  |2=>rfl
  |3=>rfl
  |4=>rfl
  |5=>rfl
  |6=>rfl
  |7=>rfl
  |8=>rfl
  |9=>rfl
  |10=>rfl
  |11=>rfl
  |_+12=>rfl
 refs:=λn x=>match n with
  |0=>rfl
  |1=>rfl
  |2=>rfl
  |3=>rfl
  |4=>rfl
  |5=>rfl
  |6=>rfl
  |7=>rfl
  |8=>rfl
  |9=>rfl
  |10=>rfl
  |11=>rfl
  |_+12=>rfl
 gren:=λi c x σ=>by cases c<;>rfl
 gref:=λi c x=>by cases c<;>rfl
 gfrz:=λi c x k=>by cases c<;>rfl
 ggl:=λi c x k=>by cases c<;>rfl
def cdT(t:Nat):Option TC:=bif Nat.beq t 4 then some (.b)else bif Nat.beq t 9 then some (.s)else bif Nat.beq t 37 then some (.st 0)else bif Nat.beq t 51 then some (.st 11)else bif Nat.beq t 57 then some (.st 1)else bif Nat.beq t 64 then some (.st 5)else bif Nat.beq t 87 then some (.st 3)else bif Nat.beq t 94 then some (.st 7)else bif Nat.beq t 96 then some (.st 8)else bif Nat.beq t 98 then some (.st 9)else bif Nat.beq t 100 then some (.st 10)else bif Nat.beq t 119 then some (.st 2)else bif Nat.beq t 156 then some (.st 4)else none
def nbT:NB:=λt=>bif Nat.beq t 31 then[(0,true,57,.st 1),(1,true,87,.st 3),(2,true,64,.st 5),(3,true,94,.st 7),(4,true,96,.st 8),(5,true,100,.st 10),(6,true,98,.st 9)]else bif Nat.beq t 37 then[(4,false,37,.st 0)]else bif Nat.beq t 57 then[(5,false,37,.st 0)]else bif Nat.beq t 64 then[(2,false,156,.st 4)]else bif Nat.beq t 67 then[(0,false,51,.st 11)]else bif Nat.beq t 71 then[(0,false,51,.st 11),(2,true,57,.st 1),(3,true,87,.st 3),(4,true,64,.st 5),(5,true,94,.st 7),(6,true,96,.st 8),(7,true,100,.st 10),(8,true,8000098,.st 9),(10,true,7000000,.l (.m (.s) (.b))),(11,true,7000000,.l (.m (.s) (.b))),(12,true,7000000,.l (.m (.s) (.b))),(13,true,7000000,.l (.m (.s) (.b))),(14,true,7000000,.l (.m (.s) (.b))),(15,true,7000000,.l (.m (.s) (.b)))]else bif Nat.beq t 76 then[(0,false,51,.st 11)]else bif Nat.beq t 87 then[(1,true,119,.st 2)]else bif Nat.beq t 94 then[(1,false,9,.s),(2,false,9,.s),(12,false,37,.st 0)]else bif Nat.beq t 96 then[(3,false,156,.st 4)]else bif Nat.beq t 100 then[(5,true,98,.st 9)]else[]
def zQv:Tryz.prog.follows .mixedOrders=true:=aj
variable[Fuel]
def zVt:ze Tryz.prog 167:=zi aj
def zuh:ze Tryz.prog 162:=zi aj
def zx2:ze Tryz.prog 60:=zi aj
def zQw:ze Tryz.prog 65:=zi aj
def ctk{f:Nat}{fn:Func}{code:Code}{T:CtT TS}{c:Ct TS}{h:HT TS c.co}(hf:Tryz.prog.funcs[f]?=some fn)(hb:fn.body=some code)(hB:ze Tryz.prog f)(hT:CtT.OK Tryz.prog T)(hr:∀x,((evF Tryz.prog fn code T cdT KK nbT c [] h x).run,(evF Tryz.prog fn code T cdT KK nbT c [] h x).tr true)=(c.fn x,(evF Tryz.prog fn code T cdT KK nbT c [] h x).tr false)):ze Tryz.prog f/\c.OK Tryz.prog f :=
 ⟨hB,zQo (T:=T) (cd:=cdT) (kk:=KK) (nb:=nbT) (rc:=[]) (h:=h) zQu hf hb zQv hT (λx=>congrArg Prod.fst (hr x)) (λx=>congrArg Prod.snd (hr x))⟩
def zui(a0:Int):Option (ak):=zCn a0
def zMm:Ct TS:=⟨[.ptr 1 0,.d (.i .i64) 0],[(1,.box 108 [.nilp,.nils])],[.i .i64],.tup [],[(1,.gn 0 (.s) 1)],[.s],false,λx=>zui x⟩
def zQx:zMm.OK Tryz.prog 167:=λx r h=>by
 obtain⟨h1,h2⟩:=zVs x r h;cases h1;exact kmp aj h2
def yT(a0:ak)(a1:ak):Option (Int×ak):=(grd (List.length a0+List.length a1<=140737488355328)).bind λ_=>some (((List.length a1:Nat):Int),a0++a1)
def zcr:Ct TS:=⟨[.ptr 1 0,.d .s 1],[(1,.gn 0 (.s) 0)],[.s,.s],.tup [.d (.i .i64) 2,.nili],[(1,.gn 0 (.s) 3)],[.i .i64,.s],false,λx=>yT x.1 x.2⟩
def zjp:zcr.OK Tryz.prog 162:=λx r h=>by
 obtain⟨_,h1,h2⟩:=bind_some h;cases h2;exact kmp aj (zrg zh7 1 x.1 x.2 (xl h1))
def qg(a0:ak):Option (ak):=some a0
def oi:Ct TS:=⟨[.ptr 1 0],[(1,.gn 0 (.s) 0)],[.s],.d .s 1,[(1,.gn 0 (.s) 0)],[.s],false,λx=>qg x⟩
def Jj:oi.OK Tryz.prog 60:=λx r h=>by
 cases h;exact kmp aj (Yi (T:=108) 1 x)
def yG(c0:(List ak))(c1:ak)(c2:Int):Nat->(Int×Int)->Option (Int)
 |0,_=>none
 |K+1,q=>(bif (decide (q.2<c2))then(idx c0 q.2).bind λx1=>(bif (decide (((List.length x1:Nat):Int)>(w64 (9223372036854775807-q.1))))then none else yG c0 c1 c2 K ((w64 (q.1+((List.length x1:Nat):Int))),(w64 (q.2+1))))else some q.1)
def yH(c0:ak)(c1:(List ak))(c2:Int):Nat->(Int×ak)->Option (ak)
 |0,_=>none
 |K+1,q=>(bif (decide (q.1<c2))then(idx c1 q.1).bind λx1=>(yT q.2 c0).bind λx2=>(yT x2.2 x1).bind λx3=>yH c0 c1 c2 K ((w64 (q.1+1)),x3.2)else some q.2)
def qJ(elems:(List ak))(sep:ak):Option (ak) :=
 (bif (decide (((List.length elems:Nat):Int)=0))then some ([]:ak)else(bif (decide (((List.length elems:Nat):Int)=1))then(idx elems 0).bind λx1=>some x1 else((bif (decide (((List.length sep:Nat):Int)>0))then(grd ((w64 (((List.length elems:Nat):Int)-1))≠0)).bind λ_=>(bif (decide (((List.length sep:Nat):Int)>=(w64 (Int.tdiv 9223372036854775807 (w64 (((List.length elems:Nat):Int)-1))))))then none else some (w64 (0+(w64 (((List.length sep:Nat):Int)*(w64 (((List.length elems:Nat):Int)-1)))))))else some 0)).bind λx2=>(yG elems sep ((List.length elems:Nat):Int) KK (x2,0)).bind λx4=>(zui x4).bind λx5=>(idx elems 0).bind λx6=>(yT x5 x6).bind λx7=>(cut elems 1 ((List.length elems:Nat):Int)).bind λx8=>(yH sep x8 ((List.length x8:Nat):Int) KK (0,x7.2)).bind λx9=>(qg x9).bind λx10=>some x10))
def zfg:Ct TS:=⟨[.d (.l (.s)) 0,.d .s 1],[],[.l (.s),.s],.d .s 2,[],[.s],false,λx=>qJ x.1 x.2⟩
def zcs:ze Tryz.prog 65/\zfg.OK Tryz.prog 65:=ctk (T:=[(167,zMm),(162,zcr),(60,oi)]) (h:=.s .n (.s .n (.s .n (.s (.j ⟨[(0,.d (.l (.s)) 0),(1,.d .s 1),(5,.d (.i .i64) 2)],[],[.l (.s),.s],[.i .i64]⟩ false .n) (.s (.s .n (.s (.l ⟨[(0,.d (.l (.s)) 0),(1,.d .s 1),(5,.d (.i .i64) 3),(39,.d (.l (.s)) 0),(40,.d (.i .i64) 2),(41,.d (.i .i64) 4)],[],[.l (.s),.s,.i .i64],[.i .i64,.i .i64]⟩ [(0,.d (.l (.s)) 0),(1,.d .s 1),(5,.d (.i .i64) 3)] [] [.i .i64] 1 (λx K v=>yG x.1 x.2.1 x.2.2 K v) .n) .n)) (.s .n (.s .n (.s .n (.s (.s .n (.s (.l ⟨[(1,.d .s 0),(8,.ptr 1000008 0),(63,.d (.l (.s)) 1),(64,.d (.i .i64) 2),(65,.d (.i .i64) 3)],[(1000008,.gn 0 (.s) 4)],[.s,.l (.s),.i .i64],[.i .i64,.s]⟩ [(8,.ptr 1000008 0)] [(1000008,.gn 0 (.s) 3)] [.s] 3 (λx K v=>yH x.1 x.2.1 x.2.2 K v) .n) .n)) .n))))))))) Tryz.func65 rfl zQw ⟨⟨zVt,zQx⟩,⟨zuh,zjp⟩,⟨zx2,Jj⟩,trivial⟩ λx=>aj
def zVu(l:List ak)(sep:ak)(r:ak)(h:qJ l sep=some r):FnA Tryz.prog 65 [.vs 1 (l.map EV.zO8),.str sep] [] (.str r) []:=kmp aj (zcs.2 (l,sep) r h)
end Go.Proofs.YtffencjoddkghaaGreatDoor.J
namespace Go.Proofs.YtffencjoddkghaaGreatDoor
open Go Go.RowKit
def zgs(p q:Addr)(w:World):
  CallsD Tryz.prog 120 #[.pointer (some p),.pointer (some q)] .returning w λe u' w'=>e=.returned (.tuple #[])/\u'=.returning/\w'=w:=by
 refine callsD_of_wpS Tryz.func120 rfl λc₀ cs hu=>?_
 apply wpS_seq;apply wpS_region;simp[wpOpsS,go_sem,recoverD,hu,Tryz.ntmps120,Exit.thenS];apply wpS_seq;apply wpS_region;simp[wpOpsS,go_sem,Exit.thenS];refine wpS_cond (t:=false) (by simp[Act.eval,Array.replicate]) ?_;simp only[Bool.false_eq_true,if_false];refine wpS_of_wp (wp_skip ?_);cases c₀
 simp_all [bodyPostS,results,Tryz.results120]
def ta168(v:Value)(w:World):(Instr.typeAssert (.iface 168 v) 20 168 true).run Tryz.prog w=.ok (.tuple #[v,.bool true]) w:=aj
set_option maxHeartbeats 4000000 in
set_option maxRecDepth 1000000 in
def znk(p q:Addr)(x y:Int)(cp cq:Value)(w:World)(hp:w.cell? p=some cp)(hq:w.cell? q=some cq)(zp:w.frozen? p=false)(zq:w.frozen? q=false)(hpq:p.block≠q.block)(lp:p.block<w.heap.size)(lq:q.block<w.heap.size):
  CallsD Tryz.prog 120 #[.pointer (some p),.pointer (some q)] (.panicking [{ v:=.iface 168 (.agg #[.int .i64 x,.int .i64 y]),recovered:=false }]) w λe u' w' =>
   e=.returned (.tuple #[])/\u'=.panicking [{ v:=.iface 168 (.agg #[.int .i64 x,.int .i64 y]),recovered:=true }] /\
   w'=(((w.alloc (.cells #[.int .i64 x,.int .i64 y] 168)).setCell p (.int .i64 x)).setCell q (.int .i64 y)).drew:=by
 refine callsD_of_wpS Tryz.func120 rfl λc₀ cs hu=>?_
 apply wpS_seq;apply wpS_region;simp[wpOpsS,go_sem,recoverD,hu,Tryz.ntmps120,Exit.thenS];apply wpS_seq;apply wpS_region;simp[wpOpsS,go_sem,Exit.thenS];refine wpS_cond (t:=true) (by simp[Act.eval,Array.replicate]) ?_;simp only[if_true];apply wpS_seq;apply wpS_region;simp[wpOpsS,go_sem,Exit.thenS,ta168];apply wpS_seq;apply wpS_seq;apply wpS_region;simp[wpOpsS,go_sem,Exit.thenS];refine wpS_cond (t:=false) (by simp[Act.eval,Array.replicate]) ?_;simp only[Bool.false_eq_true,if_false];refine wpS_of_wp (wp_skip ?_);simp only[Exit.thenS];refine wpS_of_wp ?_;have mixed:=zbp
 have a1:∀o:Obj,(w.alloc o).heap[p.block]?=w.heap[p.block]?:=λo=>Lib.alloc_old w o p.block lp
 have a2:∀o:Obj,(w.alloc o).heap[q.block]?=w.heap[q.block]?:=λo=>Lib.alloc_old w o q.block lq
 have c1:∀o:Obj,(w.alloc o).drew.cell? p=some cp:=λo=>by rw[<- hp];unfold World.cell?;rw[show(w.alloc o).drew.heap=(w.alloc o).heap from rfl,a1]
 have z1:∀o:Obj,(w.alloc o).frozen? p=false:=λo=>by rw[<- zp];unfold World.frozen?;rw[a1]
 have c2:∀o:Obj,((w.alloc o).setCell p (.int .i64 x)).cell? q=some cq:=λo=>by
  rw[<- hq];unfold World.cell?;rw[Below.heap_setCell _ _ _ _ (λe=>hpq e.symm),a2]
 have z2:∀o:Obj,((w.alloc o).setCell p (.int .i64 x)).frozen? q=false:=λo=>by
  rw[<- zq];unfold World.frozen?;rw[Below.heap_setCell _ _ _ _ (λe=>hpq e.symm),a2]
 have c3:((w.alloc (.cells #[.int .i64 x,.int .i64 y] 168)).setCell p (.int .i64 x)).cell? ⟨w.heap.size,1,none⟩=some (.int .i64 y):=by
  unfold World.cell?;rw[Below.heap_setCell _ _ _ _ (λe=>by simp only at e;omega)];rw[World.alloc_heap_new];rfl
 simp[Array.replicate]
 go_region_o
 all_goals simp[bodyPostS,results,Tryz.results120]
def zjq{w1:World}{n:Nat}(h1:w1.heap[n]?=some (.cells #[.int .i64 0] 3))(h2:w1.heap[n+1]?=some (.cells #[.int .i64 0] 32))(x y:Value):
  w1.cell? ⟨n,0,none⟩=some (.int .i64 0)/\(w1.setCell ⟨n,0,none⟩ x).cell? ⟨n+1,0,none⟩=some (.int .i64 0)/\w1.frozen? ⟨n,0,none⟩=false/\(w1.setCell ⟨n,0,none⟩ x).frozen? ⟨n+1,0,none⟩=false /\
  ((w1.setCell ⟨n,0,none⟩ x).setCell ⟨n+1,0,none⟩ y).cell? ⟨n,0,none⟩=some x/\((w1.setCell ⟨n,0,none⟩ x).setCell ⟨n+1,0,none⟩ y).cell? ⟨n+1,0,none⟩=some y:=by
 have e2:(w1.setCell ⟨n,0,none⟩ x).heap[n+1]?=some (.cells #[.int .i64 0] 32):=(Below.heap_setCell _ _ _ _ (λe=>by simp at e)).trans h2
 have e1:(w1.setCell ⟨n,0,none⟩ x).heap[n]?=some (.cells #[x] 3):=by
  simp[World.setCell,Array.getElem?_modify,h1]
 have e3:((w1.setCell ⟨n,0,none⟩ x).setCell ⟨n+1,0,none⟩ y).heap[n+1]?=some (.cells #[y] 32):=by
  rw[show ∀W:World,(W.setCell ⟨n+1,0,none⟩ y).heap[n+1]?=W.heap[n+1]?.map λo=>match o with|.cells c t r=>.cells (c.setIfInBounds 0 y) t r|o=>o from λW=>by simp[World.setCell,Array.getElem?_modify];rfl,e2];rfl
 refine⟨by rw[Lib.cell_of_heap h1];rfl,by rw[Lib.cell_of_heap e2];rfl,Lib.frozen_of_heap h1 0,Lib.frozen_of_heap e2 0,?_,by rw[Lib.cell_of_heap e3];rfl⟩;unfold World.cell?;rw[Below.heap_setCell _ _ _ _ (λe=>by simp at e),e1];rfl
def zCo{w1:World}{n:Nat}(h1:w1.heap[n]?=some (.cells #[.int .i64 0] 3))(h2:w1.heap[n+1]?=some (.cells #[.int .i64 0] 32))(o:Obj):
  n<w1.heap.size/\n+1<w1.heap.size/\w1.cell? ⟨n,0,none⟩=some (.int .i64 0)/\w1.cell? ⟨n+1,0,none⟩=some (.int .i64 0)/\w1.frozen? ⟨n,0,none⟩=false/\w1.frozen? ⟨n+1,0,none⟩=false /\
  (w1.alloc o).heap[n]?=some (.cells #[.int .i64 0] 3)/\(w1.alloc o).heap[n+1]?=some (.cells #[.int .i64 0] 32):=by
 have l2:n+1<w1.heap.size:=(Array.getElem?_eq_some_iff.1 h2).1;have l1:n<w1.heap.size:=Nat.lt_of_succ_lt l2;exact⟨l1,l2,by rw[Lib.cell_of_heap h1];rfl,by rw[Lib.cell_of_heap h2];rfl,Lib.frozen_of_heap h1 0,Lib.frozen_of_heap h2 0,(Lib.alloc_old w1 o n l1).trans h1,(Lib.alloc_old w1 o _ l2).trans h2⟩
def zI9(pv a b:Value)(w:World)(Q:World->Prop)
  (hread:Calls Tryz.prog 39 #[a,b] ((w.alloc (.cells #[.int .i64 0] 3)).alloc (.cells #[.int .i64 0] 32)) λe w'=>e=.returned (.tuple #[])/\w'.heap[w.heap.size]?=some (.cells #[.int .i64 0] 3)/\w'.heap[w.heap.size+1]?=some (.cells #[.int .i64 0] 32)/\Q w'):
  Calls Tryz.prog 35 #[pv,.func (.func 39) #[] #[a,b]] w λe w'=>e=.returned (.tuple #[.int .i64 0,.int .i64 0])/\∃w1,w1.heap[w.heap.size]?=some (.cells #[.int .i64 0] 3)/\w1.heap[w.heap.size+1]?=some (.cells #[.int .i64 0] 32)/\Q w1/\w'=(w1.setCell ⟨w.heap.size,0,none⟩ (.int .i64 0)).setCell ⟨w.heap.size+1,0,none⟩ (.int .i64 0):=by
 have hmf:∀(fn:Fn)(first cap:Array Value)(w:World),(Instr.makeFunc fn first cap).run Tryz.prog w=.ok (.func fn first cap) w:=λ_ _ _ _=>rfl
 go_enter_defers Tryz.func35,Tryz.ntmps35
 go_wp2_with (go_at_call 39;refine hread.mono ?_;rintro e w1 ⟨rfl,h1,h2,hQ⟩;obtain⟨c1,c2,z1,z2,d1,d2⟩:=zjq h1 h2 (.int .i64 0) (.int .i64 0))
 refine leaves_cons (f:=120) (args:=#[.pointer (some ⟨w.heap.size,0,none⟩),.pointer (some ⟨w.heap.size+1,0,none⟩)]) af (by simp[go_sem]) ?_;refine(zgs ⟨w.heap.size,0,none⟩ ⟨w.heap.size+1,0,none⟩ _).mono ?_;rintro e u' w'' ⟨rfl,rfl,rfl⟩;simp[Leaves,settle,results,Tryz.results35,go_sem,d1,d2];exact⟨w1,h1,h2,hQ,rfl⟩
def zCp(pv a b:Value)(x y:Int)(w:World)(Q:World->Prop)
  (hread:Calls Tryz.prog 39 #[a,b] ((w.alloc (.cells #[.int .i64 0] 3)).alloc (.cells #[.int .i64 0] 32)) λe w'=>e=.panicked [{ v:=.iface 168 (.agg #[.int .i64 x,.int .i64 y]),recovered:=false }]/\w'.heap[w.heap.size]?=some (.cells #[.int .i64 0] 3)/\w'.heap[w.heap.size+1]?=some (.cells #[.int .i64 0] 32)/\Q w'):
  Calls Tryz.prog 35 #[pv,.func (.func 39) #[] #[a,b]] w λe w'=>e=.returned (.tuple #[.int .i64 x,.int .i64 y])/\∃w1,w1.heap[w.heap.size]?=some (.cells #[.int .i64 0] 3)/\w1.heap[w.heap.size+1]?=some (.cells #[.int .i64 0] 32)/\Q w1/\w'=(((w1.alloc (.cells #[.int .i64 x,.int .i64 y] 168)).setCell ⟨w.heap.size,0,none⟩ (.int .i64 x)).setCell ⟨w.heap.size+1,0,none⟩ (.int .i64 y)).drew:=by
 have hmf:∀(fn:Fn)(first cap:Array Value)(w:World),(Instr.makeFunc fn first cap).run Tryz.prog w=.ok (.func fn first cap) w:=λ_ _ _ _=>rfl
 go_enter_defers Tryz.func35,Tryz.ntmps35
 go_wp2_with (go_at_call 39;refine hread.mono ?_;rintro e w1 ⟨rfl,h1,h2,hQ⟩)
 obtain⟨l1,l2,c1,c3,z1,z3,a1,a2⟩:=zCo h1 h2 (.cells #[.int .i64 x,.int .i64 y] 168);obtain⟨_,_,_,_,d1,d2⟩:=zjq a1 a2 (.int .i64 x) (.int .i64 y);refine leaves_cons (f:=120) (args:=#[.pointer (some ⟨w.heap.size,0,none⟩),.pointer (some ⟨w.heap.size+1,0,none⟩)]) af (by simp[go_sem]) ?_;refine(znk ⟨w.heap.size,0,none⟩ ⟨w.heap.size+1,0,none⟩ x y (.int .i64 0) (.int .i64 0) _ c1 c3 z1 z3 af l1 l2).mono ?_;rintro e u' w'' ⟨rfl,rfl,rfl⟩;simp[Leaves,settle,results,Tryz.results35,go_sem,d1,d2];exact⟨w1,h1,h2,hQ,rfl⟩
def zJa(pv a:Value)(w:World)(Q:World->Prop)
  (hread:Calls Tryz.prog 36 #[a] ((w.alloc (.cells #[.int .i64 0] 3)).alloc (.cells #[.int .i64 0] 32)) λe w'=>e=.returned (.tuple #[])/\w'.heap[w.heap.size]?=some (.cells #[.int .i64 0] 3)/\w'.heap[w.heap.size+1]?=some (.cells #[.int .i64 0] 32)/\Q w'):
  Calls Tryz.prog 35 #[pv,.func (.func 36) #[a] #[]] w λe w'=>e=.returned (.tuple #[.int .i64 0,.int .i64 0])/\∃w1,w1.heap[w.heap.size]?=some (.cells #[.int .i64 0] 3)/\w1.heap[w.heap.size+1]?=some (.cells #[.int .i64 0] 32)/\Q w1/\w'=(w1.setCell ⟨w.heap.size,0,none⟩ (.int .i64 0)).setCell ⟨w.heap.size+1,0,none⟩ (.int .i64 0):=by
 have hmf:∀(fn:Fn)(first cap:Array Value)(w:World),(Instr.makeFunc fn first cap).run Tryz.prog w=.ok (.func fn first cap) w:=λ_ _ _ _=>rfl
 go_enter_defers Tryz.func35,Tryz.ntmps35
 go_wp2_with (go_at_call 36;refine hread.mono ?_;rintro e w1 ⟨rfl,h1,h2,hQ⟩;obtain⟨c1,c2,z1,z2,d1,d2⟩:=zjq h1 h2 (.int .i64 0) (.int .i64 0))
 refine leaves_cons (f:=120) (args:=#[.pointer (some ⟨w.heap.size,0,none⟩),.pointer (some ⟨w.heap.size+1,0,none⟩)]) af (by simp[go_sem]) ?_;refine(zgs ⟨w.heap.size,0,none⟩ ⟨w.heap.size+1,0,none⟩ _).mono ?_;rintro e u' w'' ⟨rfl,rfl,rfl⟩;simp[Leaves,settle,results,Tryz.results35,go_sem,d1,d2];exact⟨w1,h1,h2,hQ,rfl⟩
def zCq(pv a:Value)(x y:Int)(w:World)(Q:World->Prop)
  (hread:Calls Tryz.prog 36 #[a] ((w.alloc (.cells #[.int .i64 0] 3)).alloc (.cells #[.int .i64 0] 32)) λe w'=>e=.panicked [{ v:=.iface 168 (.agg #[.int .i64 x,.int .i64 y]),recovered:=false }]/\w'.heap[w.heap.size]?=some (.cells #[.int .i64 0] 3)/\w'.heap[w.heap.size+1]?=some (.cells #[.int .i64 0] 32)/\Q w'):
  Calls Tryz.prog 35 #[pv,.func (.func 36) #[a] #[]] w λe w'=>e=.returned (.tuple #[.int .i64 x,.int .i64 y])/\∃w1,w1.heap[w.heap.size]?=some (.cells #[.int .i64 0] 3)/\w1.heap[w.heap.size+1]?=some (.cells #[.int .i64 0] 32)/\Q w1/\w'=(((w1.alloc (.cells #[.int .i64 x,.int .i64 y] 168)).setCell ⟨w.heap.size,0,none⟩ (.int .i64 x)).setCell ⟨w.heap.size+1,0,none⟩ (.int .i64 y)).drew:=by
 have hmf:∀(fn:Fn)(first cap:Array Value)(w:World),(Instr.makeFunc fn first cap).run Tryz.prog w=.ok (.func fn first cap) w:=λ_ _ _ _=>rfl
 go_enter_defers Tryz.func35,Tryz.ntmps35
 go_wp2_with (go_at_call 36;refine hread.mono ?_;rintro e w1 ⟨rfl,h1,h2,hQ⟩)
 obtain⟨l1,l2,c1,c3,z1,z3,a1,a2⟩:=zCo h1 h2 (.cells #[.int .i64 x,.int .i64 y] 168);obtain⟨_,_,_,_,d1,d2⟩:=zjq a1 a2 (.int .i64 x) (.int .i64 y);refine leaves_cons (f:=120) (args:=#[.pointer (some ⟨w.heap.size,0,none⟩),.pointer (some ⟨w.heap.size+1,0,none⟩)]) af (by simp[go_sem]) ?_;refine(znk ⟨w.heap.size,0,none⟩ ⟨w.heap.size+1,0,none⟩ x y (.int .i64 0) (.int .i64 0) _ c1 c3 z1 z3 af l1 l2).mono ?_;rintro e u' w'' ⟨rfl,rfl,rfl⟩;simp[Leaves,settle,results,Tryz.results35,go_sem,d1,d2];exact⟨w1,h1,h2,hQ,rfl⟩
open Go.Eng Go.EV Go.EQ in
def V6{m:M}{Z:ZM}{F:Heap}{w w':World}(hs:wH m Z F w)(h1:∀p∈F,∀b,blk m p b->w'.heap[b]?=w.heap[b]?)(h2:∀a x,Z a=some x->w'.heap[a.block]?=w.heap[a.block]?):wH m Z F w' :=
 ⟨λa x ha=>(by simp only[World.cell?,h2 a x ha]:w'.cell? a=w.cell? a).trans (hs.frozen a x ha),λp hp=>(hs.holds p hp).keep (λ_ _ _ e=>e) rfl (λ_ _ e=>e) λb hb=>⟨h1 p hp b hb,λ_ _ e _=>e⟩,hs.nodup,hs.disj⟩
open Go.Eng Go.EV Go.EQ in
def zav{m m':M}{Z Z':ZM}{F F':Heap}{w w2 w1 w3:World}{c:Nat}(h0:wH m Z F w)(h2:Step m Z F w2 m' Z' F' w1)(s2:w.heap.size+c<=w2.heap.size)
  (o2:w2.os=w.os) (t2:w2.tape=w.tape) (u2:w2.output=w.output) (e2:∀b,b<w.heap.size->w2.heap[b]?=w.heap[b]?) (o3:w3.os=w1.os) (t3:w3.tape=w1.tape) (u3:w3.output=w1.output)
  (s3:w1.heap.size<=w3.heap.size) (e3:∀b,b<w1.heap.size->(b<w.heap.size∨w.heap.size+c<=b)->w3.heap[b]?=w1.heap[b]?):Step m Z F w m' Z' F' w3:=by
 have hold:∀q∈F,∀b,blk m q b->b<w.heap.size:=λq hq b hb=>(h0.holds q hq).blk b hb
 have hsz:=h2.size
 have hfr:∀a x,Z' a=some x->a.block<w.heap.size∨w.heap.size+c<=a.block:=λa x ha=>by
  rcases h2.znew a x ha with h|h|⟨q,hq,hb⟩
  ·exact .inl (World.block_lt_of_cell? w a (h0.frozen a x h))
  ·exact .inr (Nat.le_trans s2 h)
  ·exact .inl (hold q hq _ hb)
 refine⟨V6 h2.sim (λp hp b hb=>e3 b ((h2.sim.holds p hp).blk b hb) ?_) (λa x ha=>e3 a.block (World.block_lt_of_cell? w1 a (h2.sim.frozen a x ha)) (hfr a x ha)),h2.mext,h2.zext,o3.trans (h2.os.trans o2),t3.trans (h2.tape.trans t2),u3.trans (h2.output.trans u2),ab,λb hb hn=>?_,h2.keep,h2.newk,λp hp b hb=>?_,λa x ha=>?_⟩
 ·rcases h2.blks p hp b hb with h|⟨q,hq,hb⟩
  ·exact .inr (Nat.le_trans s2 h)
  ·exact .inl (hold q hq _ hb)
 ·exact(e3 b ab (.inl hb)).trans ((h2.frame b ab hn).trans (e2 b hb))
 ·exact(h2.blks p hp b hb).imp (λh=>ab) id
 ·exact(h2.znew a x ha).imp id (Or.imp (λh=>ab) id)
def xW(w:World)(o o':Obj)(b:Nat)(hb:b<w.heap.size):((w.alloc o).alloc o').heap[b]?=w.heap[b]? :=
 (Lib.alloc_old _ o' b (by rw[show(w.alloc o).heap.size=w.heap.size+1 from Array.size_push _];omega)).trans (Lib.alloc_old w o b hb)
def Jk(w:World)(o o':Obj):((w.alloc o).alloc o').heap.size=w.heap.size+2:=by
 rw[show((w.alloc o).alloc o').heap.size=(w.alloc o).heap.size+1 from Array.size_push _,show(w.alloc o).heap.size=w.heap.size+1 from Array.size_push _]
def j9(w:World)(o o':Obj):((w.alloc o).alloc o').heap[w.heap.size]?=some o/\((w.alloc o).alloc o').heap[w.heap.size+1]?=some o':=by
 have h:(w.alloc o).heap.size=w.heap.size+1:=Array.size_push _;exact⟨(Lib.alloc_old _ o' _ ab).trans (World.alloc_heap_new w o),by rw[<- h];exact World.alloc_heap_new _ o'⟩
open Go.Eng Go.EV Go.EQ in
def znl{F F':Heap}{pv a b:V}(h:FnA Tryz.prog 39 [a,b] F (.tup []) F'):FnA Tryz.prog 35 [pv,.fn 39 [] [a,b]] F (.tup [.int .i64 0,.int .i64 0]) F':=by
 intro w m Z vals hs hv hdom;obtain⟨p,xs,rfl,hp,hv⟩:=hv;obtain⟨q,ys,rfl,⟨l1,l2,rfl,r1,r2⟩,hv⟩:=hv;cases hv;cases r1;obtain⟨x1,_,rfl,k1,x2,_,rfl,k2,e⟩:=r2;cases e;have hs2:wH m Z F ((w.alloc (.cells #[.int .i64 0] 3)).alloc (.cells #[.int .i64 0] 32)):=V6 hs (λp hp b hb=>xW _ _ _ _ ((hs.holds p hp).blk b hb)) (λa x ha=>xW _ _ _ _ (World.block_lt_of_cell? w a (hs.frozen a x ha)));have hsz:=Jk w (.cells #[.int .i64 0] 3) (.cells #[.int .i64 0] 32)
 have hnb:∀b,w.heap.size<=b->∀p∈F,¬blk m p b:=λb hb p hp h=>absurd ((hs.holds p hp).blk b h) ab
 have hr:=h _ m Z _ hs2 ⟨x1,_,rfl,k1,x2,_,rfl,k2,rfl⟩ hdom;refine Calls.mono (zI9 p x1 x2 w (λw1=>∃m' Z',Step m Z F ((w.alloc (.cells #[.int .i64 0] 3)).alloc (.cells #[.int .i64 0] 32)) m' Z' F' w1) (Calls.mono hr ?_)) ?_
 ·rintro en w1 ⟨x,m',Z',rfl,st,l,rfl,hl⟩
  cases hl;exact⟨rfl,(st.frame _ ab (hnb _ aq)).trans (j9 w _ _).1,(st.frame _ ab (hnb _ ab)).trans (j9 w _ _).2,_,_,st⟩
 ·rintro en w3 ⟨rfl,w1,h1,h2,⟨m',Z',st⟩,rfl⟩
  refine⟨_,m',Z',rfl,zav (c:=2) hs st ab rfl rfl rfl (λb hb=>xW _ _ _ _ hb) rfl rfl rfl ?_ ?_,[.int .i64 0,.int .i64 0],rfl,_,_,rfl,rfl,_,_,rfl,rfl,rfl⟩
  ·simp[World.setCell]
  ·intro b hb hor
   rw[Below.heap_setCell _ _ _ _ (λe=>by simp only at e;omega),Below.heap_setCell _ _ _ _ (λe=>by simp only at e;omega)]
open Go.Eng Go.EV Go.EQ in
def zjr{F:Heap}{pv a b:V}{x y:Int}(h:FnP Tryz.prog 39 [a,b] F (.iface 168 (.agg #[.int .i64 x,.int .i64 y]))):FnA Tryz.prog 35 [pv,.fn 39 [] [a,b]] F (.tup [.int .i64 x,.int .i64 y]) (zfc F):=by
 intro w m Z vals hs hv hdom;obtain⟨p,xs,rfl,hp,hv⟩:=hv;obtain⟨q,ys,rfl,⟨l1,l2,rfl,r1,r2⟩,hv⟩:=hv;cases hv;cases r1;obtain⟨x1,_,rfl,k1,x2,_,rfl,k2,e⟩:=r2;cases e;have hs2:wH m Z F ((w.alloc (.cells #[.int .i64 0] 3)).alloc (.cells #[.int .i64 0] 32)):=V6 hs (λp hp b hb=>xW _ _ _ _ ((hs.holds p hp).blk b hb)) (λa x ha=>xW _ _ _ _ (World.block_lt_of_cell? w a (hs.frozen a x ha)));have hsz:=Jk w (.cells #[.int .i64 0] 3) (.cells #[.int .i64 0] 32)
 have hnb:∀b,w.heap.size<=b->∀p∈F,¬blk m p b:=λb hb p hp h=>absurd ((hs.holds p hp).blk b h) ab
 have hr:=h _ m Z _ hs2 ⟨x1,_,rfl,k1,x2,_,rfl,k2,rfl⟩ hdom;refine Calls.mono (zCp p x1 x2 x y w (λw1=>∃m' Z',Step m Z F ((w.alloc (.cells #[.int .i64 0] 3)).alloc (.cells #[.int .i64 0] 32)) m' Z' (zfc F) w1) (Calls.mono hr ?_)) ?_
 ·rintro en w1 ⟨rfl,Z',lo⟩
  have st:=lo.step hs2;exact⟨rfl,(st.frame _ ab (hnb _ aq)).trans (j9 w _ _).1,(st.frame _ ab (hnb _ ab)).trans (j9 w _ _).2,_,_,st⟩
 ·rintro en w3 ⟨rfl,w1,h1,h2,⟨m',Z',st⟩,rfl⟩
  refine⟨_,m',Z',rfl,zav (c:=2) hs st ab rfl rfl rfl (λb hb=>xW _ _ _ _ hb) rfl rfl rfl ?_ ?_,[.int .i64 x,.int .i64 y],rfl,_,_,rfl,rfl,_,_,rfl,rfl,rfl⟩
  ·have hsa:(w1.alloc (.cells #[.int .i64 x,.int .i64 y] 168)).heap.size=w1.heap.size+1:=Array.size_push _
   simp[World.setCell]
  ·intro b hb hor
   show(World.setCell (World.setCell _ _ _) _ _).heap[b]?=_
   rw[Below.heap_setCell _ _ _ _ (λe=>by simp only at e;omega),Below.heap_setCell _ _ _ _ (λe=>by simp only at e;omega)];exact Lib.alloc_old _ _ _ hb
open Go.Eng Go.EV Go.EQ in
def znm{F F':Heap}{pv a:V}(h:FnA Tryz.prog 36 [a] F (.tup []) F'):FnA Tryz.prog 35 [pv,.fn 36 [a] []] F (.tup [.int .i64 0,.int .i64 0]) F':=by
 intro w m Z vals hs hv hdom;obtain⟨p,xs,rfl,hp,hv⟩:=hv;obtain⟨q,ys,rfl,⟨l1,l2,rfl,r1,r2⟩,hv⟩:=hv;cases hv;cases r2;obtain⟨x1,_,rfl,k1,e⟩:=r1;cases e;have hs2:wH m Z F ((w.alloc (.cells #[.int .i64 0] 3)).alloc (.cells #[.int .i64 0] 32)):=V6 hs (λp hp b hb=>xW _ _ _ _ ((hs.holds p hp).blk b hb)) (λa x ha=>xW _ _ _ _ (World.block_lt_of_cell? w a (hs.frozen a x ha)));have hsz:=Jk w (.cells #[.int .i64 0] 3) (.cells #[.int .i64 0] 32)
 have hnb:∀b,w.heap.size<=b->∀p∈F,¬blk m p b:=λb hb p hp h=>absurd ((hs.holds p hp).blk b h) ab
 have hr:=h _ m Z _ hs2 ⟨x1,_,rfl,k1,rfl⟩ hdom;refine Calls.mono (zJa p x1 w (λw1=>∃m' Z',Step m Z F ((w.alloc (.cells #[.int .i64 0] 3)).alloc (.cells #[.int .i64 0] 32)) m' Z' F' w1) (Calls.mono hr ?_)) ?_
 ·rintro en w1 ⟨x,m',Z',rfl,st,l,rfl,hl⟩
  cases hl;exact⟨rfl,(st.frame _ ab (hnb _ aq)).trans (j9 w _ _).1,(st.frame _ ab (hnb _ ab)).trans (j9 w _ _).2,_,_,st⟩
 ·rintro en w3 ⟨rfl,w1,h1,h2,⟨m',Z',st⟩,rfl⟩
  refine⟨_,m',Z',rfl,zav (c:=2) hs st ab rfl rfl rfl (λb hb=>xW _ _ _ _ hb) rfl rfl rfl ?_ ?_,[.int .i64 0,.int .i64 0],rfl,_,_,rfl,rfl,_,_,rfl,rfl,rfl⟩
  ·simp[World.setCell]
  ·intro b hb hor
   rw[Below.heap_setCell _ _ _ _ (λe=>by simp only at e;omega),Below.heap_setCell _ _ _ _ (λe=>by simp only at e;omega)]
open Go.Eng Go.EV Go.EQ in
def zjs{F:Heap}{pv a:V}{x y:Int}(h:FnP Tryz.prog 36 [a] F (.iface 168 (.agg #[.int .i64 x,.int .i64 y]))):FnA Tryz.prog 35 [pv,.fn 36 [a] []] F (.tup [.int .i64 x,.int .i64 y]) (zfc F):=by
 intro w m Z vals hs hv hdom;obtain⟨p,xs,rfl,hp,hv⟩:=hv;obtain⟨q,ys,rfl,⟨l1,l2,rfl,r1,r2⟩,hv⟩:=hv;cases hv;cases r2;obtain⟨x1,_,rfl,k1,e⟩:=r1;cases e;have hs2:wH m Z F ((w.alloc (.cells #[.int .i64 0] 3)).alloc (.cells #[.int .i64 0] 32)):=V6 hs (λp hp b hb=>xW _ _ _ _ ((hs.holds p hp).blk b hb)) (λa x ha=>xW _ _ _ _ (World.block_lt_of_cell? w a (hs.frozen a x ha)));have hsz:=Jk w (.cells #[.int .i64 0] 3) (.cells #[.int .i64 0] 32)
 have hnb:∀b,w.heap.size<=b->∀p∈F,¬blk m p b:=λb hb p hp h=>absurd ((hs.holds p hp).blk b h) ab
 have hr:=h _ m Z _ hs2 ⟨x1,_,rfl,k1,rfl⟩ hdom;refine Calls.mono (zCq p x1 x y w (λw1=>∃m' Z',Step m Z F ((w.alloc (.cells #[.int .i64 0] 3)).alloc (.cells #[.int .i64 0] 32)) m' Z' (zfc F) w1) (Calls.mono hr ?_)) ?_
 ·rintro en w1 ⟨rfl,Z',lo⟩
  have st:=lo.step hs2;exact⟨rfl,(st.frame _ ab (hnb _ aq)).trans (j9 w _ _).1,(st.frame _ ab (hnb _ ab)).trans (j9 w _ _).2,_,_,st⟩
 ·rintro en w3 ⟨rfl,w1,h1,h2,⟨m',Z',st⟩,rfl⟩
  refine⟨_,m',Z',rfl,zav (c:=2) hs st ab rfl rfl rfl (λb hb=>xW _ _ _ _ hb) rfl rfl rfl ?_ ?_,[.int .i64 x,.int .i64 y],rfl,_,_,rfl,rfl,_,_,rfl,rfl,rfl⟩
  ·have hsa:(w1.alloc (.cells #[.int .i64 x,.int .i64 y] 168)).heap.size=w1.heap.size+1:=Array.size_push _
   simp[World.setCell]
  ·intro b hb hor
   show(World.setCell (World.setCell _ _ _) _ _).heap[b]?=_
   rw[Below.heap_setCell _ _ _ _ (λe=>by simp only at e;omega),Below.heap_setCell _ _ _ _ (λe=>by simp only at e;omega)];exact Lib.alloc_old _ _ _ hb
end Go.Proofs.YtffencjoddkghaaGreatDoor
