/- texts that the proof of SyntaxPrints reaches, part 7 -/
import Derived.Test.YtffencjoddkghaaGreatDoorKf
import Derived.Lib.MakeNoZero
import Derived.Defers
import Derived.Recover
import Derived.Laws.Pointers
set_option linter.all false
namespace Go.EQ
open Go Go.RowKit Go.Eng Go.EV
def FnD(P:Program)(f:FuncId)(args:List V)(F:Heap)(r:V)(F':Heap):Prop :=
 ∀w m Z vals u,xp m Z F w→zJ (some m) Z args vals →
  CallsDIn Fence.wide 0 P f vals.toArray u w fun en u' w'=>u'=u∧∃x m' Z',en=.returned x∧Step m Z F w m' Z' F' w'∧Rep (some m') Z' r x
def zet(l:List (Nat⊕Deferred)):List Nat:=l.filterMap Sum.getLeft?
def zeu(l:List (Nat⊕Deferred)):List Deferred:=l.filterMap Sum.getRight?
def unS(l:List (Nat⊕Deferred)):List Deferred:=l.map (Sum.elim Eng.mark id)
section
variable{K0:List Nat}{c:Ctx K0}{P:Program}{fn:Func}{tmps:Array Value}{R:Ending→World→Prop}
theorem zev{m:M}{Z:ZM}{H:Heap}{w:World}{D:Nat}(h3:w.heap[D]?=some (.deferred (some [])))(h4:c.W0.heap.size≤D)(S:AS c m Z H w):AS c m Z H (w.putObj D (.deferred none)) :=
 S.lps (row:=some D) (Eng.AB w D _) fun b e=>by cases e;exact⟨h4,_,h3,rfl⟩
theorem Y2{w:World}{D:Nat}{l:List Nat}(hn:D ∉ l)(h:∀D'∈l,w.heap[D']?=some (.deferred (some []))∧c.W0.heap.size≤D'):∀D'∈l,(w.putObj D (.deferred none)).heap[D']?=some (.deferred (some []))∧c.W0.heap.size≤D':=fun D' hD'=>by
 obtain⟨h7,h8⟩:=h D' hD';exact⟨(World.putObj_heap_other (fun e=>hn (by first|(rw[← e];exact hD')|(rw[e];exact hD')))).trans h7,h8⟩
theorem oF{m:M}{Z:ZM}{H:Heap}:∀(l:List (Nat⊕Deferred))(w:World),zeu l=[]→(zet l).Nodup→(∀D∈zet l,w.heap[D]?=some (.deferred (some []))∧c.W0.heap.size≤D)→AS c m Z H w →
  (∀w2,AS c m Z H w2→∃v,(results fn tmps).run P w2=.ok v w2∧R (.returned v) w2)→LeavesInM Fence.wide 0 P fn tmps R (unS l) .returning w
 |[],w,_,_,_,S,h=>h w S
 |.inl D::l,w,hr,hn,hD,S,h=>by
  have hn':D ∉ zet l∧(zet l).Nodup:=List.nodup_cons.1 hn;obtain⟨h3,h4⟩:=hD D (List.mem_cons_self ..);exact⟨by simp,.inl ⟨D,_,rfl,run_takeDeferred h3,oF l _ hr hn'.2 (Y2 hn'.1 fun D' hD'=>hD D' (mcQ _ hD')) (zev h3 h4 S) h⟩⟩
 |.inr d::l,w,hr,_,_,_,_=>by simp[zeu]at hr
theorem Y3{m:M}{Z:ZM}{H:Heap}{fv:FuncId}{dargs:List Value}(hnr:∀w,(callFunc fv dargs.toArray).run P w=.ok (.enter fv dargs.toArray) w)
  (hcall:∀w,AS c m Z H w→CallsDIn Fence.wide 0 P fv dargs.toArray .returning w fun en u' w'=>u'=.returning∧∃x m' Z' H',en=.returned x∧Step m Z H w m' Z' H' w'∧AS c m' Z' H' w'∧∀w2,AS c m' Z' H' w2→∃v,(results fn tmps).run P w2=.ok v w2∧R (.returned v) w2):
  ∀(l:List (Nat⊕Deferred))(w:World),zeu l=[{ target:=.fn (.func fv) #[],args:=dargs.toArray }]→(zet l).Nodup→(∀D∈zet l,w.heap[D]?=some (.deferred (some []))∧c.W0.heap.size≤D)→AS c m Z H w →
  LeavesInM Fence.wide 0 P fn tmps R (unS l) .returning w
 |[],w,hr,_,_,_=>by cases hr
 |.inl D::l,w,hr,hn,hD,S=>by
  have hn':D ∉ zet l∧(zet l).Nodup:=List.nodup_cons.1 hn;obtain⟨h3,h4⟩:=hD D (List.mem_cons_self ..);exact⟨by simp,.inl ⟨D,_,rfl,run_takeDeferred h3,Y3 hnr hcall l _ hr hn'.2 (Y2 hn'.1 fun D' hD'=>hD D' (mcQ _ hD')) (zev h3 h4 S)⟩⟩
 |.inr d::l,w,hr,hn,hD,S=>by
  have hr':d={ target:=.fn (.func fv) #[],args:=dargs.toArray }∧zeu l=[]:=by
   have:d::zeu l=[{ target:=.fn (.func fv) #[],args:=dargs.toArray }]:=hr;simp only[List.cons.injEq]at this;exact this
  obtain⟨rfl,hr0⟩:=hr';refine⟨by simp,.inr ⟨fun hx=>by simp[Fence.wide]at hx,.func fv,#[],fv,dargs.toArray,rfl,?_,fun _ _=>trivial,?_⟩⟩
  ·show(callFunc fv (dargs.toArray++#[])).run P w=_
   rw[Array.append_empty];exact hnr w
  ·refine(hcall w S).mono ?_
   rintro en u' w' ⟨rfl,x,m',Z',H',rfl,st,S',hfin⟩;exact oF l w' hr0 hn (fun D hD'=>⟨st.lp S.step.sim (hD D hD').1 rfl,(hD D hD').2⟩) S' hfin
theorem J5{T:Tab}{X:Cx T}{cc:Ctx X.K0}(hS:T.OK)(hT:CtT.OK X.P X.T)(hTP:X.POK)(hm:X.P.follows .mixedOrders=true){h:HT T X.rT.vs}{code:Code}{R:Type}{kn:AE T.T→AH T.T→Pg R}{E:AE T.T}{H:AH T.T}{r:R}{Q:QF}
  (hI:(wrap X h (ev X code) R none kn (fun _ _ _=>.fail) E H).Is r)
  (hn:∀E' H',(kn E' H').Is r→∀ρr w ds,o7 cc (eV E') (hV H') ρr w→yJ cc ds w→Q .normal ρr ds w):
  ∀ρr w ds,o7 cc (eV E) (hV H) ρr w→yJ cc ds w→Wp X.P none X.N code Q ρr ds w:=by
 intro ρr w ds SA hM
 have h1:WpV cc X.P none X.N code (fun e ρ H _=>e=.normal∧∀ρr w ds,o7 cc ρ H ρr w→yJ cc ds w→Q .normal ρr ds w) (eV E) (hV H) [] :=
  xz (X:=X) (c:=cc) hS (ki hS hT hTP hm code) h R none kn (fun _ _ _=>.fail) E H r _ hI (fun E' H' g=>⟨rfl,hn E' H' g⟩) (fun _ _ _ g=>(Is.fail g).elim) (fun q i e _=>by cases e)
 refine zc8 (h1 ρr w ds SA hM) ?_;rintro e ρr' ds' w' ⟨ρ,H',SA',hM',rfl,h2⟩;exact h2 _ _ _ SA' hM'
end
section
variable{S:Tab}
abbrev zw3(S:Tab):=(c:TC)→Nat→c.ty S.T→Option (c.ty S.T)
def zF5(X:Cx S)(D:zw3 S)(k:Nat)(E:AE S.T)(H:AH S.T):Pg (HL S.T X.rT.vs):=match H.get k with
 |some (.gn i c s)=>.bnd (D c i s) fun s'=>za7 X.rT X.K0 E (K4 H [(k,.gn i c s')]) X.x fun v=>.ret (some v)
 |_=>.fail
def evW(X:Cx S)(r0 r1 r2:Code)(tc:Nat)(r3:Code)(d1:Nat)(B:Code)(D:zw3 S)(k0:Nat)(hB hB':HT S X.rT.vs)(E:AE S.T)(H:AH S.T):Pg (HL S.T X.rT.vs) :=
 wrap X .n (ev X r0) _ none (fun E H=>wrap X .n (ev X r1) _ none (fun E H=>wrap X .n (ev X r2) _ none (fun E H=>match evA E (.tmp tc)with
  |.dat .b b=>.cnd b
   (wrap X .n (ev X r3) _ none (fun E H=>match evA E (.tmp 0)with
    |.raw (.ptr k 0 0)=>bif Nat.beq k k0&&Nat.ble (d1+1) X.N then
      wrap X hB (ev X B) _ none (fun E H=>zF5 X D k0 E H) (fun _ _ _=>.fail) ((d1,.raw (.ptr k0 0 0))::E) H else .fail
    |_=>.fail) (fun _ _ _=>.fail) E H)
   (wrap X hB' (ev X B) _ none (fun E H=>za7 X.rT X.K0 E H X.x fun v=>.ret (some v)) (fun _ _ _=>.fail) E H)
  |_=>.fail) (fun _ _ _=>.fail) E H) (fun _ _ _=>.fail) E H) (fun _ _ _=>.fail) E H
theorem zDa{P:Program}{N:Nat}{Q:QF}{ρr:ym}{ds:List Deferred}{w:World}{id d1 f:Nat}{sc:Value}{ty1 ty2:TypeId}{pos1 pos2:String}{aft1 aft2:Array Edge}{ts:Array TypeId}(hd:d1<N)
  (h:Q .normal (upd ρr d1 (ρr 0)) ({ target:=.fn (.func f) #[],args:=#[ρr 0,sc] }::ds) w):
  Wp P none N (.region id #[⟨some d1,.move (.tmp 0),ty1,pos1,aft1,none⟩,⟨none,.defer ⟨.value (.func f),#[.tmp d1,.const sc],ts⟩,ty2,pos2,aft2,none⟩] false) Q ρr ds w:=by
 refine zjs (l:=[_,_]) fun a n hf=>?_
 have h1:=hf.put hd (ρr 0);have e1:a.eval=Eng.ev ρr:=hf.eval;have e2:(a.put (some d1) (ρr 0)).eval=Eng.ev (upd ρr d1 (ρr 0)):=h1.eval;simp only[wpListIn,Region.wanted,if_true];refine⟨fun _ _=>trivial,?_⟩;rw[kD (by rfl),e1]
 show Oper.uponIn _ _ _ _ _ _ _ (.ok (.value (ρr 0)) w)
 rw[Oper.uponIn_value];refine⟨fun _ _=>trivial,?_⟩;rw[show(Fw none).round=none from rfl,Oper.semAt_none,e2]
 have e3:upd ρr d1 (ρr 0) d1=ρr 0:=by simp[upd]
 have e4:(execOp (Eng.ev (upd ρr d1 (ρr 0))) ⟨none,.defer ⟨.value (.func f),#[.tmp d1,.const sc],ts⟩,ty2,pos2,aft2,none⟩).run P w=.ok (.defer { target:=.fn (.func f) #[],args:=#[ρr 0,sc] }) w:=by
  simp[execOp,resolve,Deferred.ofValue,Eng.ev,e3]
 rw[e4,Oper.uponIn_defer];exact⟨_,_,⟨h1.size,by show _::(a.put (some d1) (ρr 0)).defers=_;rw[h1.defs],h1.get⟩,h⟩
theorem zF6{X:Cx S}{cc:Ctx X.K0}{m:M}{Z:ZM}{H:Heap}{w:World}{bs:List Deferred}(h:AS cc m Z H w):AS (K0:=X.K0) { cc with base:=bs } m Z H w:=⟨h.step,h.dom⟩
theorem zw4(hS:S.OK){P:Program}{f:Nat}{fn:Func}{r0 r1 r2 r3 B:Code}{tc d1 fW id4 k0:Nat}{l:List UInt8}{ty1 ty2:TypeId}{pos1 pos2:String}{aft1 aft2:Array Edge}{ts:Array TypeId}{T:CtT S}{cd:Nat→Option TC}{kk:Nat}{nb:NB}{c:Ct S}{rs:List (Nat×Tp)}{D:zw3 S}{rD:V}{hB hB':HT S c.co}{rest:List Tp}
  (hf:P.funcs[f]?=some fn) (hb:fn.body=some (.seq r0 (.seq r1 (.seq (.seq r2 (.cond (.tmp tc) (.seq r3 (.region id4 #[⟨some d1,.move (.tmp 0),ty1,pos1,aft1,none⟩,⟨none,.defer ⟨.value (.func fW),#[.tmp d1,.const (.string ⟨l.toArray⟩)],ts⟩,ty2,pos2,aft2,none⟩] false)) .skip)) B))))
  (hm:P.follows .mixedOrders=true) (hT:CtT.OK P T) (hrs:zws P [] c.hout fn.results.toList c.out=some rs) (hc:zFy fn.ntmps c rs=true) (hin:c.ins=.ptr k0 0::rest)
  (hD:∀ct i s s',D ct i s=some s'→∀k,FnD P fW [.ptr k 0 0,.str l] [(k,S.go i ct s)] rD [(k,S.go i ct s')]) (hfW:∀args w,(callFunc fW args).run P w=.ok (.enter fW args) w)
  (hrun:∀x,(evW (cxF P fn.ntmps T cd kk nb c rs x (c.hin.map (·.1))) r0 r1 r2 tc r3 d1 B D k0 hB hB' (zbc (Tp.puts c.hin (yr c.ci x) c.ins)) (jX c.hin (yr c.ci x))).run=c.fn x)
  (htr:∀x,(evW (cxF P fn.ntmps T cd kk nb c rs x (c.hin.map (·.1))) r0 r1 r2 tc r3 d1 B D k0 hB hB' (zbc (Tp.puts c.hin (yr c.ci x) c.ins)) (jX c.hin (yr c.ci x))).tr true=(evW (cxF P fn.ntmps T cd kk nb c rs x (c.hin.map (·.1))) r0 r1 r2 tc r3 d1 B D k0 hB hB' (zbc (Tp.puts c.hin (yr c.ci x) c.ins)) (jX c.hin (yr c.ci x))).tr false):c.OK P f:=by
 intro x r hr
 let X:Cx S:=cxF P fn.ntmps T cd kk nb c rs x (c.hin.map (·.1))
 have hI:(evW X r0 r1 r2 tc r3 d1 B D k0 hB hB' (zbc (Tp.puts c.hin (yr c.ci x) c.ins)) (jX c.hin (yr c.ci x))).Is r:=⟨(hrun x).trans hr,xv _ (htr x)⟩
 simp only[zFy,bn]at hc;obtain⟨c1,c2,c3,c4,c5⟩:=hc;simp only[jz,bn]at c3
 have kg:∀ds,keys (hV (jX (S:=S) c.hout ds))=c.hout.map (·.1):=fun ds=>xG
 have hfin:zE4 P fn (c.hin.map (·.1)) (c.out.put c.hout (yr c.ci x++yr c.co r)).v (hV (jX c.hout (yr c.ci x++yr c.co r))) .ret
   (eV (zc3 c.hout rs (yr c.ci x++yr c.co r))) (hV (jX c.hout (yr c.ci x++yr c.co r))) []:=by
  refine⟨rfl,zrz hrs fun t tp hmem=>by rw[od,zbd (yd c1) hmem],JV fun p hp=>get_of_mem (by rw[kg];exact yd c4) hp,?_⟩;have hcl:=qk (S:=S) hS (ins:=[c.out]) (hin:=c.hout) (ds:=yr c.ci x++yr c.co r) (by simp only[jz,bn];exact c3);simp only[EV.kU,bn,Tp.puts,A.vs,xo,List.append_nil]at hcl;simp only[zD9,bn,kg]at hcl ⊢;exact⟨c4,c5,hcl.1,hcl.2⟩
 intro w m Z vals hs hv hdom;have hvl:=hv.length
 have ha:vals.length≤fn.ntmps:=by
  rw[hvl,jd,kH,List.length_map];exact lb c2
 have hk0:keys (hV (jX (S:=S) c.hin (yr c.ci x)))=X.K0:=xG
 let cc:Ctx X.K0:=⟨[],w,m,Z,_,hk0,fun k hk=>hdom k (by rw[hk0];exact hk)⟩
 have S0:o7 cc (eV (zbc (Tp.puts c.hin (yr c.ci x) c.ins))) (hV (jX c.hin (yr c.ci x))) (wK vals) w:=⟨m,Z,⟨Step.refl hs,fun k hk=>hdom k hk⟩,fun t=>by
  rw[zib];have:=HM _ vals 0 t hv
  simpa[Vj,wK]using this⟩
 -- the thing's place
 obtain⟨loc0,pv,hl0,hp0,hv0⟩:∃loc pv,m k0 0=some loc∧wK vals 0=pv∧pv=.pointer (some ⟨loc.1,0,none⟩):=by
  rw[hin]at hv;simp only[Tp.puts,Tp.put,A.vs,A.v]at hv;obtain⟨y,ys,rfl,⟨g,loc,e1,e2,e3⟩,_⟩:=hv;cases e1;exact⟨loc,_,e2,rfl,by simpa[wK]using e3⟩
 let R:Ending→World→Prop:=fun en w'=>∃y m' Z',en=.returned y∧Step m Z (hV (jX c.hin (yr c.ci x))) w m' Z' (hV (jX c.hout (yr c.ci x++yr c.co r))) w'∧Rep (some m') Z' (c.out.put c.hout (yr c.ci x++yr c.co r)).v y
 let Qe:QF:=fun e ρr ds w'=>e=.normal∧∀tmps:Array Value,(∀t,tmps.getD t Go.undef=ρr t)→LeavesInM Fence.wide 0 P fn tmps R ds .returning w'
 have hend:∀(bs:List Deferred) E' H',(za7 X.rT X.K0 E' H' X.x fun v=>.ret (some v)).Is r→∀m' Z' ρr (tmps:Array Value) w2,(∀t,tmps.getD t Go.undef=ρr t)→AS { cc with base:=bs } m' Z' (hV H') w2→zc2 m' Z' (eV E') ρr→∃v,(results fn tmps).run P w2=.ok v w2∧R (.returned v) w2:=by
  intro bs E' H' g m' Z' ρr tmps w2 ht S1 hR1;obtain⟨v,g1,g2⟩:=vg g;have e:=Is.ret g2;cases e;obtain⟨m2,Z2,S2,hR2⟩:=xg hS g1 _ _ _ ⟨m',Z',S1,hR1⟩;obtain⟨_,hres,hsel,hfb⟩:=hfin;simp only[zD9,bn]at hfb;obtain⟨q1,q2,q3,q4⟩:=hfb;obtain⟨m3,S3,hc3⟩:=S2.cut _ hsel q1 q2 q4;obtain⟨y,hy1,hy2⟩:=YC S2.step.sim hR2 hres (tmps:=tmps) ht;exact⟨y,hy1,y,m3,Z2,rfl,S3.step,hc3 _ _ q3 hy2⟩
 have hmain:Wp P none fn.ntmps (.seq r0 (.seq r1 (.seq (.seq r2 (.cond (.tmp tc) (.seq r3 (.region id4 #[⟨some d1,.move (.tmp 0),ty1,pos1,aft1,none⟩,⟨none,.defer ⟨.value (.func fW),#[.tmp d1,.const (.string ⟨l.toArray⟩)],ts⟩,ty2,pos2,aft2,none⟩] false)) .skip)) B))) Qe (wK vals) [] w:=by
  unfold evW at hI;refine zmt (J5 (X:=X) (cc:=cc) hS hT (fun e=>by cases e) hm hI (fun E1 H1 g1 ρ1 w1 ds1 SA1 hM1=>?_) _ _ _ S0 (yJ.nil rfl));refine zmt (J5 (X:=X) (cc:=cc) hS hT (fun e=>by cases e) hm g1 (fun E2 H2 g2 ρ2 w2 ds2 SA2 hM2=>?_) _ _ _ SA1 hM1);refine zmt (zmt (J5 (X:=X) (cc:=cc) hS hT (fun e=>by cases e) hm g2 (fun E3 H3 g3 ρ3 w3 ds3 SA3 hM3=>?_) _ _ _ SA2 hM2));split at g3
  ·rename_i b hbt
   obtain⟨gt,gf⟩:=Is.cnd g3
   have hcv:Eng.ev ρ3 (.tmp tc)=.bool b:=by
    obtain⟨m3,Z3,S3,hR3⟩:=SA3;have:=hR3.ev (.tmp tc);rw[zM,hbt]at this;exact this
   refine zyw b hcv (fun hb1=>?_) (fun hb1=>?_)
   ·refine zmt (J5 (X:=X) (cc:=cc) hS hT (fun e=>by cases e) hm (gt hb1) (fun E4 H4 g4 ρ4 w4 ds4 SA4 hM4=>?_) _ _ _ SA3 hM3)
    split at g4
    ·rename_i k hpk
     cases hk:Nat.beq k k0&&Nat.ble (d1+1) X.N with
     |false=>rw[hk]at g4;exact(Is.fail g4).elim
     |true =>
      rw[hk,ctQ]at g4;simp only[bn]at hk;have hkk:=eb hk.1;subst hkk;have hd1:d1<fn.ntmps:=lb hk.2;obtain⟨m4,Z4,S4,hR4⟩:=SA4;have hm4:m4 k 0=some loc0:=S4.step.mext _ _ _ hl0
      have hpv:ρ4 0=.pointer (some ⟨loc0.1,0,none⟩):=by
       have:=hR4.ev (.tmp 0);rw[zM,hpk]at this;obtain⟨g,loc,e1,e2,e3⟩:=this;cases e1;rw[hm4]at e2;cases e2;exact e3
      refine zDa (N:=fn.ntmps) hd1 ?_
      let dd:Deferred:={ target:=.fn (.func fW) #[],args:=#[ρ4 0,.string ⟨l.toArray⟩] }
      let cc1:Ctx X.K0:={ cc with base:=[dd] }
      have SA5:o7 cc1 (eV ((d1,.raw (.ptr k 0 0))::E4)) (hV H4) (upd ρ4 d1 (ρ4 0)) w4:=⟨m4,Z4,zF6 S4,by
       refine hR4.put d1 (v:=.ptr k 0 0) ?_
       exact⟨m4,loc0,rfl,hm4,hpv⟩⟩
      have hM5:yJ cc1 (dd::ds4) w4:=by
       obtain⟨lq,h1,h2,h3,h4,h5⟩:=hM4;refine⟨.inr dd::lq,by rw[h1];rfl,?_,h3,h4,fun d hd D' e=>?_⟩
       ·show dd::lq.filterMap Sum.getRight?=[dd]
        rw[h2]
       ·cases msQ.1 hd;cases e
      refine J5 (X:=X) (cc:=cc1) hS hT (fun e=>by cases e) hm g4 (fun E6 H6 g6 ρ6 w6 ds6 SA6 hM6=>?_) _ _ _ SA5 hM5;refine⟨rfl,fun tmps ht=>?_⟩;unfold zF5 at g6;split at g6
      ·rename_i i ct s hgk
       obtain⟨s',hs',g7⟩:=Is.bnd g6;obtain⟨m6,Z6,S6,hR6⟩:=SA6;obtain⟨lq,rfl,h2,h3,h4,h5⟩:=hM6;have hm6:m6 k 0=some loc0:=S6.step.mext _ _ _ hl0;refine Y3 (c:=cc1) (m:=m6) (Z:=Z6) (H:=hV H6) (fv:=fW) (dargs:=[ρ4 0,.string ⟨l.toArray⟩]) (fun w=>hfW _ w) (fun w7 S7=>?_) lq w6 h2 h3 h4 S6
       have hsel:jF [k] H6=some [(k,.gn i ct s)]:=by simp only[jF,hgk]
       have hp:=we S7.step.sim.nodup (List.nodup_cons.2 ⟨by simp,List.nodup_nil⟩) (xN hsel);have hs7:xp m6 Z6 ([(k,S.go i ct s)]++ja [k] (hV H6)) w7:=S7.step.sim.perm hp
       have hRp:zJ (some m6) Z6 [.ptr k 0 0,.str l] [ρ4 0,.string ⟨l.toArray⟩]:=⟨_,_,rfl,⟨m6,loc0,rfl,hm6,hpv⟩,_,_,rfl,rfl,rfl⟩
       refine(hD ct i s s' hs' k w7 m6 Z6 _ .returning hs7.left hRp).mono ?_;rintro en u' w8 ⟨rfl,y,m8,Z8,rfl,st,_⟩
       have st2:=Step.frame_rule hs7 st fun p hp q hq e=>by
        cases msQ.1 hp;have hn:=hs7.nodup;rw[zx]at hn;exact(List.nodup_append.1 hn).2.2 k (msQ.2 rfl) _ (mem_keys hq) e
       have hup:=(zba (F:=[]) (H:=H6) (F':=[(k,.gn i ct s')]) (Rr:=[]) (kF:=[k]) (kR:=[]) S7.step.sim.nodup rfl (by simp[EQ.kg]) (by simp) rfl).1;have st3:Step m6 Z6 (hV H6) w7 m8 Z8 (hV (K4 H6 [(k,.gn i ct s')])) w8:=(st2.permL hp.symm).permR hup
       have hk6:∀k',k' ∉ keys (hV (K4 H6 [(k,.gn i ct s')]))→∀L,m8 k' L=none:=fun k' hk' L=>by
        rw[st3.newk k' hk'];exact S7.dom k' (fun h=>hk' (st3.keep k' h)) L
       have S8:AS cc1 m8 Z8 (hV (K4 H6 [(k,.gn i ct s')])) w8:=⟨S7.step.trans st3,hk6⟩
       have hR8:zc2 m8 Z8 (eV E6) ρ6:=fun t=>(hR6 t).up st3.zext (fun g e=>by cases e;exact⟨m8,rfl,st3.mext⟩)
       exact⟨rfl,y,m8,Z8,_,rfl,st3,S8,fun w9 S9=>hend [dd] E6 _ g7 m8 Z8 ρ6 tmps w9 ht S9 hR8⟩
      ·exact(Is.fail g6).elim
    ·exact(Is.fail g4).elim
   ·refine zg7 (J5 (X:=X) (cc:=cc) hS hT (fun e=>by cases e) hm (gf hb1) (fun E4 H4 g4 ρ4 w4 ds4 SA4 hM4=>?_) _ _ _ SA3 hM3)
    refine⟨rfl,fun tmps ht=>?_⟩;obtain⟨m4,Z4,S4,hR4⟩:=SA4;obtain⟨lq,rfl,h2,h3,h4,h5⟩:=hM4
    exact oF lq w4 h2 h3 h4 S4 fun w9 S9=>hend [] E4 H4 g4 m4 Z4 ρ4 tmps w9 ht S9 hR4
  ·exact(Is.fail g3).elim
 refine(callsIn_wide (n:=0)).1 (callsIn_of_wp_marks hf hb trivial ?_)
 refine wpIn_mono (hmain _ 0 ⟨?_,rfl,fun t=>?_⟩) fun e a w' hq=>?_
 ·simp;omega
 ·simp only[wK,Array.getD_eq_getD_getElem?,List.getD_eq_getElem?_getD]
  rw[Array.getElem?_append];split
  ·simp
  ·rename_i hlt
   simp only[List.size_toArray]at hlt;rw[List.getElem?_eq_none (by omega)];simp only[List.size_toArray];rw[Array.getElem?_replicate];split<;>rfl
 ·obtain⟨ρr',ds',hf',rfl,h⟩:=hq
  have:=h a.tmps hf'.get;rw[← hf'.defs]at this;exact this
end
end Go.EQ
namespace Go.Proofs.YtffencjoddkghaaGreatDoor
open Go Go.RowKit Go.Eng Go.EV Go.EQ
theorem zDb{T:Nat}(hT:zo6 T)(k:Nat)(s t:List UInt8)(hl:s.length+t.length≤140737488355328):FnD Tryz.prog 162 [.ptr k 0 0,.str t] [(k,sb T s)] (.tup [.int .i64 (t.length:Nat),.nili]) [(k,sb T (s++t))]:=by
 intro w m Z vals u hs hv;obtain⟨b,h1,h2⟩:=zr0 hs;obtain⟨r,rfl,h3⟩:=Ai h1 hv;obtain⟨x,xs,rfl,rfl,h4⟩:=h3;cases h4;refine((zo8 hT b _ ⟨t.toArray⟩ w h2 (by rw[Lib.byteCells_length,VG];exact hl)).2 u).mono ?_;rintro en u' w' ⟨rfl,rfl,h5,h6⟩;rw[strCells_eq,← Jb]at h5;obtain⟨m',st⟩:=VF hs h1 h5 h6;exact⟨rfl,_,m',Z,rfl,st,_,rfl,_,_,rfl,by rw[VG];rfl,_,_,rfl,rfl,rfl⟩
theorem zr5(args:Array Value)(w:World):(callFunc 162 args).run Tryz.prog w=.ok (.enter 162 args) w:=enters_of Tryz.func162 (by kernel_rfl) rfl args w
def zo4(s:List UInt8):Option (List UInt8):=(grd (List.length s+2≤140737488355328)).bind fun _=>some (s++[32,41])
class Fuel where
 n:Nat
 big:18446744073709551616≤n
def KK[Fuel]:Nat:=Fuel.n
open Go Go.RowKit
theorem size5:(Tryz.prog.info? 5).map (·.size)=some 1:=by kernel_rfl
set_option maxHeartbeats 2000000 in
set_option maxRecDepth 1000000 in
theorem zn1(b n:Nat)(w:World)(hbk:w.heap[b]?=some (.cells #[.pointer (some ⟨b,0,none⟩),.slice none 0 0] 108 (0,0)))(hn:n≤281474976710656):
  Calls Tryz.prog 212 #[.pointer (some ⟨b,0,none⟩),.int .i64 n] w fun e w'=>e=.returned (.tuple #[])∧Lib.IsBuilderF 108 5 0 b [] w'∧q9 b w w':=by
 obtain⟨cs,hrun,hle,hmax⟩:=Lib.run_makeNoZero (P:=Tryz.prog) w.drew #[3] 106 5 Tryz.underlying106 n hn
 have hw:IntKind.i64.wrap (IntKind.i64.wrap 0+(n:Int))=n:=by
  rw[IntKind.wrap_i64,IntKind.wrap_i64];omega
 have hcall:(callFunc 227 #[.int .i64 (IntKind.i64.wrap (IntKind.i64.wrap 0+(n:Int)))]).run Tryz.prog w.drew=.ok (.value (.slice (some ⟨w.drew.heap.size,0,none⟩) n cs.size)) (w.drew.drew.drew.alloc (.cells cs 5)):=by
  rw[hw,run_callFunc_extern Tryz.func227 (by kernel_rfl) (by kernel_rfl) (by kernel_rfl) (e:=Extern.BytealgMakeNoZero.makeNoZero #[3] #[106]) (by kernel_rfl),hrun];rfl
 have hlt:b<w.heap.size:=by
  rcases Nat.lt_or_ge b w.heap.size with h'|h'
  ·exact h'
  ·simp[Array.getElem?_eq_none h']at hbk
 have c1:w.drew.cell? ⟨b,1,none⟩=some (.slice none 0 0):=by
  have:w.drew.heap[b]?=_:=hbk;rw[Lib.cell_of_heap this];rfl
 have c2:(w.alloc (.cells cs 5)).cell? ⟨b,1,none⟩=some (.slice none 0 0):=by
  have:(w.alloc (.cells cs 5)).heap[b]?=_:=(Lib.alloc_old w _ b hlt).trans hbk;rw[Lib.cell_of_heap this];rfl
 have f2:(w.alloc (.cells cs 5)).frozen? ⟨b,1,none⟩=false:=Lib.frozen_of_heap ((Lib.alloc_old w _ b hlt).trans hbk) 1
 have hcopy:∀W:World,(Builtin.copy_ #[106,106] 3 #[.slice (some ⟨w.heap.size,0,none⟩) 0 cs.size,.slice none 0 0]).run Tryz.prog W=.ok (goInt 0) W :=
  fun W=>run_copy_none W 106 106 3 5 _ _ 0 cs.size 0 0 Tryz.underlying106 size5 rfl
 have hfin:Lib.IsBuilderF 108 5 0 b [] ((w.setCell ⟨b,1,none⟩ (.slice (some ⟨w.heap.size,0,none⟩) 0 cs.size)).alloc (.cells cs 5)).drew.drew.drew∧q9 b w ((w.setCell ⟨b,1,none⟩ (.slice (some ⟨w.heap.size,0,none⟩) 0 cs.size)).alloc (.cells cs 5)).drew.drew.drew:=by
  have hm:=hmax (by unfold maxLen;omega)
  have hsz:(w.setCell ⟨b,1,none⟩ (.slice (some ⟨w.heap.size,0,none⟩) 0 cs.size)).heap.size=w.heap.size:=by simp[World.setCell]
  have e1:(w.setCell ⟨b,1,none⟩ (.slice (some ⟨w.heap.size,0,none⟩) 0 cs.size)).heap[b]?=some (.cells #[.pointer (some ⟨b,0,none⟩),.slice (some ⟨w.heap.size,0,none⟩) 0 cs.size] 108 (0,0)):=by simp[World.setCell,Array.getElem?_modify,hbk]
  have e2:((w.setCell ⟨b,1,none⟩ (.slice (some ⟨w.heap.size,0,none⟩) 0 cs.size)).alloc (.cells cs 5)).heap[b]?=some (.cells #[.pointer (some ⟨b,0,none⟩),.slice (some ⟨w.heap.size,0,none⟩) 0 cs.size] 108 (0,0)):=(Lib.alloc_old _ _ b (by rw[hsz];exact hlt)).trans e1
  have e3:((w.setCell ⟨b,1,none⟩ (.slice (some ⟨w.heap.size,0,none⟩) 0 cs.size)).alloc (.cells cs 5)).heap[w.heap.size]?=some (.cells cs 5 (0,0)):=by
   have:=heap_alloc_new (w.setCell ⟨b,1,none⟩ (.slice (some ⟨w.heap.size,0,none⟩) 0 cs.size)) (.cells cs 5)
   rwa [hsz]at this
  refine⟨.inr ⟨Nat.zero_le _,_,e2,⟨rfl,.inr ⟨w.heap.size,cs.size,cs,(0,0),rfl,Nat.zero_le _,e3,Nat.zero_le _,Nat.zero_le _,hm,by simp,by simp⟩⟩,by simp[Value.ownBlock];omega⟩,_,_,108,_,_,hbk,e2,rfl,rfl,rfl,?_,fun k hk hkb _=>?_,fun g hg=>?_,fun g hg=>(by cases hg)⟩
  ·have:((w.setCell ⟨b,1,none⟩ (.slice (some ⟨w.heap.size,0,none⟩) 0 cs.size)).alloc (.cells cs 5)).heap.size=(w.setCell ⟨b,1,none⟩ (.slice (some ⟨w.heap.size,0,none⟩) 0 cs.size)).heap.size+1:=by simp
   exact Nat.le_trans (Nat.le_succ w.heap.size) (Nat.le_of_eq (congrArg (·+1) hsz.symm |>.trans this.symm))
  ·exact(Lib.alloc_old _ _ k (by rw[hsz];exact hk)).trans (Below.heap_setCell _ _ _ _ (fun e=>hkb (by simp[e])))
  ·simp only[Value.ownBlock,Option.some.injEq]at hg
   exact .inl (by omega)
 clear hw;have mixed:=Q8
 go_enter Tryz.func212,Tryz.ntmps212
 go_wp2
 go_region_o
 all_goals (go_wp2;go_end0;exact⟨rfl,hfin⟩)
theorem zw5{T b:Nat}{w:World}{p v:Value}(hbk:w.heap[b]?=some (.cells #[p,v] T (0,0))):w.shape? b=some (T,2):=by simp[World.shape?,hbk]
set_option maxHeartbeats 2000000 in
set_option maxRecDepth 1000000 in
theorem zw6(b n:Nat)(w:World)(hbk:w.heap[b]?=some (.cells #[.pointer none,.slice none 0 0] 108 (0,0)))(hn:n≤281474976710656):
  Calls Tryz.prog 167 #[.pointer (some ⟨b,0,none⟩),.int .i64 n] w fun e w'=>e=.returned (.tuple #[])∧Lib.IsBuilderF 108 5 0 b [] w'∧q9 b w w':=by
 have hbk1:(w.setCell ⟨b,0,none⟩ (.pointer (some ⟨b,0,none⟩))).heap[b]?=some (.cells #[.pointer (some ⟨b,0,none⟩),.slice none 0 0] 108 (0,0)):=by
  simp[World.setCell,Array.getElem?_modify,hbk]
 have c1:(w.setCell ⟨b,0,none⟩ (.pointer (some ⟨b,0,none⟩))).cell? ⟨b,1,none⟩=some (.slice none 0 0):=by rw[Lib.cell_of_heap hbk1];rfl
 have c1':(w.setCell ⟨b,0,none⟩ (.pointer (some ⟨b,0,none⟩))).drew.cell? ⟨b,1,none⟩=some (.slice none 0 0):=c1;have hU:Lib.IsBuilderF 108 5 0 b [] (w.setCell ⟨b,0,none⟩ (.pointer (some ⟨b,0,none⟩))).drew:=.inr ⟨Nat.zero_le _,.slice none 0 0,hbk1,World.ownsRowF_nil _ _ _ _,by simp[Value.ownBlock]⟩
 have hk:∀k,k≠b→(w.setCell ⟨b,0,none⟩ (.pointer (some ⟨b,0,none⟩))).heap[k]?=w.heap[k]?:=fun k hk=>Below.heap_setCell _ _ _ _ (fun e=>hk (by simp[e]))
 have hsz:(w.setCell ⟨b,0,none⟩ (.pointer (some ⟨b,0,none⟩))).heap.size=w.heap.size:=by simp[World.setCell]
 have hT:q9 b w (w.setCell ⟨b,0,none⟩ (.pointer (some ⟨b,0,none⟩))).drew:=⟨_,_,108,_,_,hbk,hbk1,rfl,rfl,rfl,Nat.le_of_eq hsz.symm,fun k _ hkb _=>hk k hkb,fun g hg=>(by cases hg),fun g hg=>(by cases hg)⟩
 have hT2:∀w',q9 b (w.setCell ⟨b,0,none⟩ (.pointer (some ⟨b,0,none⟩))).drew w'→q9 b w w':=fun w' ⟨p,v,T,p',v',t1,t2,t3,t4,t5,t6,t7,t8,t9⟩=>by
  have t1':=hbk1.symm.trans t1;cases t1';refine⟨_,_,108,p',v',hbk,t2,t3,t4,t5,Nat.le_trans (Nat.le_of_eq hsz.symm) t6,fun k hk1 hkb _=>?_,fun g hg=>?_,fun g hg=>(by cases hg)⟩
  ·exact(t7 k (Nat.lt_of_lt_of_le hk1 (Nat.le_of_eq hsz.symm)) hkb (by simp[Value.ownBlock])).trans (hk k hkb)
  ·rcases t8 g hg with h|h
   ·exact .inl (Nat.le_trans (Nat.le_of_eq hsz.symm) h)
   ·cases h
 have mixed:=Q8
 go_enter Tryz.func167,Tryz.ntmps167
 go_wp2_with (go_at_call 209;refine(Q7 ZV b w (by rw[Lib.cell_of_heap hbk];rfl) (zw5 hbk) (Lib.frozen_of_heap hbk 0)).mono ?_;rintro e w' ⟨rfl,rfl⟩)
 go_region_o
 all_goals go_wp2_with (go_at_call 212;refine(zn1 b n (w.setCell ⟨b,0,none⟩ (.pointer (some ⟨b,0,none⟩))).drew hbk1 hn).mono ?_;rintro e w' ⟨rfl,h1,h2⟩)
 all_goals first
  |(go_end0;exact⟨rfl,h1,hT2 _ h2⟩)
  |(go_end0;exact⟨rfl,hU,hT⟩)
open Go.Eng Go.EV Go.EQ in
theorem zw7(k n:Nat)(hn:n≤281474976710656):FnA Tryz.prog 167 [.ptr k 0 0,.int .i64 n] [(k,.box 108 [.nilp,.nils])] (.tup []) [(k,sb 108 [])]:=by
 intro w m Z vals hs hv _;obtain⟨h1,h2⟩:=zr2 (hs.holds _ (msQ.2 rfl))
 have hs':xp m Z [(k,sb 108 [])] w:=⟨hs.frozen,fun p hp=>by cases msQ.1 hp;exact h1,hs.nodup,fun p hp q hq _ _ _=>by cases msQ.1 hp;cases msQ.1 hq;rfl⟩
 obtain⟨b,cur,g1,g2,⟨x,xs,e1,hx,y,ys,e2,hy,e3⟩,g4,g5⟩:=hs.holds _ (msQ.2 rfl);subst e3;subst e2;have hx:x=.pointer none:=hx;have hy:y=.slice none 0 0:=hy;subst hx;subst hy
 have hc:cur=#[.pointer none,.slice none 0 0]:=by
  apply Array.ext';rw[e1]
 subst hc;obtain⟨r,rfl,h3⟩:=Ai g1 hv;obtain⟨x,xs,rfl,rfl,h4⟩:=h3;cases h4;refine Calls.mono (zw6 b n w g2 hn) ?_;rintro en w' ⟨rfl,h5,h6⟩;obtain⟨m',st⟩:=VF hs' g1 (s':=[]) h5 h6
 have hb:∀c,¬blk m (k,.box 108 [.nilp,.nils]) c→¬blk m (k,sb 108 []) c:=fun c hn h=>hn (h2 c h)
 exact⟨_,m',Z,rfl,⟨st.sim,st.mext,st.zext,st.os,st.tape,st.output,st.size,fun c hc hn=>st.frame c hc fun p hp=>by cases msQ.1 hp;exact hb c (hn _ (msQ.2 rfl)),st.keep,st.newk,fun p hp c hc=>(st.blks p hp c hc).imp id fun⟨q,hq,e⟩=>by cases msQ.1 hq;exact⟨_,msQ.2 rfl,h2 c e⟩,fun a x ha=>(st.znew a x ha).imp id (Or.imp id fun⟨q,hq,e⟩=>by cases msQ.1 hq;exact⟨_,msQ.2 rfl,h2 _ e⟩)⟩,[],rfl,rfl⟩
end Go.Proofs.YtffencjoddkghaaGreatDoor
set_option maxRecDepth 100000
namespace Go.Proofs.YtffencjoddkghaaGreatDoor.J
open Go Go.RowKit Go.Eng Go.EV Go.EQ
structure Expr where
 Op:Int
 N:Int
 S:(List UInt8)
 Key:(List UInt8)
 Args:(List Expr)
instance:Inhabited Expr:=⟨⟨0,0,[],[],[]⟩⟩
mutual
def kj:Expr→List V
 |⟨a0,a1,a2,a3,a4⟩=>[.int .i64 a0,.int .i64 a1,.str a2,.str a3,.vs 5 (yn a4)]
def yn:List Expr→List (List V)
 |[]=>[]
 |x::r=>kj x::yn r
end
def y6(x:Expr):List V:=[.int .i64 x.Op,.int .i64 x.N,.str x.S,.str x.Key,.vs 5 (yn x.Args)]
theorem oG(x:Expr):kj x=y6 x:=by cases x;rw[kj];rfl
theorem wU:∀l:List Expr,yn l=l.map y6
 |[]=>by rw[yn];rfl
 |x::r=>by rw[yn,oG,wU r];rfl
structure Def where
 Name:(List UInt8)
 Body:Expr
 deriving Inhabited
def VJ(x:Def):List V:=[.str x.Name,.int .i64 x.Body.Op,.int .i64 x.Body.N,.str x.Body.S,.str x.Body.Key,.vs 5 (yn x.Body.Args)]
structure Entry where
 Name:(List UInt8)
 N:Int
 deriving Inhabited,DecidableEq
def qK(x:Entry):List V:=[.str x.Name,.int .i64 x.N]
structure Table where
 Name:(List UInt8)
 Rows:(List Entry)
 Else:Int
 deriving Inhabited,DecidableEq
def oH(x:Table):List V:=[.str x.Name,.vs 2 (List.map qK x.Rows),.int .i64 x.Else]
structure yP where
 X:Int
 Y:Int
 deriving Inhabited,DecidableEq
def jg(x:yP):List V:=[.int .i64 x.X,.int .i64 x.Y]
structure xE where
 Name:(List UInt8)
 Overlay:Bool
 Corners:(List yP)
 deriving Inhabited,DecidableEq
def Jd(x:xE):List V:=[.str x.Name,.bool x.Overlay,.vs 2 (List.map jg x.Corners)]
structure zP where
 Side:Int
 Base:Int
 Num:Int
 Den:Int
 deriving Inhabited,DecidableEq
def Je(x:zP):List V:=[.int .i64 x.Side,.int .i64 x.Base,.int .i64 x.Num,.int .i64 x.Den]
structure yz where
 Name:(List UInt8)
 Zones:(List (List UInt8))
 Except:(List (List UInt8))
 From:Int
 Until:Int
 Grace:Int
 Vary:Bool
 Kind:Int
 Test:Expr
 zP:zP
 Uses:Int
 Other:Int
 N:Int
 deriving Inhabited
def Jf(x:yz):List V:=[.str x.Name,.vs 1 (List.map EV.zEa x.Zones),.vs 1 (List.map EV.zEa x.Except),.int .i64 x.From,.int .i64 x.Until,.int .i64 x.Grace,.bool x.Vary,.int .i64 x.Kind,.int .i64 x.Test.Op,.int .i64 x.Test.N,.str x.Test.S,.str x.Test.Key,.vs 5 (yn x.Test.Args),.int .i64 x.zP.Side,.int .i64 x.zP.Base,.int .i64 x.zP.Num,.int .i64 x.zP.Den,.int .i64 x.Uses,.int .i64 x.Other,.int .i64 x.N]
structure Cap where
 Name:(List UInt8)
 Load:Int
 Limit:Int
 Corners:(List yP)
 deriving Inhabited,DecidableEq
def VK(x:Cap):List V:=[.str x.Name,.int .i64 x.Load,.int .i64 x.Limit,.vs 2 (List.map jg x.Corners)]
structure zn where
 X:Int
 Y:Int
 Z_:Int
 deriving Inhabited,DecidableEq
def vB(x:zn):List V:=[.int .i64 x.X,.int .i64 x.Y,.int .i64 x.Z_]
structure View where
 Name:(List UInt8)
 Eye:zn
 Least:Int
 Targets:(List zn)
 deriving Inhabited,DecidableEq
def Jg(x:View):List V:=[.str x.Name,.int .i64 x.Eye.X,.int .i64 x.Eye.Y,.int .i64 x.Eye.Z_,.int .i64 x.Least,.vs 3 (List.map vB x.Targets)]
structure Token where
 Kind:Int
 Text:(List UInt8)
 N:Int
 Pos:Int
 deriving Inhabited,DecidableEq
def Jh(x:Token):List V:=[.int .i64 x.Kind,.str x.Text,.int .i64 x.N,.int .i64 x.Pos]
variable[AK]
theorem kmp{a b:Prop}(h:a=b)(x:a):b:=h▸x
def zr6(n:Int):Option (List UInt8):=(grd (0≤n∧n≤281474976710656)).bind fun _=>some []
theorem zF7(n:Int)(r:List UInt8)(h:zr6 n=some r):r=[]∧FnA Tryz.prog 167 [.ptr 1 0 0,.int .i64 n] [(1,.box 108 [.nilp,.nils])] (.tup []) [(1,sb 108 [])]:=by
 obtain⟨_,h1,h2⟩:=bind_some h;obtain⟨g1,g2⟩:=yD h1;cases h2;obtain⟨m,rfl⟩:=Int.eq_ofNat_of_zero_le g1;exact⟨rfl,zw7 1 m (by omega)⟩
def zzm:Nat→Type
 |0=>Expr
 |1=>Def
 |2=>Entry
 |3=>Table
 |4=>yP
 |5=>xE
 |6=>zP
 |7=>yz
 |8=>Cap
 |9=>zn
 |10=>View
 |11=>Token
 |_=>Unit
def goT(i:Nat):(c:TC)→c.ty zzm→EV.Obj
 |.s,x=>sb (bif Nat.beq i 0 then 108 else 123) x
 |_,_=>.gen gone
def TS:Tab where
 T:=zzm
 dflt:=fun n=>match n with
  |0=>(default:Expr)
  |1=>(default:Def)
  |2=>(default:Entry)
  |3=>(default:Table)
  |4=>(default:yP)
  |5=>(default:xE)
  |6=>(default:zP)
  |7=>(default:yz)
  |8=>(default:Cap)
  |9=>(default:zn)
  |10=>(default:View)
  |11=>(default:Token)
  |_+12=>()
 fl:=fun n=>match n with
  |0=>[.i .i64,.i .i64,.s,.s,.l (.st 0)]
  |1=>[.s,.st 0]
  |2=>[.s,.i .i64]
  |3=>[.s,.l (.st 2),.i .i64]
  |4=>[.i .i64,.i .i64]
  |5=>[.s,.b,.l (.st 4)]
  |6=>[.i .i64,.i .i64,.i .i64,.i .i64]
  |7=>[.s,.l (.s),.l (.s),.i .i64,.i .i64,.i .i64,.b,.i .i64,.st 0,.st 6,.i .i64,.i .i64,.i .i64]
  |8=>[.s,.i .i64,.i .i64,.l (.st 4)]
  |9=>[.i .i64,.i .i64,.i .i64]
  |10=>[.s,.st 9,.i .i64,.l (.st 9)]
  |11=>[.i .i64,.s,.i .i64,.i .i64]
  |_+12=>[]
 cn:=fun n=>match n with
  |0=>5
  |1=>6
  |2=>2
  |3=>3
  |4=>2
  |5=>3
  |6=>4
  |7=>20
  |8=>4
  |9=>3
  |10=>6
  |11=>4
  |_+12=>0
 out:=fun n=>match n with
  |0=>fun x=>((x:Expr).Op,(x:Expr).N,(x:Expr).S,(x:Expr).Key,(x:Expr).Args)
  |1=>fun x=>((x:Def).Name,(x:Def).Body)
  |2=>fun x=>((x:Entry).Name,(x:Entry).N)
  |3=>fun x=>((x:Table).Name,(x:Table).Rows,(x:Table).Else)
  |4=>fun x=>((x:yP).X,(x:yP).Y)
  |5=>fun x=>((x:xE).Name,(x:xE).Overlay,(x:xE).Corners)
  |6=>fun x=>((x:zP).Side,(x:zP).Base,(x:zP).Num,(x:zP).Den)
  |7=>fun x=>((x:yz).Name,(x:yz).Zones,(x:yz).Except,(x:yz).From,(x:yz).Until,(x:yz).Grace,(x:yz).Vary,(x:yz).Kind,(x:yz).Test,(x:yz).zP,(x:yz).Uses,(x:yz).Other,(x:yz).N)
  |8=>fun x=>((x:Cap).Name,(x:Cap).Load,(x:Cap).Limit,(x:Cap).Corners)
  |9=>fun x=>((x:zn).X,(x:zn).Y,(x:zn).Z_)
  |10=>fun x=>((x:View).Name,(x:View).Eye,(x:View).Least,(x:View).Targets)
  |11=>fun x=>((x:Token).Kind,(x:Token).Text,(x:Token).N,(x:Token).Pos)
  |_+12=>fun _=>()
 inj:=fun n=>match n with
  |0=>fun x=>(⟨x.1,x.2.1,x.2.2.1,x.2.2.2.1,x.2.2.2.2⟩:Expr)
  |1=>fun x=>(⟨x.1,x.2⟩:Def)
  |2=>fun x=>(⟨x.1,x.2⟩:Entry)
  |3=>fun x=>(⟨x.1,x.2.1,x.2.2⟩:Table)
  |4=>fun x=>(⟨x.1,x.2⟩:yP)
  |5=>fun x=>(⟨x.1,x.2.1,x.2.2⟩:xE)
  |6=>fun x=>(⟨x.1,x.2.1,x.2.2.1,x.2.2.2⟩:zP)
  |7=>fun x=>(⟨x.1,x.2.1,x.2.2.1,x.2.2.2.1,x.2.2.2.2.1,x.2.2.2.2.2.1,x.2.2.2.2.2.2.1,x.2.2.2.2.2.2.2.1,x.2.2.2.2.2.2.2.2.1,x.2.2.2.2.2.2.2.2.2.1,x.2.2.2.2.2.2.2.2.2.2.1,x.2.2.2.2.2.2.2.2.2.2.2.1,x.2.2.2.2.2.2.2.2.2.2.2.2⟩:yz)
  |8=>fun x=>(⟨x.1,x.2.1,x.2.2.1,x.2.2.2⟩:Cap)
  |9=>fun x=>(⟨x.1,x.2.1,x.2.2⟩:zn)
  |10=>fun x=>(⟨x.1,x.2.1,x.2.2.1,x.2.2.2⟩:View)
  |11=>fun x=>(⟨x.1,x.2.1,x.2.2.1,x.2.2.2⟩:Token)
  |_+12=>fun _=>()
 enc:=fun n=>match n with
  |0=>y6
  |1=>VJ
  |2=>qK
  |3=>oH
  |4=>jg
  |5=>Jd
  |6=>Je
  |7=>Jf
  |8=>VK
  |9=>vB
  |10=>Jg
  |11=>Jh
  |_+12=>fun _=>[]
 ro:=fun n=>match n with
  |1=>gl0 AK.ob0
  |2=>gl1 AK.ob1
  |3=>gl2 AK.ob2 AK.m2
  |4=>gl3 AK.ob3
  |_=>.gen gone
 go:=goT
theorem zDc:TS.OK where
 enc_out:=fun n x=>match n with
  |0=>by
   show y6 x=_
   unfold y6;simp only[wU];rfl
  |1=>rfl
  |2=>rfl
  |3=>rfl
  |4=>rfl
  |5=>rfl
  |6=>rfl
  |7=>rfl
  |8=>rfl
  |9=>rfl
  |10=>rfl
  |11=>rfl
  |_+12=>rfl
 out_mk:=fun n h=>match n with
  |0=>rfl
  |1=>rfl
  |2=>rfl
  |3=>rfl
  |4=>rfl
  |5=>rfl
  |6=>rfl
  |7=>rfl
  |8=>rfl
  |9=>rfl
  |10=>rfl
  |11=>rfl
  |_+12=>rfl
 ro0:=rfl
 rren:=fun i σ=>match i with|0=>rfl|1=>rfl|2=>rfl|3=>rfl|4=>rfl|_+5=>rfl
 rref:=fun i=>match i with|0=>rfl|1=>rfl|2=>rfl|3=>rfl|4=>rfl|_+5=>rfl
 rfrz:=fun i k=>match i with|0=>rfl|1=>rfl|2=>rfl|3=>rfl|4=>rfl|_+5=>rfl
 len:=fun n x=>match n with
  |0=>rfl
  |1=>rfl
  |2=>rfl
  |3=>rfl
  |4=>rfl
  |5=>rfl
  |6=>rfl
  |7=>rfl
  |8=>rfl
  |9=>rfl
  |10=>rfl
  |11=>rfl
  |_+12=>rfl
 one:=fun n x=>match n with
  |0=>rfl
  |1=>rfl
  |2=>rfl
  |3=>rfl
  |4=>rfl
  |5=>rfl
  |6=>rfl
  |7=>rfl
  |8=>rfl
  |9=>rfl
  |10=>rfl
  |11=>rfl
  |_+12=>rfl
 refs:=fun n x=>match n with
  |0=>rfl
  |1=>rfl
  |2=>rfl
  |3=>rfl
  |4=>rfl
  |5=>rfl
  |6=>rfl
  |7=>rfl
  |8=>rfl
  |9=>rfl
  |10=>rfl
  |11=>rfl
  |_+12=>rfl
 gren:=fun i c x σ=>by cases c<;>rfl
 gref:=fun i c x=>by cases c<;>rfl
 gfrz:=fun i c x k=>by cases c<;>rfl
 ggl:=fun i c x k=>by cases c<;>rfl
def cdT(t:Nat):Option TC:=bif Nat.beq t 4 then some (.b)else bif Nat.beq t 9 then some (.s)else bif Nat.beq t 37 then some (.st 0)else bif Nat.beq t 51 then some (.st 11)else bif Nat.beq t 57 then some (.st 1)else bif Nat.beq t 64 then some (.st 5)else bif Nat.beq t 87 then some (.st 3)else bif Nat.beq t 94 then some (.st 7)else bif Nat.beq t 96 then some (.st 8)else bif Nat.beq t 98 then some (.st 9)else bif Nat.beq t 100 then some (.st 10)else bif Nat.beq t 119 then some (.st 2)else bif Nat.beq t 156 then some (.st 4)else none
def nbT:NB:=fun t=>bif Nat.beq t 31 then[(0,true,57,.st 1),(1,true,87,.st 3),(2,true,64,.st 5),(3,true,94,.st 7),(4,true,96,.st 8),(5,true,100,.st 10),(6,true,98,.st 9)]else bif Nat.beq t 37 then[(4,false,37,.st 0)]else bif Nat.beq t 57 then[(5,false,37,.st 0)]else bif Nat.beq t 64 then[(2,false,156,.st 4)]else bif Nat.beq t 67 then[(0,false,51,.st 11)]else bif Nat.beq t 71 then[(0,false,51,.st 11),(2,true,57,.st 1),(3,true,87,.st 3),(4,true,64,.st 5),(5,true,94,.st 7),(6,true,96,.st 8),(7,true,100,.st 10),(8,true,8000098,.st 9),(10,true,7000000,.l (.m (.s) (.b))),(11,true,7000000,.l (.m (.s) (.b))),(12,true,7000000,.l (.m (.s) (.b))),(13,true,7000000,.l (.m (.s) (.b))),(14,true,7000000,.l (.m (.s) (.b))),(15,true,7000000,.l (.m (.s) (.b)))]else bif Nat.beq t 76 then[(0,false,51,.st 11)]else bif Nat.beq t 87 then[(1,true,119,.st 2)]else bif Nat.beq t 94 then[(1,false,9,.s),(2,false,9,.s),(12,false,37,.st 0)]else bif Nat.beq t 96 then[(3,false,156,.st 4)]else bif Nat.beq t 100 then[(5,true,98,.st 9)]else[]
theorem zDd:Tryz.prog.follows .mixedOrders=true:=by kernel_rfl
variable[Fuel]
theorem zF8:ze Tryz.prog 167:=zh (by kernel_rfl)
theorem zkz:ze Tryz.prog 162:=zh (by kernel_rfl)
theorem zn2:ze Tryz.prog 60:=zh (by kernel_rfl)
theorem zw8:ze Tryz.prog 65:=zh (by kernel_rfl)
theorem ctk{f:Nat}{fn:Func}{code:Code}{T:CtT TS}{c:Ct TS}{h:HT TS c.co}(hf:Tryz.prog.funcs[f]?=some fn)(hb:fn.body=some code)(hB:ze Tryz.prog f)(hT:CtT.OK Tryz.prog T)(hr:∀x,((evF Tryz.prog fn code T cdT KK nbT c [] h x).run,(evF Tryz.prog fn code T cdT KK nbT c [] h x).tr true)=(c.fn x,(evF Tryz.prog fn code T cdT KK nbT c [] h x).tr false)):ze Tryz.prog f∧c.OK Tryz.prog f :=
 ⟨hB,zC6 (T:=T) (cd:=cdT) (kk:=KK) (nb:=nbT) (rc:=[]) (h:=h) zDc hf hb zDd hT (fun x=>congrArg Prod.fst (hr x)) (fun x=>congrArg Prod.snd (hr x))⟩
def zk0(a0:Int):Option ((List UInt8)):=zr6 a0
def zzn:Ct TS:=⟨[.ptr 1 0,.d (.i .i64) 0],[(1,.box 108 [.nilp,.nils])],[.i .i64],.tup [],[(1,.gn 0 (.s) 1)],[.s],false,fun x=>zk0 x⟩
theorem zDe:zzn.OK Tryz.prog 167:=fun x r h=>by
 obtain⟨h1,h2⟩:=zF7 x r h;cases h1;exact kmp (by kernel_rfl) h2
def yt(a0:(List UInt8))(a1:(List UInt8)):Option (Int×(List UInt8)):=(grd (List.length a0+List.length a1≤140737488355328)).bind fun _=>some (((List.length a1:Nat):Int),a0++a1)
def VL:Ct TS:=⟨[.ptr 1 0,.d .s 1],[(1,.gn 0 (.s) 0)],[.s,.s],.tup [.d (.i .i64) 2,.nili],[(1,.gn 0 (.s) 3)],[.i .i64,.s],false,fun x=>yt x.1 x.2⟩
theorem zbj:VL.OK Tryz.prog 162:=fun x r h=>by
 obtain⟨_,h1,h2⟩:=bind_some h;cases h2;exact kmp (by kernel_rfl) (zic ZV 1 x.1 x.2 (yD h1))
def vC(a0:(List UInt8)):Option ((List UInt8)):=some a0
def j3:Ct TS:=⟨[.ptr 1 0],[(1,.gn 0 (.s) 0)],[.s],.d .s 1,[(1,.gn 0 (.s) 0)],[.s],false,fun x=>vC x⟩
theorem uA:j3.OK Tryz.prog 60:=fun x r h=>by
 cases h;exact kmp (by kernel_rfl) (J3 (T:=108) 1 x)
def yh(c0:(List (List UInt8)))(c1:(List UInt8))(c2:Int):Nat→(Int×Int)→Option (Int)
 |0,_=>none
 |K+1,q=>(bif (decide (q.2<c2))then(idx c0 q.2).bind fun x1=>(bif (decide (((List.length x1:Nat):Int)>(w64 (9223372036854775807-q.1))))then none else yh c0 c1 c2 K ((w64 (q.1+((List.length x1:Nat):Int))),(w64 (q.2+1))))else some q.1)
def yi(c0:(List UInt8))(c1:(List (List UInt8)))(c2:Int):Nat→(Int×(List UInt8))→Option ((List UInt8))
 |0,_=>none
 |K+1,q=>(bif (decide (q.1<c2))then(idx c1 q.1).bind fun x1=>(yt q.2 c0).bind fun x2=>(yt x2.2 x1).bind fun x3=>yi c0 c1 c2 K ((w64 (q.1+1)),x3.2)else some q.2)
def wG(elems:(List (List UInt8)))(sep:(List UInt8)):Option ((List UInt8)) :=
 (bif (decide (((List.length elems:Nat):Int)=0))then some ([]:List UInt8)else(bif (decide (((List.length elems:Nat):Int)=1))then(idx elems 0).bind fun x1=>some x1 else((bif (decide (((List.length sep:Nat):Int)>0))then(grd ((w64 (((List.length elems:Nat):Int)-1))≠0)).bind fun _=>(bif (decide (((List.length sep:Nat):Int)≥(w64 (Int.tdiv 9223372036854775807 (w64 (((List.length elems:Nat):Int)-1))))))then none else some (w64 (0+(w64 (((List.length sep:Nat):Int)*(w64 (((List.length elems:Nat):Int)-1)))))))else some 0)).bind fun x2=>(yh elems sep ((List.length elems:Nat):Int) KK (x2,0)).bind fun x4=>(zk0 x4).bind fun x5=>(idx elems 0).bind fun x6=>(yt x5 x6).bind fun x7=>(cut elems 1 ((List.length elems:Nat):Int)).bind fun x8=>(yi sep x8 ((List.length x8:Nat):Int) KK (0,x7.2)).bind fun x9=>(vC x9).bind fun x10=>some x10))
def Yj:Ct TS:=⟨[.d (.l (.s)) 0,.d .s 1],[],[.l (.s),.s],.d .s 2,[],[.s],false,fun x=>wG x.1 x.2⟩
theorem VM:ze Tryz.prog 65∧Yj.OK Tryz.prog 65:=ctk (T:=[(167,zzn),(162,VL),(60,j3)]) (h:=.s .n (.s .n (.s .n (.s (.j ⟨[(0,.d (.l (.s)) 0),(1,.d .s 1),(5,.d (.i .i64) 2)],[],[.l (.s),.s],[.i .i64]⟩ false .n) (.s (.s .n (.s (.l ⟨[(0,.d (.l (.s)) 0),(1,.d .s 1),(5,.d (.i .i64) 3),(39,.d (.l (.s)) 0),(40,.d (.i .i64) 2),(41,.d (.i .i64) 4)],[],[.l (.s),.s,.i .i64],[.i .i64,.i .i64]⟩ [(0,.d (.l (.s)) 0),(1,.d .s 1),(5,.d (.i .i64) 3)] [] [.i .i64] 1 (fun x K v=>yh x.1 x.2.1 x.2.2 K v) .n) .n)) (.s .n (.s .n (.s .n (.s (.s .n (.s (.l ⟨[(1,.d .s 0),(8,.ptr 1000008 0),(63,.d (.l (.s)) 1),(64,.d (.i .i64) 2),(65,.d (.i .i64) 3)],[(1000008,.gn 0 (.s) 4)],[.s,.l (.s),.i .i64],[.i .i64,.s]⟩ [(8,.ptr 1000008 0)] [(1000008,.gn 0 (.s) 3)] [.s] 3 (fun x K v=>yi x.1 x.2.1 x.2.2 K v) .n) .n)) .n))))))))) Tryz.func65 rfl zw8 ⟨⟨zF8,zDe⟩,⟨zkz,zbj⟩,⟨zn2,uA⟩,trivial⟩ fun x=>by kernel_rfl
theorem zF9(l:List (List UInt8))(sep:List UInt8)(r:List UInt8)(h:wG l sep=some r):FnA Tryz.prog 65 [.vs 1 (l.map EV.zEa),.str sep] [] (.str r) []:=kmp (by kernel_rfl) (VM.2 (l,sep) r h)
end Go.Proofs.YtffencjoddkghaaGreatDoor.J
namespace Go.Proofs.YtffencjoddkghaaGreatDoor
open Go Go.RowKit
theorem Y4(p q:Addr)(w:World):
  CallsD Tryz.prog 120 #[.pointer (some p),.pointer (some q)] .returning w fun e u' w'=>e=.returned (.tuple #[])∧u'=.returning∧w'=w:=by
 refine callsD_of_wpS Tryz.func120 rfl fun c₀ cs hu=>?_
 apply wpS_seq;apply wpS_region;simp[wpOpsS,go_sem,recoverD,hu,Tryz.ntmps120,Exit.thenS];apply wpS_seq;apply wpS_region;simp[wpOpsS,go_sem,Exit.thenS];refine wpS_cond (t:=false) (by simp[Act.eval,Array.replicate]) ?_;simp only[Bool.false_eq_true,if_false];refine wpS_of_wp (wp_skip ?_);cases c₀
 simp_all [bodyPostS,results,Tryz.results120]
theorem ta168(v:Value)(w:World):(Instr.typeAssert (.iface 168 v) 20 168 true).run Tryz.prog w=.ok (.tuple #[v,.bool true]) w:=by kernel_rfl
set_option maxHeartbeats 4000000 in
set_option maxRecDepth 1000000 in
theorem zew(p q:Addr)(x y:Int)(cp cq:Value)(w:World)(hp:w.cell? p=some cp)(hq:w.cell? q=some cq)(zp:w.frozen? p=false)(zq:w.frozen? q=false)(hpq:p.block≠q.block)(lp:p.block<w.heap.size)(lq:q.block<w.heap.size):
  CallsD Tryz.prog 120 #[.pointer (some p),.pointer (some q)] (.panicking [{ v:=.iface 168 (.agg #[.int .i64 x,.int .i64 y]),recovered:=false }]) w fun e u' w' =>
   e=.returned (.tuple #[])∧u'=.panicking [{ v:=.iface 168 (.agg #[.int .i64 x,.int .i64 y]),recovered:=true }] ∧
   w'=(((w.alloc (.cells #[.int .i64 x,.int .i64 y] 168)).setCell p (.int .i64 x)).setCell q (.int .i64 y)).drew:=by
 refine callsD_of_wpS Tryz.func120 rfl fun c₀ cs hu=>?_
 apply wpS_seq;apply wpS_region;simp[wpOpsS,go_sem,recoverD,hu,Tryz.ntmps120,Exit.thenS];apply wpS_seq;apply wpS_region;simp[wpOpsS,go_sem,Exit.thenS];refine wpS_cond (t:=true) (by simp[Act.eval,Array.replicate]) ?_;simp only[if_true];apply wpS_seq;apply wpS_region;simp[wpOpsS,go_sem,Exit.thenS,ta168];apply wpS_seq;apply wpS_seq;apply wpS_region;simp[wpOpsS,go_sem,Exit.thenS];refine wpS_cond (t:=false) (by simp[Act.eval,Array.replicate]) ?_;simp only[Bool.false_eq_true,if_false];refine wpS_of_wp (wp_skip ?_);simp only[Exit.thenS];refine wpS_of_wp ?_;have mixed:=Q8
 have a1:∀o:Obj,(w.alloc o).heap[p.block]?=w.heap[p.block]?:=fun o=>Lib.alloc_old w o p.block lp
 have a2:∀o:Obj,(w.alloc o).heap[q.block]?=w.heap[q.block]?:=fun o=>Lib.alloc_old w o q.block lq
 have c1:∀o:Obj,(w.alloc o).drew.cell? p=some cp:=fun o=>by rw[← hp];unfold World.cell?;rw[show(w.alloc o).drew.heap=(w.alloc o).heap from rfl,a1]
 have z1:∀o:Obj,(w.alloc o).frozen? p=false:=fun o=>by rw[← zp];unfold World.frozen?;rw[a1]
 have c2:∀o:Obj,((w.alloc o).setCell p (.int .i64 x)).cell? q=some cq:=fun o=>by
  rw[← hq];unfold World.cell?;rw[Below.heap_setCell _ _ _ _ (fun e=>hpq e.symm),a2]
 have z2:∀o:Obj,((w.alloc o).setCell p (.int .i64 x)).frozen? q=false:=fun o=>by
  rw[← zq];unfold World.frozen?;rw[Below.heap_setCell _ _ _ _ (fun e=>hpq e.symm),a2]
 have c3:((w.alloc (.cells #[.int .i64 x,.int .i64 y] 168)).setCell p (.int .i64 x)).cell? ⟨w.heap.size,1,none⟩=some (.int .i64 y):=by
  unfold World.cell?;rw[Below.heap_setCell _ _ _ _ (fun e=>by simp only at e;omega)];rw[World.alloc_heap_new];rfl
 simp[Array.replicate]
 go_region_o
 all_goals simp[bodyPostS,results,Tryz.results120]
theorem zbk{w1:World}{n:Nat}(h1:w1.heap[n]?=some (.cells #[.int .i64 0] 3))(h2:w1.heap[n+1]?=some (.cells #[.int .i64 0] 32))(x y:Value):
  w1.cell? ⟨n,0,none⟩=some (.int .i64 0)∧(w1.setCell ⟨n,0,none⟩ x).cell? ⟨n+1,0,none⟩=some (.int .i64 0)∧w1.frozen? ⟨n,0,none⟩=false∧(w1.setCell ⟨n,0,none⟩ x).frozen? ⟨n+1,0,none⟩=false ∧
  ((w1.setCell ⟨n,0,none⟩ x).setCell ⟨n+1,0,none⟩ y).cell? ⟨n,0,none⟩=some x∧((w1.setCell ⟨n,0,none⟩ x).setCell ⟨n+1,0,none⟩ y).cell? ⟨n+1,0,none⟩=some y:=by
 have e2:(w1.setCell ⟨n,0,none⟩ x).heap[n+1]?=some (.cells #[.int .i64 0] 32):=(Below.heap_setCell _ _ _ _ (fun e=>by simp at e)).trans h2
 have e1:(w1.setCell ⟨n,0,none⟩ x).heap[n]?=some (.cells #[x] 3):=by
  simp[World.setCell,Array.getElem?_modify,h1]
 have e3:((w1.setCell ⟨n,0,none⟩ x).setCell ⟨n+1,0,none⟩ y).heap[n+1]?=some (.cells #[y] 32):=by
  rw[show ∀W:World,(W.setCell ⟨n+1,0,none⟩ y).heap[n+1]?=W.heap[n+1]?.map fun o=>match o with|.cells c t r=>.cells (c.setIfInBounds 0 y) t r|o=>o from fun W=>by simp[World.setCell,Array.getElem?_modify];rfl,e2];rfl
 refine⟨by rw[Lib.cell_of_heap h1];rfl,by rw[Lib.cell_of_heap e2];rfl,Lib.frozen_of_heap h1 0,Lib.frozen_of_heap e2 0,?_,by rw[Lib.cell_of_heap e3];rfl⟩;unfold World.cell?;rw[Below.heap_setCell _ _ _ _ (fun e=>by simp at e),e1];rfl
theorem zr7{w1:World}{n:Nat}(h1:w1.heap[n]?=some (.cells #[.int .i64 0] 3))(h2:w1.heap[n+1]?=some (.cells #[.int .i64 0] 32))(o:Obj):
  n<w1.heap.size∧n+1<w1.heap.size∧w1.cell? ⟨n,0,none⟩=some (.int .i64 0)∧w1.cell? ⟨n+1,0,none⟩=some (.int .i64 0)∧w1.frozen? ⟨n,0,none⟩=false∧w1.frozen? ⟨n+1,0,none⟩=false ∧
  (w1.alloc o).heap[n]?=some (.cells #[.int .i64 0] 3)∧(w1.alloc o).heap[n+1]?=some (.cells #[.int .i64 0] 32):=by
 have l2:n+1<w1.heap.size:=(Array.getElem?_eq_some_iff.1 h2).1;have l1:n<w1.heap.size:=Nat.lt_of_succ_lt l2;exact⟨l1,l2,by rw[Lib.cell_of_heap h1];rfl,by rw[Lib.cell_of_heap h2];rfl,Lib.frozen_of_heap h1 0,Lib.frozen_of_heap h2 0,(Lib.alloc_old w1 o n l1).trans h1,(Lib.alloc_old w1 o _ l2).trans h2⟩
theorem zw9(pv a b:Value)(w:World)(Q:World→Prop)
  (hread:Calls Tryz.prog 39 #[a,b] ((w.alloc (.cells #[.int .i64 0] 3)).alloc (.cells #[.int .i64 0] 32)) fun e w'=>e=.returned (.tuple #[])∧w'.heap[w.heap.size]?=some (.cells #[.int .i64 0] 3)∧w'.heap[w.heap.size+1]?=some (.cells #[.int .i64 0] 32)∧Q w'):
  Calls Tryz.prog 35 #[pv,.func (.func 39) #[] #[a,b]] w fun e w'=>e=.returned (.tuple #[.int .i64 0,.int .i64 0])∧∃w1,w1.heap[w.heap.size]?=some (.cells #[.int .i64 0] 3)∧w1.heap[w.heap.size+1]?=some (.cells #[.int .i64 0] 32)∧Q w1∧w'=(w1.setCell ⟨w.heap.size,0,none⟩ (.int .i64 0)).setCell ⟨w.heap.size+1,0,none⟩ (.int .i64 0):=by
 have hmf:∀(fn:Fn)(first cap:Array Value)(w:World),(Instr.makeFunc fn first cap).run Tryz.prog w=.ok (.func fn first cap) w:=fun _ _ _ _=>rfl
 go_enter_defers Tryz.func35,Tryz.ntmps35
 go_wp2_with (go_at_call 39;refine hread.mono ?_;rintro e w1 ⟨rfl,h1,h2,hQ⟩;obtain⟨c1,c2,z1,z2,d1,d2⟩:=zbk h1 h2 (.int .i64 0) (.int .i64 0))
 refine leaves_cons (f:=120) (args:=#[.pointer (some ⟨w.heap.size,0,none⟩),.pointer (some ⟨w.heap.size+1,0,none⟩)]) (by simp) (by simp[go_sem]) ?_;refine(Y4 ⟨w.heap.size,0,none⟩ ⟨w.heap.size+1,0,none⟩ _).mono ?_;rintro e u' w'' ⟨rfl,rfl,rfl⟩;simp[Leaves,settle,results,Tryz.results35,go_sem,d1,d2];exact⟨w1,h1,h2,hQ,rfl⟩
theorem zr8(pv a b:Value)(x y:Int)(w:World)(Q:World→Prop)
  (hread:Calls Tryz.prog 39 #[a,b] ((w.alloc (.cells #[.int .i64 0] 3)).alloc (.cells #[.int .i64 0] 32)) fun e w'=>e=.panicked [{ v:=.iface 168 (.agg #[.int .i64 x,.int .i64 y]),recovered:=false }]∧w'.heap[w.heap.size]?=some (.cells #[.int .i64 0] 3)∧w'.heap[w.heap.size+1]?=some (.cells #[.int .i64 0] 32)∧Q w'):
  Calls Tryz.prog 35 #[pv,.func (.func 39) #[] #[a,b]] w fun e w'=>e=.returned (.tuple #[.int .i64 x,.int .i64 y])∧∃w1,w1.heap[w.heap.size]?=some (.cells #[.int .i64 0] 3)∧w1.heap[w.heap.size+1]?=some (.cells #[.int .i64 0] 32)∧Q w1∧w'=(((w1.alloc (.cells #[.int .i64 x,.int .i64 y] 168)).setCell ⟨w.heap.size,0,none⟩ (.int .i64 x)).setCell ⟨w.heap.size+1,0,none⟩ (.int .i64 y)).drew:=by
 have hmf:∀(fn:Fn)(first cap:Array Value)(w:World),(Instr.makeFunc fn first cap).run Tryz.prog w=.ok (.func fn first cap) w:=fun _ _ _ _=>rfl
 go_enter_defers Tryz.func35,Tryz.ntmps35
 go_wp2_with (go_at_call 39;refine hread.mono ?_;rintro e w1 ⟨rfl,h1,h2,hQ⟩)
 obtain⟨l1,l2,c1,c3,z1,z3,a1,a2⟩:=zr7 h1 h2 (.cells #[.int .i64 x,.int .i64 y] 168);obtain⟨_,_,_,_,d1,d2⟩:=zbk a1 a2 (.int .i64 x) (.int .i64 y);refine leaves_cons (f:=120) (args:=#[.pointer (some ⟨w.heap.size,0,none⟩),.pointer (some ⟨w.heap.size+1,0,none⟩)]) (by simp) (by simp[go_sem]) ?_;refine(zew ⟨w.heap.size,0,none⟩ ⟨w.heap.size+1,0,none⟩ x y (.int .i64 0) (.int .i64 0) _ c1 c3 z1 z3 (by simp) l1 l2).mono ?_;rintro e u' w'' ⟨rfl,rfl,rfl⟩;simp[Leaves,settle,results,Tryz.results35,go_sem,d1,d2];exact⟨w1,h1,h2,hQ,rfl⟩
theorem zxa(pv a:Value)(w:World)(Q:World→Prop)
  (hread:Calls Tryz.prog 36 #[a] ((w.alloc (.cells #[.int .i64 0] 3)).alloc (.cells #[.int .i64 0] 32)) fun e w'=>e=.returned (.tuple #[])∧w'.heap[w.heap.size]?=some (.cells #[.int .i64 0] 3)∧w'.heap[w.heap.size+1]?=some (.cells #[.int .i64 0] 32)∧Q w'):
  Calls Tryz.prog 35 #[pv,.func (.func 36) #[a] #[]] w fun e w'=>e=.returned (.tuple #[.int .i64 0,.int .i64 0])∧∃w1,w1.heap[w.heap.size]?=some (.cells #[.int .i64 0] 3)∧w1.heap[w.heap.size+1]?=some (.cells #[.int .i64 0] 32)∧Q w1∧w'=(w1.setCell ⟨w.heap.size,0,none⟩ (.int .i64 0)).setCell ⟨w.heap.size+1,0,none⟩ (.int .i64 0):=by
 have hmf:∀(fn:Fn)(first cap:Array Value)(w:World),(Instr.makeFunc fn first cap).run Tryz.prog w=.ok (.func fn first cap) w:=fun _ _ _ _=>rfl
 go_enter_defers Tryz.func35,Tryz.ntmps35
 go_wp2_with (go_at_call 36;refine hread.mono ?_;rintro e w1 ⟨rfl,h1,h2,hQ⟩;obtain⟨c1,c2,z1,z2,d1,d2⟩:=zbk h1 h2 (.int .i64 0) (.int .i64 0))
 refine leaves_cons (f:=120) (args:=#[.pointer (some ⟨w.heap.size,0,none⟩),.pointer (some ⟨w.heap.size+1,0,none⟩)]) (by simp) (by simp[go_sem]) ?_;refine(Y4 ⟨w.heap.size,0,none⟩ ⟨w.heap.size+1,0,none⟩ _).mono ?_;rintro e u' w'' ⟨rfl,rfl,rfl⟩;simp[Leaves,settle,results,Tryz.results35,go_sem,d1,d2];exact⟨w1,h1,h2,hQ,rfl⟩
theorem zr9(pv a:Value)(x y:Int)(w:World)(Q:World→Prop)
  (hread:Calls Tryz.prog 36 #[a] ((w.alloc (.cells #[.int .i64 0] 3)).alloc (.cells #[.int .i64 0] 32)) fun e w'=>e=.panicked [{ v:=.iface 168 (.agg #[.int .i64 x,.int .i64 y]),recovered:=false }]∧w'.heap[w.heap.size]?=some (.cells #[.int .i64 0] 3)∧w'.heap[w.heap.size+1]?=some (.cells #[.int .i64 0] 32)∧Q w'):
  Calls Tryz.prog 35 #[pv,.func (.func 36) #[a] #[]] w fun e w'=>e=.returned (.tuple #[.int .i64 x,.int .i64 y])∧∃w1,w1.heap[w.heap.size]?=some (.cells #[.int .i64 0] 3)∧w1.heap[w.heap.size+1]?=some (.cells #[.int .i64 0] 32)∧Q w1∧w'=(((w1.alloc (.cells #[.int .i64 x,.int .i64 y] 168)).setCell ⟨w.heap.size,0,none⟩ (.int .i64 x)).setCell ⟨w.heap.size+1,0,none⟩ (.int .i64 y)).drew:=by
 have hmf:∀(fn:Fn)(first cap:Array Value)(w:World),(Instr.makeFunc fn first cap).run Tryz.prog w=.ok (.func fn first cap) w:=fun _ _ _ _=>rfl
 go_enter_defers Tryz.func35,Tryz.ntmps35
 go_wp2_with (go_at_call 36;refine hread.mono ?_;rintro e w1 ⟨rfl,h1,h2,hQ⟩)
 obtain⟨l1,l2,c1,c3,z1,z3,a1,a2⟩:=zr7 h1 h2 (.cells #[.int .i64 x,.int .i64 y] 168);obtain⟨_,_,_,_,d1,d2⟩:=zbk a1 a2 (.int .i64 x) (.int .i64 y);refine leaves_cons (f:=120) (args:=#[.pointer (some ⟨w.heap.size,0,none⟩),.pointer (some ⟨w.heap.size+1,0,none⟩)]) (by simp) (by simp[go_sem]) ?_;refine(zew ⟨w.heap.size,0,none⟩ ⟨w.heap.size+1,0,none⟩ x y (.int .i64 0) (.int .i64 0) _ c1 c3 z1 z3 (by simp) l1 l2).mono ?_;rintro e u' w'' ⟨rfl,rfl,rfl⟩;simp[Leaves,settle,results,Tryz.results35,go_sem,d1,d2];exact⟨w1,h1,h2,hQ,rfl⟩
open Go.Eng Go.EV Go.EQ in
theorem Ji{m:M}{Z:ZM}{F:Heap}{w w':World}(hs:xp m Z F w)(h1:∀p∈F,∀b,blk m p b→w'.heap[b]?=w.heap[b]?)(h2:∀a x,Z a=some x→w'.heap[a.block]?=w.heap[a.block]?):xp m Z F w' :=
 ⟨fun a x ha=>(by simp only[World.cell?,h2 a x ha]:w'.cell? a=w.cell? a).trans (hs.frozen a x ha),fun p hp=>(hs.holds p hp).keep (fun _ _ _ e=>e) rfl (fun _ _ e=>e) fun b hb=>⟨h1 p hp b hb,fun _ _ e _=>e⟩,hs.nodup,hs.disj⟩
open Go.Eng Go.EV Go.EQ in
theorem QS{m m':M}{Z Z':ZM}{F F':Heap}{w w2 w1 w3:World}{c:Nat}(h0:xp m Z F w)(h2:Step m Z F w2 m' Z' F' w1)(s2:w.heap.size+c≤w2.heap.size)
  (o2:w2.os=w.os) (t2:w2.tape=w.tape) (u2:w2.output=w.output) (e2:∀b,b<w.heap.size→w2.heap[b]?=w.heap[b]?) (o3:w3.os=w1.os) (t3:w3.tape=w1.tape) (u3:w3.output=w1.output)
  (s3:w1.heap.size≤w3.heap.size) (e3:∀b,b<w1.heap.size→(b<w.heap.size∨w.heap.size+c≤b)→w3.heap[b]?=w1.heap[b]?):Step m Z F w m' Z' F' w3:=by
 have hold:∀q∈F,∀b,blk m q b→b<w.heap.size:=fun q hq b hb=>(h0.holds q hq).blk b hb
 have hsz:=h2.size
 have hfr:∀a x,Z' a=some x→a.block<w.heap.size∨w.heap.size+c≤a.block:=fun a x ha=>by
  rcases h2.znew a x ha with h|h|⟨q,hq,hb⟩
  ·exact .inl (World.block_lt_of_cell? w a (h0.frozen a x h))
  ·exact .inr (Nat.le_trans s2 h)
  ·exact .inl (hold q hq _ hb)
 refine⟨Ji h2.sim (fun p hp b hb=>e3 b ((h2.sim.holds p hp).blk b hb) ?_) (fun a x ha=>e3 a.block (World.block_lt_of_cell? w1 a (h2.sim.frozen a x ha)) (hfr a x ha)),h2.mext,h2.zext,o3.trans (h2.os.trans o2),t3.trans (h2.tape.trans t2),u3.trans (h2.output.trans u2),by omega,fun b hb hn=>?_,h2.keep,h2.newk,fun p hp b hb=>?_,fun a x ha=>?_⟩
 ·rcases h2.blks p hp b hb with h|⟨q,hq,hb⟩
  ·exact .inr (Nat.le_trans s2 h)
  ·exact .inl (hold q hq _ hb)
 ·exact(e3 b (by omega) (.inl hb)).trans ((h2.frame b (by omega) hn).trans (e2 b hb))
 ·exact(h2.blks p hp b hb).imp (fun h=>by omega) id
 ·exact(h2.znew a x ha).imp id (Or.imp (fun h=>by omega) id)
theorem y4(w:World)(o o':Obj)(b:Nat)(hb:b<w.heap.size):((w.alloc o).alloc o').heap[b]?=w.heap[b]? :=
 (Lib.alloc_old _ o' b (by rw[show(w.alloc o).heap.size=w.heap.size+1 from Array.size_push _];omega)).trans (Lib.alloc_old w o b hb)
theorem uB(w:World)(o o':Obj):((w.alloc o).alloc o').heap.size=w.heap.size+2:=by
 rw[show((w.alloc o).alloc o').heap.size=(w.alloc o).heap.size+1 from Array.size_push _,show(w.alloc o).heap.size=w.heap.size+1 from Array.size_push _]
theorem wV(w:World)(o o':Obj):((w.alloc o).alloc o').heap[w.heap.size]?=some o∧((w.alloc o).alloc o').heap[w.heap.size+1]?=some o':=by
 have h:(w.alloc o).heap.size=w.heap.size+1:=Array.size_push _;exact⟨(Lib.alloc_old _ o' _ (by omega)).trans (World.alloc_heap_new w o),by rw[← h];exact World.alloc_heap_new _ o'⟩
open Go.Eng Go.EV Go.EQ in
theorem zex{F F':Heap}{pv a b:V}(h:FnA Tryz.prog 39 [a,b] F (.tup []) F'):FnA Tryz.prog 35 [pv,.fn 39 [] [a,b]] F (.tup [.int .i64 0,.int .i64 0]) F':=by
 intro w m Z vals hs hv hdom;obtain⟨p,xs,rfl,hp,hv⟩:=hv;obtain⟨q,ys,rfl,⟨l1,l2,rfl,r1,r2⟩,hv⟩:=hv;cases hv;cases r1;obtain⟨x1,_,rfl,k1,x2,_,rfl,k2,e⟩:=r2;cases e;have hs2:xp m Z F ((w.alloc (.cells #[.int .i64 0] 3)).alloc (.cells #[.int .i64 0] 32)):=Ji hs (fun p hp b hb=>y4 _ _ _ _ ((hs.holds p hp).blk b hb)) (fun a x ha=>y4 _ _ _ _ (World.block_lt_of_cell? w a (hs.frozen a x ha)));have hsz:=uB w (.cells #[.int .i64 0] 3) (.cells #[.int .i64 0] 32)
 have hnb:∀b,w.heap.size≤b→∀p∈F,¬blk m p b:=fun b hb p hp h=>absurd ((hs.holds p hp).blk b h) (by omega)
 have hr:=h _ m Z _ hs2 ⟨x1,_,rfl,k1,x2,_,rfl,k2,rfl⟩ hdom;refine Calls.mono (zw9 p x1 x2 w (fun w1=>∃m' Z',Step m Z F ((w.alloc (.cells #[.int .i64 0] 3)).alloc (.cells #[.int .i64 0] 32)) m' Z' F' w1) (Calls.mono hr ?_)) ?_
 ·rintro en w1 ⟨x,m',Z',rfl,st,l,rfl,hl⟩
  cases hl;exact⟨rfl,(st.frame _ (by omega) (hnb _ (Nat.le_refl _))).trans (wV w _ _).1,(st.frame _ (by omega) (hnb _ (by omega))).trans (wV w _ _).2,_,_,st⟩
 ·rintro en w3 ⟨rfl,w1,h1,h2,⟨m',Z',st⟩,rfl⟩
  refine⟨_,m',Z',rfl,QS (c:=2) hs st (by omega) rfl rfl rfl (fun b hb=>y4 _ _ _ _ hb) rfl rfl rfl ?_ ?_,[.int .i64 0,.int .i64 0],rfl,_,_,rfl,rfl,_,_,rfl,rfl,rfl⟩
  ·simp[World.setCell]
  ·intro b hb hor
   rw[Below.heap_setCell _ _ _ _ (fun e=>by simp only at e;omega),Below.heap_setCell _ _ _ _ (fun e=>by simp only at e;omega)]
open Go.Eng Go.EV Go.EQ in
theorem zbl{F:Heap}{pv a b:V}{x y:Int}(h:FnP Tryz.prog 39 [a,b] F (.iface 168 (.agg #[.int .i64 x,.int .i64 y]))):FnA Tryz.prog 35 [pv,.fn 39 [] [a,b]] F (.tup [.int .i64 x,.int .i64 y]) (Yf F):=by
 intro w m Z vals hs hv hdom;obtain⟨p,xs,rfl,hp,hv⟩:=hv;obtain⟨q,ys,rfl,⟨l1,l2,rfl,r1,r2⟩,hv⟩:=hv;cases hv;cases r1;obtain⟨x1,_,rfl,k1,x2,_,rfl,k2,e⟩:=r2;cases e;have hs2:xp m Z F ((w.alloc (.cells #[.int .i64 0] 3)).alloc (.cells #[.int .i64 0] 32)):=Ji hs (fun p hp b hb=>y4 _ _ _ _ ((hs.holds p hp).blk b hb)) (fun a x ha=>y4 _ _ _ _ (World.block_lt_of_cell? w a (hs.frozen a x ha)));have hsz:=uB w (.cells #[.int .i64 0] 3) (.cells #[.int .i64 0] 32)
 have hnb:∀b,w.heap.size≤b→∀p∈F,¬blk m p b:=fun b hb p hp h=>absurd ((hs.holds p hp).blk b h) (by omega)
 have hr:=h _ m Z _ hs2 ⟨x1,_,rfl,k1,x2,_,rfl,k2,rfl⟩ hdom;refine Calls.mono (zr8 p x1 x2 x y w (fun w1=>∃m' Z',Step m Z F ((w.alloc (.cells #[.int .i64 0] 3)).alloc (.cells #[.int .i64 0] 32)) m' Z' (Yf F) w1) (Calls.mono hr ?_)) ?_
 ·rintro en w1 ⟨rfl,Z',lo⟩
  have st:=lo.step hs2;exact⟨rfl,(st.frame _ (by omega) (hnb _ (Nat.le_refl _))).trans (wV w _ _).1,(st.frame _ (by omega) (hnb _ (by omega))).trans (wV w _ _).2,_,_,st⟩
 ·rintro en w3 ⟨rfl,w1,h1,h2,⟨m',Z',st⟩,rfl⟩
  refine⟨_,m',Z',rfl,QS (c:=2) hs st (by omega) rfl rfl rfl (fun b hb=>y4 _ _ _ _ hb) rfl rfl rfl ?_ ?_,[.int .i64 x,.int .i64 y],rfl,_,_,rfl,rfl,_,_,rfl,rfl,rfl⟩
  ·have hsa:(w1.alloc (.cells #[.int .i64 x,.int .i64 y] 168)).heap.size=w1.heap.size+1:=Array.size_push _
   simp[World.setCell]
  ·intro b hb hor
   show(World.setCell (World.setCell _ _ _) _ _).heap[b]?=_
   rw[Below.heap_setCell _ _ _ _ (fun e=>by simp only at e;omega),Below.heap_setCell _ _ _ _ (fun e=>by simp only at e;omega)];exact Lib.alloc_old _ _ _ hb
open Go.Eng Go.EV Go.EQ in
theorem zey{F F':Heap}{pv a:V}(h:FnA Tryz.prog 36 [a] F (.tup []) F'):FnA Tryz.prog 35 [pv,.fn 36 [a] []] F (.tup [.int .i64 0,.int .i64 0]) F':=by
 intro w m Z vals hs hv hdom;obtain⟨p,xs,rfl,hp,hv⟩:=hv;obtain⟨q,ys,rfl,⟨l1,l2,rfl,r1,r2⟩,hv⟩:=hv;cases hv;cases r2;obtain⟨x1,_,rfl,k1,e⟩:=r1;cases e;have hs2:xp m Z F ((w.alloc (.cells #[.int .i64 0] 3)).alloc (.cells #[.int .i64 0] 32)):=Ji hs (fun p hp b hb=>y4 _ _ _ _ ((hs.holds p hp).blk b hb)) (fun a x ha=>y4 _ _ _ _ (World.block_lt_of_cell? w a (hs.frozen a x ha)));have hsz:=uB w (.cells #[.int .i64 0] 3) (.cells #[.int .i64 0] 32)
 have hnb:∀b,w.heap.size≤b→∀p∈F,¬blk m p b:=fun b hb p hp h=>absurd ((hs.holds p hp).blk b h) (by omega)
 have hr:=h _ m Z _ hs2 ⟨x1,_,rfl,k1,rfl⟩ hdom;refine Calls.mono (zxa p x1 w (fun w1=>∃m' Z',Step m Z F ((w.alloc (.cells #[.int .i64 0] 3)).alloc (.cells #[.int .i64 0] 32)) m' Z' F' w1) (Calls.mono hr ?_)) ?_
 ·rintro en w1 ⟨x,m',Z',rfl,st,l,rfl,hl⟩
  cases hl;exact⟨rfl,(st.frame _ (by omega) (hnb _ (Nat.le_refl _))).trans (wV w _ _).1,(st.frame _ (by omega) (hnb _ (by omega))).trans (wV w _ _).2,_,_,st⟩
 ·rintro en w3 ⟨rfl,w1,h1,h2,⟨m',Z',st⟩,rfl⟩
  refine⟨_,m',Z',rfl,QS (c:=2) hs st (by omega) rfl rfl rfl (fun b hb=>y4 _ _ _ _ hb) rfl rfl rfl ?_ ?_,[.int .i64 0,.int .i64 0],rfl,_,_,rfl,rfl,_,_,rfl,rfl,rfl⟩
  ·simp[World.setCell]
  ·intro b hb hor
   rw[Below.heap_setCell _ _ _ _ (fun e=>by simp only at e;omega),Below.heap_setCell _ _ _ _ (fun e=>by simp only at e;omega)]
open Go.Eng Go.EV Go.EQ in
theorem zbm{F:Heap}{pv a:V}{x y:Int}(h:FnP Tryz.prog 36 [a] F (.iface 168 (.agg #[.int .i64 x,.int .i64 y]))):FnA Tryz.prog 35 [pv,.fn 36 [a] []] F (.tup [.int .i64 x,.int .i64 y]) (Yf F):=by
 intro w m Z vals hs hv hdom;obtain⟨p,xs,rfl,hp,hv⟩:=hv;obtain⟨q,ys,rfl,⟨l1,l2,rfl,r1,r2⟩,hv⟩:=hv;cases hv;cases r2;obtain⟨x1,_,rfl,k1,e⟩:=r1;cases e;have hs2:xp m Z F ((w.alloc (.cells #[.int .i64 0] 3)).alloc (.cells #[.int .i64 0] 32)):=Ji hs (fun p hp b hb=>y4 _ _ _ _ ((hs.holds p hp).blk b hb)) (fun a x ha=>y4 _ _ _ _ (World.block_lt_of_cell? w a (hs.frozen a x ha)));have hsz:=uB w (.cells #[.int .i64 0] 3) (.cells #[.int .i64 0] 32)
 have hnb:∀b,w.heap.size≤b→∀p∈F,¬blk m p b:=fun b hb p hp h=>absurd ((hs.holds p hp).blk b h) (by omega)
 have hr:=h _ m Z _ hs2 ⟨x1,_,rfl,k1,rfl⟩ hdom;refine Calls.mono (zr9 p x1 x y w (fun w1=>∃m' Z',Step m Z F ((w.alloc (.cells #[.int .i64 0] 3)).alloc (.cells #[.int .i64 0] 32)) m' Z' (Yf F) w1) (Calls.mono hr ?_)) ?_
 ·rintro en w1 ⟨rfl,Z',lo⟩
  have st:=lo.step hs2;exact⟨rfl,(st.frame _ (by omega) (hnb _ (Nat.le_refl _))).trans (wV w _ _).1,(st.frame _ (by omega) (hnb _ (by omega))).trans (wV w _ _).2,_,_,st⟩
 ·rintro en w3 ⟨rfl,w1,h1,h2,⟨m',Z',st⟩,rfl⟩
  refine⟨_,m',Z',rfl,QS (c:=2) hs st (by omega) rfl rfl rfl (fun b hb=>y4 _ _ _ _ hb) rfl rfl rfl ?_ ?_,[.int .i64 x,.int .i64 y],rfl,_,_,rfl,rfl,_,_,rfl,rfl,rfl⟩
  ·have hsa:(w1.alloc (.cells #[.int .i64 x,.int .i64 y] 168)).heap.size=w1.heap.size+1:=Array.size_push _
   simp[World.setCell]
  ·intro b hb hor
   show(World.setCell (World.setCell _ _ _) _ _).heap[b]?=_
   rw[Below.heap_setCell _ _ _ _ (fun e=>by simp only at e;omega),Below.heap_setCell _ _ _ _ (fun e=>by simp only at e;omega)];exact Lib.alloc_old _ _ _ hb
end Go.Proofs.YtffencjoddkghaaGreatDoor
