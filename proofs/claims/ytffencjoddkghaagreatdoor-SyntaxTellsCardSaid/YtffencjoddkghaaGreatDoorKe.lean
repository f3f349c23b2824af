/- texts that the proof of SyntaxPrints reaches, part 5 -/
import Derived.Test.YtffencjoddkghaaGreatDoorKd
import Derived.Lib.MakeNoZero
import Derived.Defers
import Derived.Recover
import Derived.Laws.Pointers
set_option linter.all false
set_option maxRecDepth 100000
namespace Go.Proofs.YtffencjoddkghaaGreatDoor
open Go Go.ChangeShapes Go.WideShapes Go.ChangeAt Go.RowKit Go.Deep Go.Joins Go.EV
def zDl(W:World)(g:Nat)(ob:Go.Obj)(vs:List V):Prop:=W.heap[g]?=some ob∧∃cur u fr,ob=.cells cur u fr∧zS none W.cell? vs cur.toList
theorem zN4{W:World}(h:W.ShapedOpen Tryz.prog):∃ob m,zDl W 3 ob [.int .i64 m]:=by
 obtain⟨m,hm⟩:=Proofs.cell_of_shapedOpen_int (g:=3) (t:=3) (zero:=#[.int .i64 0]) (k:=.i64) h (lb (by kernel_rfl)) (by kernel_rfl) rfl (by kernel_rfl) (by kernel_rfl) Tryz.underlying3;obtain⟨cs,hh,hs,_⟩:=h.1 3 #[.int .i64 0] 3 (lb (by kernel_rfl)) (by kernel_rfl);obtain⟨cur,t,fr,h1,h2⟩:=zJy hm ⟨cs,3,hh,hs⟩;exact⟨_,m,h1,cur,t,fr,rfl,by rw[h2];exact⟨_,_,rfl,rfl,rfl⟩⟩
theorem zJz{W:World}(h:laidMetH Tryz.prog zt7 W):∃ob0 ob1 ob3,zDl W 0 ob0 (zd2.map V.str)∧zDl W 1 ob1 (Lib.asciiSpaceTab.map (V.int .u8))∧zDl W 4 ob3 (Lib.pow10Tab.map (V.int .u64)):=by
 rw[MakeChecks.laidMetH_plain _ _ _ (by kernel_rfl)]at h;obtain⟨ps,⟨g0,t0,cs0,f0,p0,q0,hg0,ht0,hv0,hd0,⟨g1,t1,cs1,f1,p1,q1,hg1,ht1,hv1,hd1,⟨g2,t2,cs2,f2,p2,q2,hg2,ht2,hv2,hd2,⟨g3,t3,cs3,f3,p3,q3,hg3,ht3,hv3,hd3,⟨g4,t4,cs4,f4,p4,q4,hg4,ht4,hv4,hd4,⟨g5,t5,cs5,f5,p5,q5,hg5,ht5,hv5,hd5,_⟩,_⟩,_⟩,_⟩,_⟩,_⟩,_⟩:=h
 obtain rfl := Option.some.inj ((show Tryz.prog.globalNamed "internal/strconv.uint64pow10" = some 4 by kernel_rfl).symm.trans hg2)
 obtain rfl := Option.some.inj ((show Tryz.prog.globalNamed "strings.asciiSpace" = some 1 by kernel_rfl).symm.trans hg4)
 obtain rfl := Option.some.inj ((show Tryz.prog.globalNamed "greenbelt/lex.signs" = some 0 by kernel_rfl).symm.trans hg5)
 obtain rfl:=Option.some.inj ((show(Tryz.prog.globals[4]?).map (·.type)=some 263 by kernel_rfl).symm.trans ht2);obtain rfl:=Option.some.inj ((show(Tryz.prog.globals[1]?).map (·.type)=some 205 by kernel_rfl).symm.trans ht4);obtain rfl:=Option.some.inj ((show(Tryz.prog.globals[0]?).map (·.type)=some 200 by kernel_rfl).symm.trans ht5);obtain⟨a2,r2,e2⟩:=zg3 (by kernel_rfl) hv2;obtain⟨a4,r4,e4⟩:=zg3 (by kernel_rfl) hv4;obtain⟨a5,r5,e5⟩:=zg3 (by kernel_rfl) hv5;have c2:=Lib.cells_of_tab (zs:=Lib.pow10Tab) Tryz.underlying263 Tryz.underlying254 (by kernel_rfl) (by kernel_rfl) hd2;have c4:=Lib.cells_of_tab (zs:=Lib.asciiSpaceTab) Tryz.underlying205 Tryz.underlying5 (by kernel_rfl) (by kernel_rfl) hd4;have c5:=zg4 (zs:=zd2) Tryz.underlying200 Tryz.underlying9 (by kernel_rfl) (by kernel_rfl) hd5;refine⟨_,_,_,⟨e5,_,_,_,rfl,?_⟩,⟨e4,_,_,_,rfl,?_⟩,⟨e2,_,_,_,rfl,?_⟩⟩
 ·rw[show cs5.toList=zd2.map (fun z=>Value.string ⟨z.toArray⟩) by first|(rw[c5])|(rw[← c5])]
  exact As (enc:=V.str) (f:=fun z=>Value.string ⟨z.toArray⟩) (fun _=>rfl) _
 ·rw[show cs4.toList=Lib.asciiSpaceTab.map (Value.int .u8) by first|(rw[c4])|(rw[← c4])]
  exact As (enc:=V.int .u8) (f:=Value.int .u8) (fun _=>rfl) _
 ·rw[show cs2.toList=Lib.pow10Tab.map (Value.int .u64) by first|(rw[c2])|(rw[← c2])]
  exact As (enc:=V.int .u64) (f:=Value.int .u64) (fun _=>rfl) _
def mG:M:=fun k L=>if L=0 then(if k=900000000 then some (0,1)else if k=900000001 then some (1,1)else if k=900000002 then some (3,1)else if k=900000003 then some (4,1)else none)else none
theorem zyg{f:FuncId}{args:List V}{vals:List Value}{W:World}(h:∀[Kd],FnA Tryz.prog f args gl (.bool true) gl)(hL:laidMetH Tryz.prog zt7 W)(hS:W.ShapedOpen Tryz.prog)(hv:zS none W.cell? args vals):
  Calls Tryz.prog f vals.toArray W fun e W'=>e=.returned (.bool true)∧Below W.heap.size W W':=by
 obtain⟨ob0,ob1,ob3,h0,h1,h3⟩:=zJz hL;obtain⟨ob2,m,h2⟩:=zN4 hS
 letI:Kd:=⟨ob0,ob1,ob2,m,ob3⟩
 have hle:∀(k L:Nat)(loc:Nat×Nat),mG k L=some loc→L≤0:=fun k L loc e=>by
  unfold mG at e;split at e
  ·omega
  ·cases e
 have hs:xV mG W.cell? gl W:=⟨fun _ _ h=>h,fun p hp=>by
   simp only[gl,List.mem_cons,List.not_mem_nil,or_false]at hp
   rcases hp with rfl|rfl|rfl|rfl
   ·exact⟨rfl,h0,hle _⟩
   ·exact⟨rfl,h1,hle _⟩
   ·exact⟨rfl,h2,hle _⟩
   ·exact⟨rfl,h3,hle _⟩,yo (by rfl),fun p hp q hq b e1 e2=>by
   simp only[gl,List.mem_cons,List.not_mem_nil,or_false]at hp hq
   rcases hp with rfl|rfl|rfl|rfl<;>rcases hq with rfl|rfl|rfl|rfl<;>first|rfl|(cases e1;cases e2)⟩
 refine Calls.mono (h W mG W.cell? vals hs (zS.none_some hv) fun k hk L=>?_) ?_
 ·have hk:k≠900000000∧k≠900000001∧k≠900000002∧k≠900000003:=by simpa[keys,gl]using hk
  unfold mG;split
  ·rw[if_neg hk.1,if_neg hk.2.1,if_neg hk.2.2.1,if_neg hk.2.2.2]
  ·rfl
 ·rintro e W' ⟨x,m',Z',he,hst,hr⟩
  refine⟨by rw[he];exact congrArg _ hr,zt6 glB hs hst⟩
section
variable{H:Type}{enc:TypeId×Value→H}
theorem zkp{a:Assume}{C:Checked}{os:Os}{f:FuncId}{fn:Func}{s:ChangeSpec}{conds:List PathCond}{apart fresh handsOn again:Bool}{X:World→Array Value→Prop}
  (hX:∀(w w':World)(args:Array Value),w.heap=w'.heap→X w args→X w' args)
  (own:ownKnob C.prog.godebug=none) (started:os.Started) (noInit:C.prog.inits.idxOf? f=none) (hfn:C.prog.funcs[f]?=some fn)
  (witness:∃(w:World)(tape:Tape)(i:Input),w.os=os∧(w.forCall tape i).Shaped C.prog∧i.vars=[]∧Input.okWide C.prog (w.forCall tape i) .any w.heap.size f i ∧
   ((s.pre enc C.prog fn conds apart (w.forCall tape i).memory i.args∧X (w.forCall tape i).memory i.args)∧sizedMet enc C.prog fn (OpenSpec.ofChange s) apart (w.forCall tape i).memory i.args)∧a.holds C.prog (lone (Frame.enter C.prog f i.args .normal) [] (w.forCall tape i)))
  (contract:∀(W:World)(base:Nat)(args:Array Value)(ds gs:List (DataW H))(before:List MemPlace),
   (∀(j:Nat) t v,fn.params[j]?=some t→args[j]?=some v→Value.okWide C.prog W .any base t v) →
   DataW.Whole enc C.prog fn.params.toList s.vars apart W args.toList ds gs before→W.ShapedOpen C.prog→X W args →
   Calls C.prog f args W fun e W'=>∃v,e=.returned v∧s.post enc C.prog fn apart fresh handsOn again W args v W'):
  ReturnsInHanded a C os f .any (fun w args=>(s.pre enc C.prog fn conds apart w args∧X w args)∧sizedMet enc C.prog fn (OpenSpec.ofChange s) apart w args) (s.post enc C.prog fn apart fresh handsOn again):=by
 refine returnsInHanded_of_calls own started noInit witness fun w tape i _ hsh _ hok hpre _=>?_
 obtain⟨_,_,_,fn',hfn',_,_,_,_,hval⟩:=hok;obtain rfl:fn'=fn:=Option.some.inj (hfn'.symm.trans hfn);obtain⟨⟨⟨ds,gs,before,hw,_⟩,hx⟩,_⟩:=hpre
 refine(contract (w.forCall tape i) w.heap.size i.args ds gs before hval (DataW.Whole.of_heap (w':=w.forCall tape i) (by rfl) hw) hsh (hX _ _ _ (by rfl) hx)).mono fun e W' ⟨v,he,hp⟩=>?_
 subst he;exact ChangeSpec.post_blind hp
end
open Go Go.RowKit Go.Joins
theorem xo{a b:Bool}(ha:a=true)(hb:b=true):(a&&b)=true:=by rw[ha,hb];rfl
theorem V3:(Rows.syntaxTellsRow.wf (OpenSpec.ofChange Rows.syntaxTellsSpec))=true:=by kernel_rfl
theorem V4:(laidOutB Tryz.prog)=true:=laidOut
theorem V5:(mapsRowed Tryz.prog)=true:=by kernel_rfl
theorem V6:(Tryz.f3.params.all (Tryz.prog.readableRec ·))=true:=by kernel_rfl
theorem V7:(namedTie Tryz.prog Rows.syntaxTellsRow.named Rows.syntaxTellsSpec.vars)=true:=by kernel_rfl
theorem V8:((Rows.syntaxTellsRow.stops==[]))=true:=by kernel_rfl
theorem V9:((Tryz.prog.stops==[]))=true:=by kernel_rfl
theorem Wa:((Rows.syntaxTellsRow.knobs==[]))=true:=by kernel_rfl
theorem Wb:((Tryz.prog.stopKnobs==[]))=true:=by kernel_rfl
theorem Wc:((Rows.syntaxTellsRow.inPlace==Tryz.prog.inPlace 3))=true:=by kernel_rfl
theorem QD:((Rows.syntaxTellsRow.unfollowed==Tryz.prog.unfollowed 3))=true:=by kernel_rfl
theorem QE:((Rows.syntaxTellsRow.recurses==Tryz.prog.recurses 3))=true:=by kernel_rfl
theorem QF:((Rows.syntaxTellsRow.named==Tryz.prog.varsNamed 3))=true:=by kernel_rfl
theorem QG:((Rows.syntaxTellsRow.maps==(Tryz.f3.params.toList++Rows.syntaxTellsSpec.plain.varTypes Tryz.prog).any (Tryz.prog.mapsRec ·)))=true:=by kernel_rfl
theorem QH:((Rows.syntaxTellsRow.ifaces==(Tryz.f3.params.toList++Rows.syntaxTellsSpec.plain.varTypes Tryz.prog).any (Tryz.prog.ifacesRec ·)))=true:=by kernel_rfl
theorem QI:((Rows.syntaxTellsRow.mapsOut==Tryz.prog.mapsAmong Tryz.f3.resultTypes.toList))=true:=by kernel_rfl
theorem QJ:((Rows.syntaxTellsRow.loops==(Tryz.f3.params.toList++Rows.syntaxTellsSpec.plain.varTypes Tryz.prog).any (Tryz.prog.loopsFrom ·)))=true:=by kernel_rfl
theorem QK:((Rows.syntaxTellsRow.wideKeys==(Tryz.f3.params.toList++Rows.syntaxTellsSpec.plain.varTypes Tryz.prog++Tryz.f3.resultTypes.toList).any (Tryz.prog.wideKeysFrom ·)))=true:=by kernel_rfl
theorem QL:(Rows.syntaxTellsSpec.vars.all (Tryz.prog.varReadable ·))=true:=by kernel_rfl
theorem QM:(Tryz.f3.resultTypes.all (fun t=>Tryz.prog.readableRec t&&decide (t<Tryz.prog.types.size)))=true:=by kernel_rfl
theorem QN:((Rows.syntaxTellsRow.ifacesOut==Tryz.f3.resultTypes.toList.any (Tryz.prog.ifacesRec ·)))=true:=by kernel_rfl
theorem QO:((Rows.syntaxTellsRow.loopsOut==Tryz.f3.resultTypes.toList.any (Tryz.prog.loopsFrom ·)))=true:=by kernel_rfl
theorem QP:((Rows.syntaxTellsRow.plainKeys==Tryz.prog.plainKeys))=true:=by kernel_rfl
theorem QQ:(Rows.syntaxTellsRow.shortTexts.isNone)=true:=by kernel_rfl
theorem QR:(Tryz.prog.stopsHeard)=true:=by kernel_rfl
theorem QT:(Tryz.prog.mayEnter)=true:=by kernel_rfl
theorem QU:((Rows.syntaxTellsRow.lifted==Tryz.prog.liftsFinal))=true:=by kernel_rfl
theorem QV:((Tryz.prog.make==some Rows.syntaxTellsRow.make))=true:=by kernel_rfl
theorem QW:((Rows.syntaxTellsRow.kinds==(if Rows.syntaxTellsRow.domain.isEmpty then[]else Tryz.f3.params.toList.map fun t=>match Tryz.prog.underlying t with|some (.int k)=>some k|_=>none)))=true:=by kernel_rfl
theorem QX:((Rows.syntaxTellsRow.pinned==Rows.syntaxTellsRow.pinnedBy))=true:=by kernel_rfl
theorem QY:((Rows.syntaxTellsRow.veiled==(Tryz.f3.params.toList++Rows.syntaxTellsSpec.plain.varTypes Tryz.prog++Tryz.f3.resultTypes.toList).any (Tryz.prog.veiledRec ·)))=true:=by kernel_rfl
theorem QZ:(Rows.syntaxTellsRow.veiledFits Tryz.prog Tryz.f3.params.toList (Tryz.f3.params.toList++Rows.syntaxTellsSpec.plain.varTypes Tryz.prog++Tryz.f3.resultTypes.toList))=true:=by kernel_rfl
theorem Wd:joinedFacts Tryz.prog 3 Tryz.f3 Rows.syntaxTellsSpec Rows.syntaxTellsRow=true:=xo (xo (xo (xo (xo (xo (xo (xo (xo (xo (xo (xo (xo (xo (xo (xo (xo (xo (xo (xo (xo (xo (xo (xo (xo (xo (xo (xo (xo (xo (xo (V3) V4) V5) V6) V7) V8) V9) Wa) Wb) Wc) QD) QE) QF) QG) QH) QI) QJ) QK) QL) QM) QN) QO) QP) QQ) QR) QT) QU) QV) QW) QX) QY) QZ
end Go.Proofs.YtffencjoddkghaaGreatDoor
namespace Go.EQ
open Go Go.RowKit Go.Eng Go.EV
def FnD(P:Program)(f:FuncId)(args:List V)(F:Heap)(r:V)(F':Heap):Prop :=
 ∀w m Z vals u,xV m Z F w→zS (some m) Z args vals →
  CallsDIn Fence.wide 0 P f vals.toArray u w fun en u' w'=>u'=u∧∃x m' Z',en=.returned x∧Step m Z F w m' Z' F' w'∧Rep (some m') Z' r x
def zkq(l:List (Nat⊕Deferred)):List Nat:=l.filterMap Sum.getLeft?
def zkr(l:List (Nat⊕Deferred)):List Deferred:=l.filterMap Sum.getRight?
def unS(l:List (Nat⊕Deferred)):List Deferred:=l.map (Sum.elim Eng.mark id)
section
variable{K0:List Nat}{c:Ctx K0}{P:Program}{fn:Func}{tmps:Array Value}{R:Ending→World→Prop}
theorem zks{m:M}{Z:ZM}{H:Heap}{w:World}{D:Nat}(h3:w.heap[D]?=some (.deferred (some [])))(h4:c.W0.heap.size≤D)(S:Ks c m Z H w):Ks c m Z H (w.putObj D (.deferred none)) :=
 S.lps (row:=some D) (Eng.J7 w D _) fun b e=>by cases e;exact⟨h4,_,h3,rfl⟩
theorem zd5{w:World}{D:Nat}{l:List Nat}(hn:D ∉ l)(h:∀D'∈l,w.heap[D']?=some (.deferred (some []))∧c.W0.heap.size≤D'):∀D'∈l,(w.putObj D (.deferred none)).heap[D']?=some (.deferred (some []))∧c.W0.heap.size≤D':=fun D' hD'=>by
 obtain⟨h7,h8⟩:=h D' hD';exact⟨(World.putObj_heap_other (fun e=>hn (by first|(rw[← e];exact hD')|(rw[e];exact hD')))).trans h7,h8⟩
theorem HM{m:M}{Z:ZM}{H:Heap}:∀(l:List (Nat⊕Deferred))(w:World),zkr l=[]→(zkq l).Nodup→(∀D∈zkq l,w.heap[D]?=some (.deferred (some []))∧c.W0.heap.size≤D)→Ks c m Z H w →
  (∀w2,Ks c m Z H w2→∃v,(results fn tmps).run P w2=.ok v w2∧R (.returned v) w2)→LeavesInM Fence.wide 0 P fn tmps R (unS l) .returning w
 |[],w,_,_,_,S,h=>h w S
 |.inl D::l,w,hr,hn,hD,S,h=>by
  have hn':D ∉ zkq l∧(zkq l).Nodup:=List.nodup_cons.1 hn;obtain⟨h3,h4⟩:=hD D (List.mem_cons_self ..);exact⟨by simp,.inl ⟨D,_,rfl,run_takeDeferred h3,HM l _ hr hn'.2 (zd5 hn'.1 fun D' hD'=>hD D' (mcQ _ hD')) (zks h3 h4 S) h⟩⟩
 |.inr d::l,w,hr,_,_,_,_=>by simp[zkr]at hr
theorem zd6{m:M}{Z:ZM}{H:Heap}{fv:FuncId}{dargs:List Value}(hnr:∀w,(callFunc fv dargs.toArray).run P w=.ok (.enter fv dargs.toArray) w)
  (hcall:∀w,Ks c m Z H w→CallsDIn Fence.wide 0 P fv dargs.toArray .returning w fun en u' w'=>u'=.returning∧∃x m' Z' H',en=.returned x∧Step m Z H w m' Z' H' w'∧Ks c m' Z' H' w'∧∀w2,Ks c m' Z' H' w2→∃v,(results fn tmps).run P w2=.ok v w2∧R (.returned v) w2):
  ∀(l:List (Nat⊕Deferred))(w:World),zkr l=[{ target:=.fn (.func fv) #[],args:=dargs.toArray }]→(zkq l).Nodup→(∀D∈zkq l,w.heap[D]?=some (.deferred (some []))∧c.W0.heap.size≤D)→Ks c m Z H w →
  LeavesInM Fence.wide 0 P fn tmps R (unS l) .returning w
 |[],w,hr,_,_,_=>by cases hr
 |.inl D::l,w,hr,hn,hD,S=>by
  have hn':D ∉ zkq l∧(zkq l).Nodup:=List.nodup_cons.1 hn;obtain⟨h3,h4⟩:=hD D (List.mem_cons_self ..);exact⟨by simp,.inl ⟨D,_,rfl,run_takeDeferred h3,zd6 hnr hcall l _ hr hn'.2 (zd5 hn'.1 fun D' hD'=>hD D' (mcQ _ hD')) (zks h3 h4 S)⟩⟩
 |.inr d::l,w,hr,hn,hD,S=>by
  have hr':d={ target:=.fn (.func fv) #[],args:=dargs.toArray }∧zkr l=[]:=by
   have:d::zkr l=[{ target:=.fn (.func fv) #[],args:=dargs.toArray }]:=hr;simp only[List.cons.injEq]at this;exact this
  obtain⟨rfl,hr0⟩:=hr';refine⟨by simp,.inr ⟨fun hx=>by simp[Fence.wide]at hx,.func fv,#[],fv,dargs.toArray,rfl,?_,fun _ _=>trivial,?_⟩⟩
  ·show(callFunc fv (dargs.toArray++#[])).run P w=_
   rw[Array.append_empty];exact hnr w
  ·refine(hcall w S).mono ?_
   rintro en u' w' ⟨rfl,x,m',Z',H',rfl,st,S',hfin⟩;exact HM l w' hr0 hn (fun D hD'=>⟨st.lp S.step.sim (hD D hD').1 rfl,(hD D hD').2⟩) S' hfin
theorem We{T:Tab}{X:Cx T}{cc:Ctx X.K0}(hS:T.OK)(hT:CtT.OK X.P X.T)(hTP:X.POK)(hm:X.P.follows .mixedOrders=true){h:HT T X.rT.vs}{code:Code}{R:Type}{kn:AE T.T→AH T.T→Pg R}{E:AE T.T}{H:AH T.T}{r:R}{Q:YU}
  (hI:(wrap X h (ev X code) R none kn (fun _ _ _=>.fail) E H).Is r)
  (hn:∀E' H',(kn E' H').Is r→∀ρr w ds,Jr cc (eV E') (hV H') ρr w→y0 cc ds w→Q .normal ρr ds w):
  ∀ρr w ds,Jr cc (eV E) (hV H) ρr w→y0 cc ds w→Wp X.P none X.N code Q ρr ds w:=by
 intro ρr w ds SA hM
 have h1:WpV cc X.P none X.N code (fun e ρ H _=>e=.normal∧∀ρr w ds,Jr cc ρ H ρr w→y0 cc ds w→Q .normal ρr ds w) (eV E) (hV H) [] :=
  we (X:=X) (c:=cc) hS (ua hS hT hTP hm code) h R none kn (fun _ _ _=>.fail) E H r _ hI (fun E' H' g=>⟨rfl,hn E' H' g⟩) (fun _ _ _ g=>(Is.fail g).elim) (fun q i e _=>by cases e)
 refine zi4 (h1 ρr w ds SA hM) ?_;rintro e ρr' ds' w' ⟨ρ,H',SA',hM',rfl,h2⟩;exact h2 _ _ _ SA' hM'
end
section
variable{S:Tab}
abbrev zDm(S:Tab):=(c:TC)→Nat→c.ty S.T→Option (c.ty S.T)
def zN5(X:Cx S)(D:zDm S)(k:Nat)(E:AE S.T)(H:AH S.T):Pg (HL S.T X.rT.vs):=match H.get k with
 |some (.gn i c s)=>.bnd (D c i s) fun s'=>zgu X.rT X.K0 E (Yj H [(k,.gn i c s')]) X.x fun v=>.ret (some v)
 |_=>.fail
def evW(X:Cx S)(r0 r1 r2:Code)(tc:Nat)(r3:Code)(d1:Nat)(B:Code)(D:zDm S)(k0:Nat)(hB hB':HT S X.rT.vs)(E:AE S.T)(H:AH S.T):Pg (HL S.T X.rT.vs) :=
 wrap X .n (ev X r0) _ none (fun E H=>wrap X .n (ev X r1) _ none (fun E H=>wrap X .n (ev X r2) _ none (fun E H=>match evA E (.tmp tc)with
  |.dat .b b=>.cnd b
   (wrap X .n (ev X r3) _ none (fun E H=>match evA E (.tmp 0)with
    |.raw (.ptr k 0 0)=>bif Nat.beq k k0&&Nat.ble (d1+1) X.N then
      wrap X hB (ev X B) _ none (fun E H=>zN5 X D k0 E H) (fun _ _ _=>.fail) ((d1,.raw (.ptr k0 0 0))::E) H else .fail
    |_=>.fail) (fun _ _ _=>.fail) E H)
   (wrap X hB' (ev X B) _ none (fun E H=>zgu X.rT X.K0 E H X.x fun v=>.ret (some v)) (fun _ _ _=>.fail) E H)
  |_=>.fail) (fun _ _ _=>.fail) E H) (fun _ _ _=>.fail) E H) (fun _ _ _=>.fail) E H
theorem zJ0{P:Program}{N:Nat}{Q:YU}{ρr:yB}{ds:List Deferred}{w:World}{id d1 f:Nat}{sc:Value}{ty1 ty2:TypeId}{pos1 pos2:String}{aft1 aft2:Array Edge}{ts:Array TypeId}(hd:d1<N)
  (h:Q .normal (upd ρr d1 (ρr 0)) ({ target:=.fn (.func f) #[],args:=#[ρr 0,sc] }::ds) w):
  Wp P none N (.region id #[⟨some d1,.move (.tmp 0),ty1,pos1,aft1,none⟩,⟨none,.defer ⟨.value (.func f),#[.tmp d1,.const sc],ts⟩,ty2,pos2,aft2,none⟩] false) Q ρr ds w:=by
 refine zp4 (l:=[_,_]) fun a n hf=>?_
 have h1:=hf.put hd (ρr 0);have e1:a.eval=Eng.ev ρr:=hf.eval;have e2:(a.put (some d1) (ρr 0)).eval=Eng.ev (upd ρr d1 (ρr 0)):=h1.eval;simp only[wpListIn,Region.wanted,if_true];refine⟨fun _ _=>trivial,?_⟩;rw[uM (by rfl),e1]
 show Oper.uponIn _ _ _ _ _ _ _ (.ok (.value (ρr 0)) w)
 rw[Oper.uponIn_value];refine⟨fun _ _=>trivial,?_⟩;rw[show(Fw none).round=none from rfl,Oper.semAt_none,e2]
 have e3:upd ρr d1 (ρr 0) d1=ρr 0:=by simp[upd]
 have e4:(execOp (Eng.ev (upd ρr d1 (ρr 0))) ⟨none,.defer ⟨.value (.func f),#[.tmp d1,.const sc],ts⟩,ty2,pos2,aft2,none⟩).run P w=.ok (.defer { target:=.fn (.func f) #[],args:=#[ρr 0,sc] }) w:=by
  simp[execOp,resolve,Deferred.ofValue,Eng.ev,e3]
 rw[e4,Oper.uponIn_defer];exact⟨_,_,⟨h1.size,by show _::(a.put (some d1) (ρr 0)).defers=_;rw[h1.defs],h1.get⟩,h⟩
theorem zN6{X:Cx S}{cc:Ctx X.K0}{m:M}{Z:ZM}{H:Heap}{w:World}{bs:List Deferred}(h:Ks cc m Z H w):Ks (K0:=X.K0) { cc with base:=bs } m Z H w:=⟨h.step,h.dom⟩
theorem zDn(hS:S.OK){P:Program}{f:Nat}{fn:Func}{r0 r1 r2 r3 B:Code}{tc d1 fW id4 k0:Nat}{l:List UInt8}{ty1 ty2:TypeId}{pos1 pos2:String}{aft1 aft2:Array Edge}{ts:Array TypeId}{T:CtT S}{cd:Nat→Option TC}{kk:Nat}{nb:NB}{c:Ct S}{rs:List (Nat×Tp)}{D:zDm S}{rD:V}{hB hB':HT S c.co}{rest:List Tp}
  (hf:P.funcs[f]?=some fn) (hb:fn.body=some (.seq r0 (.seq r1 (.seq (.seq r2 (.cond (.tmp tc) (.seq r3 (.region id4 #[⟨some d1,.move (.tmp 0),ty1,pos1,aft1,none⟩,⟨none,.defer ⟨.value (.func fW),#[.tmp d1,.const (.string ⟨l.toArray⟩)],ts⟩,ty2,pos2,aft2,none⟩] false)) .skip)) B))))
  (hm:P.follows .mixedOrders=true) (hT:CtT.OK P T) (hrs:zDc P [] c.hout fn.results.toList c.out=some rs) (hc:zNy fn.ntmps c rs=true) (hin:c.ins=.ptr k0 0::rest)
  (hD:∀ct i s s',D ct i s=some s'→∀k,FnD P fW [.ptr k 0 0,.str l] [(k,S.go i ct s)] rD [(k,S.go i ct s')]) (hfW:∀args w,(callFunc fW args).run P w=.ok (.enter fW args) w)
  (hrun:∀x,(evW (cxF P fn.ntmps T cd kk nb c rs x (c.hin.map (·.1))) r0 r1 r2 tc r3 d1 B D k0 hB hB' (zgz (Tp.puts c.hin (yI c.ci x) c.ins)) (qC c.hin (yI c.ci x))).run=c.fn x)
  (htr:∀x,(evW (cxF P fn.ntmps T cd kk nb c rs x (c.hin.map (·.1))) r0 r1 r2 tc r3 d1 B D k0 hB hB' (zgz (Tp.puts c.hin (yI c.ci x) c.ins)) (qC c.hin (yI c.ci x))).tr true=(evW (cxF P fn.ntmps T cd kk nb c rs x (c.hin.map (·.1))) r0 r1 r2 tc r3 d1 B D k0 hB hB' (zgz (Tp.puts c.hin (yI c.ci x) c.ins)) (qC c.hin (yI c.ci x))).tr false):c.OK P f:=by
 intro x r hr
 let X:Cx S:=cxF P fn.ntmps T cd kk nb c rs x (c.hin.map (·.1))
 have hI:(evW X r0 r1 r2 tc r3 d1 B D k0 hB hB' (zgz (Tp.puts c.hin (yI c.ci x) c.ins)) (qC c.hin (yI c.ci x))).Is r:=⟨(hrun x).trans hr,xZ _ (htr x)⟩
 simp only[zNy,bn]at hc;obtain⟨c1,c2,c3,c4,c5⟩:=hc;simp only[qd,bn]at c3
 have qY:∀ds,keys (hV (qC (S:=S) c.hout ds))=c.hout.map (·.1):=fun ds=>wi
 have hfin:zM4 P fn (c.hin.map (·.1)) (c.out.put c.hout (yI c.ci x++yI c.co r)).v (hV (qC c.hout (yI c.ci x++yI c.co r))) .ret
   (eV (ziz c.hout rs (yI c.ci x++yI c.co r))) (hV (qC c.hout (yI c.ci x++yI c.co r))) []:=by
  refine⟨rfl,zya hrs fun t tp hmem=>by rw[Hq,zg0 (yo c1) hmem],VT fun p hp=>get_of_mem (by rw[qY];exact yo c4) hp,?_⟩;have hcl:=oN (S:=S) hS (ins:=[c.out]) (hin:=c.hout) (ds:=yI c.ci x++yI c.co r) (by simp only[qd,bn];exact c3);simp only[EV.oj,bn,Tp.puts,A.vs,xU,List.append_nil]at hcl;simp only[zL3,bn,qY]at hcl ⊢;exact⟨c4,c5,hcl.1,hcl.2⟩
 intro w m Z vals hs hv hdom;have hvl:=hv.length
 have ha:vals.length≤fn.ntmps:=by
  rw[hvl,kK,uQ,List.length_map];exact lb c2
 have hk0:keys (hV (qC (S:=S) c.hin (yI c.ci x)))=X.K0:=wi
 let cc:Ctx X.K0:=⟨[],w,m,Z,_,hk0,fun k hk=>hdom k (by rw[hk0];exact hk)⟩
 have S0:Jr cc (eV (zgz (Tp.puts c.hin (yI c.ci x) c.ins))) (hV (qC c.hin (yI c.ci x))) (vE vals) w:=⟨m,Z,⟨Step.refl hs,fun k hk=>hdom k hk⟩,fun t=>by
  rw[zog];have:=Qi _ vals 0 t hv
  simpa[ZD,vE]using this⟩
 -- the thing's place
 obtain⟨loc0,pv,hl0,hp0,hv0⟩:∃loc pv,m k0 0=some loc∧vE vals 0=pv∧pv=.pointer (some ⟨loc.1,0,none⟩):=by
  rw[hin]at hv;simp only[Tp.puts,Tp.put,A.vs,A.v]at hv;obtain⟨y,ys,rfl,⟨g,loc,e1,e2,e3⟩,_⟩:=hv;cases e1;exact⟨loc,_,e2,rfl,by simpa[vE]using e3⟩
 let R:Ending→World→Prop:=fun en w'=>∃y m' Z',en=.returned y∧Step m Z (hV (qC c.hin (yI c.ci x))) w m' Z' (hV (qC c.hout (yI c.ci x++yI c.co r))) w'∧Rep (some m') Z' (c.out.put c.hout (yI c.ci x++yI c.co r)).v y
 let Qe:YU:=fun e ρr ds w'=>e=.normal∧∀tmps:Array Value,(∀t,tmps.getD t Go.undef=ρr t)→LeavesInM Fence.wide 0 P fn tmps R ds .returning w'
 have hend:∀(bs:List Deferred) E' H',(zgu X.rT X.K0 E' H' X.x fun v=>.ret (some v)).Is r→∀m' Z' ρr (tmps:Array Value) w2,(∀t,tmps.getD t Go.undef=ρr t)→Ks { cc with base:=bs } m' Z' (hV H') w2→ziy m' Z' (eV E') ρr→∃v,(results fn tmps).run P w2=.ok v w2∧R (.returned v) w2:=by
  intro bs E' H' g m' Z' ρr tmps w2 ht S1 hR1;obtain⟨v,g1,g2⟩:=js g;have e:=Is.ret g2;cases e;obtain⟨m2,Z2,S2,hR2⟩:=xM hS g1 _ _ _ ⟨m',Z',S1,hR1⟩;obtain⟨_,hres,hsel,hfb⟩:=hfin;simp only[zL3,bn]at hfb;obtain⟨q1,q2,q3,q4⟩:=hfb;obtain⟨m3,S3,hc3⟩:=S2.cut _ hsel q1 q2 q4;obtain⟨y,hy1,hy2⟩:=zdf S2.step.sim hR2 hres (tmps:=tmps) ht;exact⟨y,hy1,y,m3,Z2,rfl,S3.step,hc3 _ _ q3 hy2⟩
 have hmain:Wp P none fn.ntmps (.seq r0 (.seq r1 (.seq (.seq r2 (.cond (.tmp tc) (.seq r3 (.region id4 #[⟨some d1,.move (.tmp 0),ty1,pos1,aft1,none⟩,⟨none,.defer ⟨.value (.func fW),#[.tmp d1,.const (.string ⟨l.toArray⟩)],ts⟩,ty2,pos2,aft2,none⟩] false)) .skip)) B))) Qe (vE vals) [] w:=by
  unfold evW at hI;refine zs0 (We (X:=X) (cc:=cc) hS hT (fun e=>by cases e) hm hI (fun E1 H1 g1 ρ1 w1 ds1 SA1 hM1=>?_) _ _ _ S0 (y0.nil rfl));refine zs0 (We (X:=X) (cc:=cc) hS hT (fun e=>by cases e) hm g1 (fun E2 H2 g2 ρ2 w2 ds2 SA2 hM2=>?_) _ _ _ SA1 hM1);refine zs0 (zs0 (We (X:=X) (cc:=cc) hS hT (fun e=>by cases e) hm g2 (fun E3 H3 g3 ρ3 w3 ds3 SA3 hM3=>?_) _ _ _ SA2 hM2));split at g3
  ·rename_i b hbt
   obtain⟨gt,gf⟩:=Is.cnd g3
   have hcv:Eng.ev ρ3 (.tmp tc)=.bool b:=by
    obtain⟨m3,Z3,S3,hR3⟩:=SA3;have:=hR3.ev (.tmp tc);rw[zV,hbt]at this;exact this
   refine zFh b hcv (fun hb1=>?_) (fun hb1=>?_)
   ·refine zs0 (We (X:=X) (cc:=cc) hS hT (fun e=>by cases e) hm (gt hb1) (fun E4 H4 g4 ρ4 w4 ds4 SA4 hM4=>?_) _ _ _ SA3 hM3)
    split at g4
    ·rename_i k hpk
     cases hk:Nat.beq k k0&&Nat.ble (d1+1) X.N with
     |false=>rw[hk]at g4;exact(Is.fail g4).elim
     |true =>
      rw[hk,ctQ]at g4;simp only[bn]at hk;have hkk:=eb hk.1;subst hkk;have hd1:d1<fn.ntmps:=lb hk.2;obtain⟨m4,Z4,S4,hR4⟩:=SA4;have hm4:m4 k 0=some loc0:=S4.step.mext _ _ _ hl0
      have hpv:ρ4 0=.pointer (some ⟨loc0.1,0,none⟩):=by
       have:=hR4.ev (.tmp 0);rw[zV,hpk]at this;obtain⟨g,loc,e1,e2,e3⟩:=this;cases e1;rw[hm4]at e2;cases e2;exact e3
      refine zJ0 (N:=fn.ntmps) hd1 ?_
      let dd:Deferred:={ target:=.fn (.func fW) #[],args:=#[ρ4 0,.string ⟨l.toArray⟩] }
      let cc1:Ctx X.K0:={ cc with base:=[dd] }
      have SA5:Jr cc1 (eV ((d1,.raw (.ptr k 0 0))::E4)) (hV H4) (upd ρ4 d1 (ρ4 0)) w4:=⟨m4,Z4,zN6 S4,by
       refine hR4.put d1 (v:=.ptr k 0 0) ?_
       exact⟨m4,loc0,rfl,hm4,hpv⟩⟩
      have hM5:y0 cc1 (dd::ds4) w4:=by
       obtain⟨lq,h1,h2,h3,h4,h5⟩:=hM4;refine⟨.inr dd::lq,by rw[h1];rfl,?_,h3,h4,fun d hd D' e=>?_⟩
       ·show dd::lq.filterMap Sum.getRight?=[dd]
        rw[h2]
       ·cases msQ.1 hd;cases e
      refine We (X:=X) (cc:=cc1) hS hT (fun e=>by cases e) hm g4 (fun E6 H6 g6 ρ6 w6 ds6 SA6 hM6=>?_) _ _ _ SA5 hM5;refine⟨rfl,fun tmps ht=>?_⟩;unfold zN5 at g6;split at g6
      ·rename_i i ct s hgk
       obtain⟨s',hs',g7⟩:=Is.bnd g6;obtain⟨m6,Z6,S6,hR6⟩:=SA6;obtain⟨lq,rfl,h2,h3,h4,h5⟩:=hM6;have hm6:m6 k 0=some loc0:=S6.step.mext _ _ _ hl0;refine zd6 (c:=cc1) (m:=m6) (Z:=Z6) (H:=hV H6) (fv:=fW) (dargs:=[ρ4 0,.string ⟨l.toArray⟩]) (fun w=>hfW _ w) (fun w7 S7=>?_) lq w6 h2 h3 h4 S6
       have hsel:qj [k] H6=some [(k,.gn i ct s)]:=by simp only[qj,hgk]
       have hp:=wY S7.step.sim.nodup (List.nodup_cons.2 ⟨by simp,List.nodup_nil⟩) (wA hsel);have hs7:xV m6 Z6 ([(k,S.go i ct s)]++kH [k] (hV H6)) w7:=S7.step.sim.perm hp
       have hRp:zS (some m6) Z6 [.ptr k 0 0,.str l] [ρ4 0,.string ⟨l.toArray⟩]:=⟨_,_,rfl,⟨m6,loc0,rfl,hm6,hpv⟩,_,_,rfl,rfl,rfl⟩
       refine(hD ct i s s' hs' k w7 m6 Z6 _ .returning hs7.left hRp).mono ?_;rintro en u' w8 ⟨rfl,y,m8,Z8,rfl,st,_⟩
       have st2:=Step.frame_rule hs7 st fun p hp q hq e=>by
        cases msQ.1 hp;have hn:=hs7.nodup;rw[zH]at hn;exact(List.nodup_append.1 hn).2.2 k (msQ.2 rfl) _ (mem_keys hq) e
       have hup:=(zgx (F:=[]) (H:=H6) (F':=[(k,.gn i ct s')]) (Rr:=[]) (kF:=[k]) (kR:=[]) S7.step.sim.nodup rfl (by simp[EQ.qY]) (by simp) rfl).1;have st3:Step m6 Z6 (hV H6) w7 m8 Z8 (hV (Yj H6 [(k,.gn i ct s')])) w8:=(st2.permL hp.symm).permR hup
       have hk6:∀k',k' ∉ keys (hV (Yj H6 [(k,.gn i ct s')]))→∀L,m8 k' L=none:=fun k' hk' L=>by
        rw[st3.newk k' hk'];exact S7.dom k' (fun h=>hk' (st3.keep k' h)) L
       have S8:Ks cc1 m8 Z8 (hV (Yj H6 [(k,.gn i ct s')])) w8:=⟨S7.step.trans st3,hk6⟩
       have hR8:ziy m8 Z8 (eV E6) ρ6:=fun t=>(hR6 t).up st3.zext (fun g e=>by cases e;exact⟨m8,rfl,st3.mext⟩)
       exact⟨rfl,y,m8,Z8,_,rfl,st3,S8,fun w9 S9=>hend [dd] E6 _ g7 m8 Z8 ρ6 tmps w9 ht S9 hR8⟩
      ·exact(Is.fail g6).elim
    ·exact(Is.fail g4).elim
   ·refine znc (We (X:=X) (cc:=cc) hS hT (fun e=>by cases e) hm (gf hb1) (fun E4 H4 g4 ρ4 w4 ds4 SA4 hM4=>?_) _ _ _ SA3 hM3)
    refine⟨rfl,fun tmps ht=>?_⟩;obtain⟨m4,Z4,S4,hR4⟩:=SA4;obtain⟨lq,rfl,h2,h3,h4,h5⟩:=hM4
    exact HM lq w4 h2 h3 h4 S4 fun w9 S9=>hend [] E4 H4 g4 m4 Z4 ρ4 tmps w9 ht S9 hR4
  ·exact(Is.fail g3).elim
 refine(callsIn_wide (n:=0)).1 (callsIn_of_wp_marks hf hb trivial ?_)
 refine wpIn_mono (hmain _ 0 ⟨?_,rfl,fun t=>?_⟩) fun e a w' hq=>?_
 ·simp;omega
 ·simp only[vE,Array.getD_eq_getD_getElem?,List.getD_eq_getElem?_getD]
  rw[Array.getElem?_append];split
  ·simp
  ·rename_i hlt
   simp only[List.size_toArray]at hlt;rw[List.getElem?_eq_none (by omega)];simp only[List.size_toArray];rw[Array.getElem?_replicate];split<;>rfl
 ·obtain⟨ρr',ds',hf',rfl,h⟩:=hq
  have:=h a.tmps hf'.get;rw[← hf'.defs]at this;exact this
end
end Go.EQ
namespace Go.Proofs.YtffencjoddkghaaGreatDoor
open Go Go.RowKit Go.Eng Go.EV Go.EQ
theorem zJ1{T:Nat}(hT:zvh T)(k:Nat)(s t:List UInt8)(hl:s.length+t.length≤140737488355328):FnD Tryz.prog 162 [.ptr k 0 0,.str t] [(k,sb T s)] (.tup [.int .i64 (t.length:Nat),.nili]) [(k,sb T (s++t))]:=by
 intro w m Z vals u hs hv;obtain⟨b,h1,h2⟩:=zyb hs;obtain⟨r,rfl,h3⟩:=JB h1 hv;obtain⟨x,xs,rfl,rfl,h4⟩:=h3;cases h4;refine((zvj hT b _ ⟨t.toArray⟩ w h2 (by rw[Lib.byteCells_length,Z5];exact hl)).2 u).mono ?_;rintro en u' w' ⟨rfl,rfl,h5,h6⟩;rw[strCells_eq,← QB]at h5;obtain⟨m',st⟩:=Z1 hs h1 h5 h6;exact⟨rfl,_,m',Z,rfl,st,_,rfl,_,_,rfl,by rw[Z5];rfl,_,_,rfl,rfl,rfl⟩
theorem zyh(args:Array Value)(w:World):(callFunc 162 args).run Tryz.prog w=.ok (.enter 162 args) w:=enters_of Tryz.func162 (by kernel_rfl) rfl args w
def zA4(s:List UInt8):Option (List UInt8):=(grd (List.length s+2≤140737488355328)).bind fun _=>some (s++[32,41])
class Fuel where
 n:Nat
 big:18446744073709551616≤n
def KK[Fuel]:Nat:=Fuel.n
open Go Go.RowKit
theorem size5:(Tryz.prog.info? 5).map (·.size)=some 1:=by kernel_rfl
set_option maxHeartbeats 2000000 in
set_option maxRecDepth 1000000 in
theorem zt8(b n:Nat)(w:World)(hbk:w.heap[b]?=some (.cells #[.pointer (some ⟨b,0,none⟩),.slice none 0 0] 108 (0,0)))(hn:n≤281474976710656):
  Calls Tryz.prog 212 #[.pointer (some ⟨b,0,none⟩),.int .i64 n] w fun e w'=>e=.returned (.tuple #[])∧Lib.IsBuilderF 108 5 0 b [] w'∧Am b w w':=by
 obtain⟨cs,hrun,hle,hmax⟩:=Lib.run_makeNoZero (P:=Tryz.prog) w.drew #[3] 106 5 Tryz.underlying106 n hn
 have hw:IntKind.i64.wrap (IntKind.i64.wrap 0+(n:Int))=n:=by
  rw[IntKind.wrap_i64,IntKind.wrap_i64];omega
 have hcall:(callFunc 227 #[.int .i64 (IntKind.i64.wrap (IntKind.i64.wrap 0+(n:Int)))]).run Tryz.prog w.drew=.ok (.value (.slice (some ⟨w.drew.heap.size,0,none⟩) n cs.size)) (w.drew.drew.drew.alloc (.cells cs 5)):=by
  rw[hw,run_callFunc_extern Tryz.func227 (by kernel_rfl) (by kernel_rfl) (by kernel_rfl) (e:=Extern.BytealgMakeNoZero.makeNoZero #[3] #[106]) (by kernel_rfl),hrun];rfl
 have hlt:b<w.heap.size:=by
  rcases Nat.lt_or_ge b w.heap.size with h'|h'
  ·exact h'
  ·simp[Array.getElem?_eq_none h']at hbk
 have c1:w.drew.cell? ⟨b,1,none⟩=some (.slice none 0 0):=by
  have:w.drew.heap[b]?=_:=hbk;rw[Lib.cell_of_heap this];rfl
 have c2:(w.alloc (.cells cs 5)).cell? ⟨b,1,none⟩=some (.slice none 0 0):=by
  have:(w.alloc (.cells cs 5)).heap[b]?=_:=(Lib.alloc_old w _ b hlt).trans hbk;rw[Lib.cell_of_heap this];rfl
 have f2:(w.alloc (.cells cs 5)).frozen? ⟨b,1,none⟩=false:=Lib.frozen_of_heap ((Lib.alloc_old w _ b hlt).trans hbk) 1
 have hcopy:∀W:World,(Builtin.copy_ #[106,106] 3 #[.slice (some ⟨w.heap.size,0,none⟩) 0 cs.size,.slice none 0 0]).run Tryz.prog W=.ok (goInt 0) W :=
  fun W=>run_copy_none W 106 106 3 5 _ _ 0 cs.size 0 0 Tryz.underlying106 size5 rfl
 have hfin:Lib.IsBuilderF 108 5 0 b [] ((w.setCell ⟨b,1,none⟩ (.slice (some ⟨w.heap.size,0,none⟩) 0 cs.size)).alloc (.cells cs 5)).drew.drew.drew∧Am b w ((w.setCell ⟨b,1,none⟩ (.slice (some ⟨w.heap.size,0,none⟩) 0 cs.size)).alloc (.cells cs 5)).drew.drew.drew:=by
  have hm:=hmax (by unfold maxLen;omega)
  have hsz:(w.setCell ⟨b,1,none⟩ (.slice (some ⟨w.heap.size,0,none⟩) 0 cs.size)).heap.size=w.heap.size:=by simp[World.setCell]
  have e1:(w.setCell ⟨b,1,none⟩ (.slice (some ⟨w.heap.size,0,none⟩) 0 cs.size)).heap[b]?=some (.cells #[.pointer (some ⟨b,0,none⟩),.slice (some ⟨w.heap.size,0,none⟩) 0 cs.size] 108 (0,0)):=by simp[World.setCell,Array.getElem?_modify,hbk]
  have e2:((w.setCell ⟨b,1,none⟩ (.slice (some ⟨w.heap.size,0,none⟩) 0 cs.size)).alloc (.cells cs 5)).heap[b]?=some (.cells #[.pointer (some ⟨b,0,none⟩),.slice (some ⟨w.heap.size,0,none⟩) 0 cs.size] 108 (0,0)):=(Lib.alloc_old _ _ b (by rw[hsz];exact hlt)).trans e1
  have e3:((w.setCell ⟨b,1,none⟩ (.slice (some ⟨w.heap.size,0,none⟩) 0 cs.size)).alloc (.cells cs 5)).heap[w.heap.size]?=some (.cells cs 5 (0,0)):=by
   have:=heap_alloc_new (w.setCell ⟨b,1,none⟩ (.slice (some ⟨w.heap.size,0,none⟩) 0 cs.size)) (.cells cs 5)
   rwa [hsz]at this
  refine⟨.inr ⟨Nat.zero_le _,_,e2,⟨rfl,.inr ⟨w.heap.size,cs.size,cs,(0,0),rfl,Nat.zero_le _,e3,Nat.zero_le _,Nat.zero_le _,hm,by simp,by simp⟩⟩,by simp[Value.ownBlock];omega⟩,_,_,108,_,_,hbk,e2,rfl,rfl,rfl,?_,fun k hk hkb _=>?_,fun g hg=>?_,fun g hg=>(by cases hg)⟩
  ·have:((w.setCell ⟨b,1,none⟩ (.slice (some ⟨w.heap.size,0,none⟩) 0 cs.size)).alloc (.cells cs 5)).heap.size=(w.setCell ⟨b,1,none⟩ (.slice (some ⟨w.heap.size,0,none⟩) 0 cs.size)).heap.size+1:=by simp
   exact Nat.le_trans (Nat.le_succ w.heap.size) (Nat.le_of_eq (congrArg (·+1) hsz.symm |>.trans this.symm))
  ·exact(Lib.alloc_old _ _ k (by rw[hsz];exact hk)).trans (Below.heap_setCell _ _ _ _ (fun e=>hkb (by simp[e])))
  ·simp only[Value.ownBlock,Option.some.injEq]at hg
   exact .inl (by omega)
 clear hw;have mixed:=Zs
 go_enter Tryz.func212,Tryz.ntmps212
 go_wp2
 go_region_o
 all_goals (go_wp2;go_end0;exact⟨rfl,hfin⟩)
theorem zDo{T b:Nat}{w:World}{p v:Value}(hbk:w.heap[b]?=some (.cells #[p,v] T (0,0))):w.shape? b=some (T,2):=by simp[World.shape?,hbk]
set_option maxHeartbeats 2000000 in
set_option maxRecDepth 1000000 in
theorem zDp(b n:Nat)(w:World)(hbk:w.heap[b]?=some (.cells #[.pointer none,.slice none 0 0] 108 (0,0)))(hn:n≤281474976710656):
  Calls Tryz.prog 167 #[.pointer (some ⟨b,0,none⟩),.int .i64 n] w fun e w'=>e=.returned (.tuple #[])∧Lib.IsBuilderF 108 5 0 b [] w'∧Am b w w':=by
 have hbk1:(w.setCell ⟨b,0,none⟩ (.pointer (some ⟨b,0,none⟩))).heap[b]?=some (.cells #[.pointer (some ⟨b,0,none⟩),.slice none 0 0] 108 (0,0)):=by
  simp[World.setCell,Array.getElem?_modify,hbk]
 have c1:(w.setCell ⟨b,0,none⟩ (.pointer (some ⟨b,0,none⟩))).cell? ⟨b,1,none⟩=some (.slice none 0 0):=by rw[Lib.cell_of_heap hbk1];rfl
 have c1':(w.setCell ⟨b,0,none⟩ (.pointer (some ⟨b,0,none⟩))).drew.cell? ⟨b,1,none⟩=some (.slice none 0 0):=c1;have hU:Lib.IsBuilderF 108 5 0 b [] (w.setCell ⟨b,0,none⟩ (.pointer (some ⟨b,0,none⟩))).drew:=.inr ⟨Nat.zero_le _,.slice none 0 0,hbk1,World.ownsRowF_nil _ _ _ _,by simp[Value.ownBlock]⟩
 have hk:∀k,k≠b→(w.setCell ⟨b,0,none⟩ (.pointer (some ⟨b,0,none⟩))).heap[k]?=w.heap[k]?:=fun k hk=>Below.heap_setCell _ _ _ _ (fun e=>hk (by simp[e]))
 have hsz:(w.setCell ⟨b,0,none⟩ (.pointer (some ⟨b,0,none⟩))).heap.size=w.heap.size:=by simp[World.setCell]
 have hT:Am b w (w.setCell ⟨b,0,none⟩ (.pointer (some ⟨b,0,none⟩))).drew:=⟨_,_,108,_,_,hbk,hbk1,rfl,rfl,rfl,Nat.le_of_eq hsz.symm,fun k _ hkb _=>hk k hkb,fun g hg=>(by cases hg),fun g hg=>(by cases hg)⟩
 have hT2:∀w',Am b (w.setCell ⟨b,0,none⟩ (.pointer (some ⟨b,0,none⟩))).drew w'→Am b w w':=fun w' ⟨p,v,T,p',v',t1,t2,t3,t4,t5,t6,t7,t8,t9⟩=>by
  have t1':=hbk1.symm.trans t1;cases t1';refine⟨_,_,108,p',v',hbk,t2,t3,t4,t5,Nat.le_trans (Nat.le_of_eq hsz.symm) t6,fun k hk1 hkb _=>?_,fun g hg=>?_,fun g hg=>(by cases hg)⟩
  ·exact(t7 k (Nat.lt_of_lt_of_le hk1 (Nat.le_of_eq hsz.symm)) hkb (by simp[Value.ownBlock])).trans (hk k hkb)
  ·rcases t8 g hg with h|h
   ·exact .inl (Nat.le_trans (Nat.le_of_eq hsz.symm) h)
   ·cases h
 have mixed:=Zs
 go_enter Tryz.func167,Tryz.ntmps167
 go_wp2_with (go_at_call 209;refine(Zr zfo b w (by rw[Lib.cell_of_heap hbk];rfl) (zDo hbk) (Lib.frozen_of_heap hbk 0)).mono ?_;rintro e w' ⟨rfl,rfl⟩)
 go_region_o
 all_goals go_wp2_with (go_at_call 212;refine(zt8 b n (w.setCell ⟨b,0,none⟩ (.pointer (some ⟨b,0,none⟩))).drew hbk1 hn).mono ?_;rintro e w' ⟨rfl,h1,h2⟩)
 all_goals first
  |(go_end0;exact⟨rfl,h1,hT2 _ h2⟩)
  |(go_end0;exact⟨rfl,hU,hT⟩)
open Go.Eng Go.EV Go.EQ in
theorem zDq(k n:Nat)(hn:n≤281474976710656):FnA Tryz.prog 167 [.ptr k 0 0,.int .i64 n] [(k,.box 108 [.nilp,.nils])] (.tup []) [(k,sb 108 [])]:=by
 intro w m Z vals hs hv _;obtain⟨h1,h2⟩:=zyd (hs.holds _ (msQ.2 rfl))
 have hs':xV m Z [(k,sb 108 [])] w:=⟨hs.frozen,fun p hp=>by cases msQ.1 hp;exact h1,hs.nodup,fun p hp q hq _ _ _=>by cases msQ.1 hp;cases msQ.1 hq;rfl⟩
 obtain⟨b,cur,g1,g2,⟨x,xs,e1,hx,y,ys,e2,hy,e3⟩,g4,g5⟩:=hs.holds _ (msQ.2 rfl);subst e3;subst e2;have hx:x=.pointer none:=hx;have hy:y=.slice none 0 0:=hy;subst hx;subst hy
 have hc:cur=#[.pointer none,.slice none 0 0]:=by
  apply Array.ext';rw[e1]
 subst hc;obtain⟨r,rfl,h3⟩:=JB g1 hv;obtain⟨x,xs,rfl,rfl,h4⟩:=h3;cases h4;refine Calls.mono (zDp b n w g2 hn) ?_;rintro en w' ⟨rfl,h5,h6⟩;obtain⟨m',st⟩:=Z1 hs' g1 (s':=[]) h5 h6
 have hb:∀c,¬blk m (k,.box 108 [.nilp,.nils]) c→¬blk m (k,sb 108 []) c:=fun c hn h=>hn (h2 c h)
 exact⟨_,m',Z,rfl,⟨st.sim,st.mext,st.zext,st.os,st.tape,st.output,st.size,fun c hc hn=>st.frame c hc fun p hp=>by cases msQ.1 hp;exact hb c (hn _ (msQ.2 rfl)),st.keep,st.newk,fun p hp c hc=>(st.blks p hp c hc).imp id fun⟨q,hq,e⟩=>by cases msQ.1 hq;exact⟨_,msQ.2 rfl,h2 c e⟩,fun a x ha=>(st.znew a x ha).imp id (Or.imp id fun⟨q,hq,e⟩=>by cases msQ.1 hq;exact⟨_,msQ.2 rfl,h2 _ e⟩)⟩,[],rfl,rfl⟩
end Go.Proofs.YtffencjoddkghaaGreatDoor
set_option maxRecDepth 100000
namespace Go.Proofs.YtffencjoddkghaaGreatDoor.J
open Go Go.RowKit Go.Eng Go.EV Go.EQ
structure Expr where
 Op:Int
 N:Int
 S:(List UInt8)
 Key:(List UInt8)
 Args:(List Expr)
instance:Inhabited Expr:=⟨⟨0,0,[],[],[]⟩⟩
mutual
def ub:Expr→List V
 |⟨a0,a1,a2,a3,a4⟩=>[.int .i64 a0,.int .i64 a1,.str a2,.str a3,.vs 5 (yS a4)]
def yS:List Expr→List (List V)
 |[]=>[]
 |x::r=>ub x::yS r
end
def vF(x:Expr):List V:=[.int .i64 x.Op,.int .i64 x.N,.str x.S,.str x.Key,.vs 5 (yS x.Args)]
theorem HN(x:Expr):ub x=vF x:=by cases x;rw[ub];rfl
theorem kN:∀l:List Expr,yS l=l.map vF
 |[]=>by rw[yS];rfl
 |x::r=>by rw[yS,HN,kN r];rfl
structure Def where
 Name:(List UInt8)
 Body:Expr
 deriving Inhabited
def zaa(x:Def):List V:=[.str x.Name,.int .i64 x.Body.Op,.int .i64 x.Body.N,.str x.Body.S,.str x.Body.Key,.vs 5 (yS x.Body.Args)]
structure Entry where
 Name:(List UInt8)
 N:Int
 deriving Inhabited,DecidableEq
def oR(x:Entry):List V:=[.str x.Name,.int .i64 x.N]
structure Table where
 Name:(List UInt8)
 Rows:(List Entry)
 Else:Int
 deriving Inhabited,DecidableEq
def HO(x:Table):List V:=[.str x.Name,.vs 2 (List.map oR x.Rows),.int .i64 x.Else]
structure zG where
 X:Int
 Y:Int
 deriving Inhabited,DecidableEq
def kO(x:zG):List V:=[.int .i64 x.X,.int .i64 x.Y]
structure yl where
 Name:(List UInt8)
 Overlay:Bool
 Corners:(List zG)
 deriving Inhabited,DecidableEq
def Q0(x:yl):List V:=[.str x.Name,.bool x.Overlay,.vs 2 (List.map kO x.Corners)]
structure zE where
 Side:Int
 Base:Int
 Num:Int
 Den:Int
 deriving Inhabited,DecidableEq
def Q1(x:zE):List V:=[.int .i64 x.Side,.int .i64 x.Base,.int .i64 x.Num,.int .i64 x.Den]
structure zX where
 Name:(List UInt8)
 Zones:(List (List UInt8))
 Except:(List (List UInt8))
 From:Int
 Until:Int
 Grace:Int
 Vary:Bool
 Kind:Int
 Test:Expr
 zE:zE
 Uses:Int
 Other:Int
 N:Int
 deriving Inhabited
def Q2(x:zX):List V:=[.str x.Name,.vs 1 (List.map EV.zL4 x.Zones),.vs 1 (List.map EV.zL4 x.Except),.int .i64 x.From,.int .i64 x.Until,.int .i64 x.Grace,.bool x.Vary,.int .i64 x.Kind,.int .i64 x.Test.Op,.int .i64 x.Test.N,.str x.Test.S,.str x.Test.Key,.vs 5 (yS x.Test.Args),.int .i64 x.zE.Side,.int .i64 x.zE.Base,.int .i64 x.zE.Num,.int .i64 x.zE.Den,.int .i64 x.Uses,.int .i64 x.Other,.int .i64 x.N]
structure Cap where
 Name:(List UInt8)
 Load:Int
 Limit:Int
 Corners:(List zG)
 deriving Inhabited,DecidableEq
def zab(x:Cap):List V:=[.str x.Name,.int .i64 x.Load,.int .i64 x.Limit,.vs 2 (List.map kO x.Corners)]
structure zf where
 X:Int
 Y:Int
 Z_:Int
 deriving Inhabited,DecidableEq
def jT(x:zf):List V:=[.int .i64 x.X,.int .i64 x.Y,.int .i64 x.Z_]
structure View where
 Name:(List UInt8)
 Eye:zf
 Least:Int
 Targets:(List zf)
 deriving Inhabited,DecidableEq
def Q3(x:View):List V:=[.str x.Name,.int .i64 x.Eye.X,.int .i64 x.Eye.Y,.int .i64 x.Eye.Z_,.int .i64 x.Least,.vs 3 (List.map jT x.Targets)]
structure Token where
 Kind:Int
 Text:(List UInt8)
 N:Int
 Pos:Int
 deriving Inhabited,DecidableEq
def Q4(x:Token):List V:=[.int .i64 x.Kind,.str x.Text,.int .i64 x.N,.int .i64 x.Pos]
variable[Kd]
theorem kmp{a b:Prop}(h:a=b)(x:a):b:=h▸x
def zF7(n:Int):Option (List UInt8):=(grd (0≤n∧n≤281474976710656)).bind fun _=>some []
theorem zN7(n:Int)(r:List UInt8)(h:zF7 n=some r):r=[]∧FnA Tryz.prog 167 [.ptr 1 0 0,.int .i64 n] [(1,.box 108 [.nilp,.nils])] (.tup []) [(1,sb 108 [])]:=by
 obtain⟨_,h1,h2⟩:=bind_some h;obtain⟨g1,g2⟩:=yV h1;cases h2;obtain⟨m,rfl⟩:=Int.eq_ofNat_of_zero_le g1;exact⟨rfl,zDq 1 m (by omega)⟩
def zF8:Nat→Type
 |0=>Expr
 |1=>Def
 |2=>Entry
 |3=>Table
 |4=>zG
 |5=>yl
 |6=>zE
 |7=>zX
 |8=>Cap
 |9=>zf
 |10=>View
 |11=>Token
 |_=>Unit
def goT(i:Nat):(c:TC)→c.ty zF8→EV.Obj
 |.s,x=>sb (bif Nat.beq i 0 then 108 else 123) x
 |_,_=>.gen gone
def TS:Tab where
 T:=zF8
 dflt:=fun n=>match n with
  |0=>(default:Expr)
  |1=>(default:Def)
  |2=>(default:Entry)
  |3=>(default:Table)
  |4=>(default:zG)
  |5=>(default:yl)
  |6=>(default:zE)
  |7=>(default:zX)
  |8=>(default:Cap)
  |9=>(default:zf)
  |10=>(default:View)
  |11=>(default:Token)
  |_+12=>()
 fl:=fun n=>match n with
  |0=>[.i .i64,.i .i64,.s,.s,.l (.st 0)]
  |1=>[.s,.st 0]
  |2=>[.s,.i .i64]
  |3=>[.s,.l (.st 2),.i .i64]
  |4=>[.i .i64,.i .i64]
  |5=>[.s,.b,.l (.st 4)]
  |6=>[.i .i64,.i .i64,.i .i64,.i .i64]
  |7=>[.s,.l (.s),.l (.s),.i .i64,.i .i64,.i .i64,.b,.i .i64,.st 0,.st 6,.i .i64,.i .i64,.i .i64]
  |8=>[.s,.i .i64,.i .i64,.l (.st 4)]
  |9=>[.i .i64,.i .i64,.i .i64]
  |10=>[.s,.st 9,.i .i64,.l (.st 9)]
  |11=>[.i .i64,.s,.i .i64,.i .i64]
  |_+12=>[]
 cn:=fun n=>match n with
  |0=>5
  |1=>6
  |2=>2
  |3=>3
  |4=>2
  |5=>3
  |6=>4
  |7=>20
  |8=>4
  |9=>3
  |10=>6
  |11=>4
  |_+12=>0
 out:=fun n=>match n with
  |0=>fun x=>((x:Expr).Op,(x:Expr).N,(x:Expr).S,(x:Expr).Key,(x:Expr).Args)
  |1=>fun x=>((x:Def).Name,(x:Def).Body)
  |2=>fun x=>((x:Entry).Name,(x:Entry).N)
  |3=>fun x=>((x:Table).Name,(x:Table).Rows,(x:Table).Else)
  |4=>fun x=>((x:zG).X,(x:zG).Y)
  |5=>fun x=>((x:yl).Name,(x:yl).Overlay,(x:yl).Corners)
  |6=>fun x=>((x:zE).Side,(x:zE).Base,(x:zE).Num,(x:zE).Den)
  |7=>fun x=>((x:zX).Name,(x:zX).Zones,(x:zX).Except,(x:zX).From,(x:zX).Until,(x:zX).Grace,(x:zX).Vary,(x:zX).Kind,(x:zX).Test,(x:zX).zE,(x:zX).Uses,(x:zX).Other,(x:zX).N)
  |8=>fun x=>((x:Cap).Name,(x:Cap).Load,(x:Cap).Limit,(x:Cap).Corners)
  |9=>fun x=>((x:zf).X,(x:zf).Y,(x:zf).Z_)
  |10=>fun x=>((x:View).Name,(x:View).Eye,(x:View).Least,(x:View).Targets)
  |11=>fun x=>((x:Token).Kind,(x:Token).Text,(x:Token).N,(x:Token).Pos)
  |_+12=>fun _=>()
 inj:=fun n=>match n with
  |0=>fun x=>(⟨x.1,x.2.1,x.2.2.1,x.2.2.2.1,x.2.2.2.2⟩:Expr)
  |1=>fun x=>(⟨x.1,x.2⟩:Def)
  |2=>fun x=>(⟨x.1,x.2⟩:Entry)
  |3=>fun x=>(⟨x.1,x.2.1,x.2.2⟩:Table)
  |4=>fun x=>(⟨x.1,x.2⟩:zG)
  |5=>fun x=>(⟨x.1,x.2.1,x.2.2⟩:yl)
  |6=>fun x=>(⟨x.1,x.2.1,x.2.2.1,x.2.2.2⟩:zE)
  |7=>fun x=>(⟨x.1,x.2.1,x.2.2.1,x.2.2.2.1,x.2.2.2.2.1,x.2.2.2.2.2.1,x.2.2.2.2.2.2.1,x.2.2.2.2.2.2.2.1,x.2.2.2.2.2.2.2.2.1,x.2.2.2.2.2.2.2.2.2.1,x.2.2.2.2.2.2.2.2.2.2.1,x.2.2.2.2.2.2.2.2.2.2.2.1,x.2.2.2.2.2.2.2.2.2.2.2.2⟩:zX)
  |8=>fun x=>(⟨x.1,x.2.1,x.2.2.1,x.2.2.2⟩:Cap)
  |9=>fun x=>(⟨x.1,x.2.1,x.2.2⟩:zf)
  |10=>fun x=>(⟨x.1,x.2.1,x.2.2.1,x.2.2.2⟩:View)
  |11=>fun x=>(⟨x.1,x.2.1,x.2.2.1,x.2.2.2⟩:Token)
  |_+12=>fun _=>()
 enc:=fun n=>match n with
  |0=>vF
  |1=>zaa
  |2=>oR
  |3=>HO
  |4=>kO
  |5=>Q0
  |6=>Q1
  |7=>Q2
  |8=>zab
  |9=>jT
  |10=>Q3
  |11=>Q4
  |_+12=>fun _=>[]
 ro:=fun n=>match n with
  |1=>gl0 Kd.ob0
  |2=>gl1 Kd.ob1
  |3=>gl2 Kd.ob2 Kd.m2
  |4=>gl3 Kd.ob3
  |_=>.gen gone
 go:=goT
theorem zJ2:TS.OK where
 enc_out:=fun n x=>match n with
  |0=>by
   show vF x=_
   unfold vF;simp only[kN];rfl
  |1=>rfl
  |2=>rfl
  |3=>rfl
  |4=>rfl
  |5=>rfl
  |6=>rfl
  |7=>rfl
  |8=>rfl
  |9=>rfl
  |10=>rfl
  |11=>rfl
  |_+12=>rfl
 out_mk:=fun n h=>match n with
  |0=>rfl
  |1=>rfl
  |2=>rfl
  |3=>rfl
  |4=>rfl
  |5=>rfl
  |6=>rfl
  |7=>rfl
  |8=>rfl
  |9=>rfl
  |10=>rfl
  |11=>rfl
  |_+12=>rfl
 ro0:=rfl
 rren:=fun i σ=>match i with|0=>rfl|1=>rfl|2=>rfl|3=>rfl|4=>rfl|_+5=>rfl
 rref:=fun i=>match i with|0=>rfl|1=>rfl|2=>rfl|3=>rfl|4=>rfl|_+5=>rfl
 rfrz:=fun i k=>match i with|0=>rfl|1=>rfl|2=>rfl|3=>rfl|4=>rfl|_+5=>rfl
 len:=fun n x=>match n with
  |0=>rfl
  |1=>rfl
  |2=>rfl
  |3=>rfl
  |4=>rfl
  |5=>rfl
  |6=>rfl
  |7=>rfl
  |8=>rfl
  |9=>rfl
  |10=>rfl
  |11=>rfl
  |_+12=>rfl
 one:=fun n x=>match n with
  |0=>rfl
  |1=>rfl
  |2=>rfl
  |3=>rfl
  |4=>rfl
  |5=>rfl
  |6=>rfl
  |7=>rfl
  |8=>rfl
  |9=>rfl
  |10=>rfl
  |11=>rfl
  |_+12=>rfl
 refs:=fun n x=>match n with
  |0=>rfl
  |1=>rfl
  |2=>rfl
  |3=>rfl
  |4=>rfl
  |5=>rfl
  |6=>rfl
  |7=>rfl
  |8=>rfl
  |9=>rfl
  |10=>rfl
  |11=>rfl
  |_+12=>rfl
 gren:=fun i c x σ=>by cases c<;>rfl
 gref:=fun i c x=>by cases c<;>rfl
 gfrz:=fun i c x k=>by cases c<;>rfl
 ggl:=fun i c x k=>by cases c<;>rfl
def cdT(t:Nat):Option TC:=bif Nat.beq t 4 then some (.b)else bif Nat.beq t 9 then some (.s)else bif Nat.beq t 37 then some (.st 0)else bif Nat.beq t 51 then some (.st 11)else bif Nat.beq t 57 then some (.st 1)else bif Nat.beq t 64 then some (.st 5)else bif Nat.beq t 87 then some (.st 3)else bif Nat.beq t 94 then some (.st 7)else bif Nat.beq t 96 then some (.st 8)else bif Nat.beq t 98 then some (.st 9)else bif Nat.beq t 100 then some (.st 10)else bif Nat.beq t 119 then some (.st 2)else bif Nat.beq t 156 then some (.st 4)else none
def nbT:NB:=fun t=>bif Nat.beq t 31 then[(0,true,57,.st 1),(1,true,87,.st 3),(2,true,64,.st 5),(3,true,94,.st 7),(4,true,96,.st 8),(5,true,100,.st 10),(6,true,98,.st 9)]else bif Nat.beq t 37 then[(4,false,37,.st 0)]else bif Nat.beq t 57 then[(5,false,37,.st 0)]else bif Nat.beq t 64 then[(2,false,156,.st 4)]else bif Nat.beq t 67 then[(0,false,51,.st 11)]else bif Nat.beq t 71 then[(0,false,51,.st 11),(2,true,57,.st 1),(3,true,87,.st 3),(4,true,64,.st 5),(5,true,94,.st 7),(6,true,96,.st 8),(7,true,100,.st 10),(8,true,8000098,.st 9),(10,true,7000000,.l (.m (.s) (.b))),(11,true,7000000,.l (.m (.s) (.b))),(12,true,7000000,.l (.m (.s) (.b))),(13,true,7000000,.l (.m (.s) (.b))),(14,true,7000000,.l (.m (.s) (.b))),(15,true,7000000,.l (.m (.s) (.b)))]else bif Nat.beq t 76 then[(0,false,51,.st 11)]else bif Nat.beq t 87 then[(1,true,119,.st 2)]else bif Nat.beq t 94 then[(1,false,9,.s),(2,false,9,.s),(12,false,37,.st 0)]else bif Nat.beq t 96 then[(3,false,156,.st 4)]else bif Nat.beq t 100 then[(5,true,98,.st 9)]else[]
theorem zJ3:Tryz.prog.follows .mixedOrders=true:=by kernel_rfl
variable[Fuel]
theorem zN8:zd Tryz.prog 167:=ze (by kernel_rfl)
theorem zra:zd Tryz.prog 162:=ze (by kernel_rfl)
theorem zt9:zd Tryz.prog 60:=ze (by kernel_rfl)
theorem zJ4:zd Tryz.prog 65:=ze (by kernel_rfl)
theorem ctk{f:Nat}{fn:Func}{code:Code}{T:CtT TS}{c:Ct TS}{h:HT TS c.co}(hf:Tryz.prog.funcs[f]?=some fn)(hb:fn.body=some code)(hB:zd Tryz.prog f)(hT:CtT.OK Tryz.prog T)(hr:∀x,((evF Tryz.prog fn code T cdT KK nbT c [] h x).run,(evF Tryz.prog fn code T cdT KK nbT c [] h x).tr true)=(c.fn x,(evF Tryz.prog fn code T cdT KK nbT c [] h x).tr false)):zd Tryz.prog f∧c.OK Tryz.prog f :=
 ⟨hB,zJw (T:=T) (cd:=cdT) (kk:=KK) (nb:=nbT) (rc:=[]) (h:=h) zJ2 hf hb zJ3 hT (fun x=>congrArg Prod.fst (hr x)) (fun x=>congrArg Prod.snd (hr x))⟩
def zF9(a0:Int):Option ((List UInt8)):=zF7 a0
def zGa:Ct TS:=⟨[.ptr 1 0,.d (.i .i64) 0],[(1,.box 108 [.nilp,.nils])],[.i .i64],.tup [],[(1,.gn 0 (.s) 1)],[.s],false,fun x=>zF9 x⟩
theorem zJ5:zGa.OK Tryz.prog 167:=fun x r h=>by
 obtain⟨h1,h2⟩:=zN7 x r h;cases h1;exact kmp (by kernel_rfl) h2
def xp(a0:(List UInt8))(a1:(List UInt8)):Option (Int×(List UInt8)):=(grd (List.length a0+List.length a1≤140737488355328)).bind fun _=>some (((List.length a1:Nat):Int),a0++a1)
def zac:Ct TS:=⟨[.ptr 1 0,.d .s 1],[(1,.gn 0 (.s) 0)],[.s,.s],.tup [.d (.i .i64) 2,.nili],[(1,.gn 0 (.s) 3)],[.i .i64,.s],false,fun x=>xp x.1 x.2⟩
theorem zg5:zac.OK Tryz.prog 162:=fun x r h=>by
 obtain⟨_,h1,h2⟩:=bind_some h;cases h2;exact kmp (by kernel_rfl) (zoh zfo 1 x.1 x.2 (yV h1))
def qF(a0:(List UInt8)):Option ((List UInt8)):=some a0
def qG:Ct TS:=⟨[.ptr 1 0],[(1,.gn 0 (.s) 0)],[.s],.d .s 1,[(1,.gn 0 (.s) 0)],[.s],false,fun x=>qF x⟩
theorem Ax:qG.OK Tryz.prog 60:=fun x r h=>by
 cases h;exact kmp (by kernel_rfl) (V1 (T:=108) 1 x)
def jU(c0:(List (List UInt8)))(c1:(List UInt8))(c2:Int):Nat→(Int×Int)→Option (Int)
 |0,_=>none
 |K+1,q=>(bif (decide (q.2<c2))then(idx c0 q.2).bind fun x1=>(bif (decide (((List.length x1:Nat):Int)>(w64 (9223372036854775807-q.1))))then none else jU c0 c1 c2 K ((w64 (q.1+((List.length x1:Nat):Int))),(w64 (q.2+1))))else some q.1)
def jV(c0:(List UInt8))(c1:(List (List UInt8)))(c2:Int):Nat→(Int×(List UInt8))→Option ((List UInt8))
 |0,_=>none
 |K+1,q=>(bif (decide (q.1<c2))then(idx c1 q.1).bind fun x1=>(xp q.2 c0).bind fun x2=>(xp x2.2 x1).bind fun x3=>jV c0 c1 c2 K ((w64 (q.1+1)),x3.2)else some q.2)
def ou(elems:(List (List UInt8)))(sep:(List UInt8)):Option ((List UInt8)) :=
 (bif (decide (((List.length elems:Nat):Int)=0))then some ([]:List UInt8)else(bif (decide (((List.length elems:Nat):Int)=1))then(idx elems 0).bind fun x1=>some x1 else((bif (decide (((List.length sep:Nat):Int)>0))then(grd ((w64 (((List.length elems:Nat):Int)-1))≠0)).bind fun _=>(bif (decide (((List.length sep:Nat):Int)≥(w64 (Int.tdiv 9223372036854775807 (w64 (((List.length elems:Nat):Int)-1))))))then none else some (w64 (0+(w64 (((List.length sep:Nat):Int)*(w64 (((List.length elems:Nat):Int)-1)))))))else some 0)).bind fun x2=>(jU elems sep ((List.length elems:Nat):Int) KK (x2,0)).bind fun x4=>(zF9 x4).bind fun x5=>(idx elems 0).bind fun x6=>(xp x5 x6).bind fun x7=>(cut elems 1 ((List.length elems:Nat):Int)).bind fun x8=>(jV sep x8 ((List.length x8:Nat):Int) KK (0,x7.2)).bind fun x9=>(qF x9).bind fun x10=>some x10))
def zc1:Ct TS:=⟨[.d (.l (.s)) 0,.d .s 1],[],[.l (.s),.s],.d .s 2,[],[.s],false,fun x=>ou x.1 x.2⟩
theorem zad:zd Tryz.prog 65∧zc1.OK Tryz.prog 65:=ctk (T:=[(167,zGa),(162,zac),(60,qG)]) (h:=.s .n (.s .n (.s .n (.s (.j ⟨[(0,.d (.l (.s)) 0),(1,.d .s 1),(5,.d (.i .i64) 2)],[],[.l (.s),.s],[.i .i64]⟩ false .n) (.s (.s .n (.s (.l ⟨[(0,.d (.l (.s)) 0),(1,.d .s 1),(5,.d (.i .i64) 3),(39,.d (.l (.s)) 0),(40,.d (.i .i64) 2),(41,.d (.i .i64) 4)],[],[.l (.s),.s,.i .i64],[.i .i64,.i .i64]⟩ [(0,.d (.l (.s)) 0),(1,.d .s 1),(5,.d (.i .i64) 3)] [] [.i .i64] 1 (fun x K v=>jU x.1 x.2.1 x.2.2 K v) .n) .n)) (.s .n (.s .n (.s .n (.s (.s .n (.s (.l ⟨[(1,.d .s 0),(8,.ptr 1000008 0),(63,.d (.l (.s)) 1),(64,.d (.i .i64) 2),(65,.d (.i .i64) 3)],[(1000008,.gn 0 (.s) 4)],[.s,.l (.s),.i .i64],[.i .i64,.s]⟩ [(8,.ptr 1000008 0)] [(1000008,.gn 0 (.s) 3)] [.s] 3 (fun x K v=>jV x.1 x.2.1 x.2.2 K v) .n) .n)) .n))))))))) Tryz.func65 rfl zJ4 ⟨⟨zN8,zJ5⟩,⟨zra,zg5⟩,⟨zt9,Ax⟩,trivial⟩ fun x=>by kernel_rfl
theorem zN9(l:List (List UInt8))(sep:List UInt8)(r:List UInt8)(h:ou l sep=some r):FnA Tryz.prog 65 [.vs 1 (l.map EV.zL4),.str sep] [] (.str r) []:=kmp (by kernel_rfl) (zad.2 (l,sep) r h)
end Go.Proofs.YtffencjoddkghaaGreatDoor.J
namespace Go.Proofs.YtffencjoddkghaaGreatDoor
open Go Go.RowKit
theorem zd7(p q:Addr)(w:World):
  CallsD Tryz.prog 120 #[.pointer (some p),.pointer (some q)] .returning w fun e u' w'=>e=.returned (.tuple #[])∧u'=.returning∧w'=w:=by
 refine callsD_of_wpS Tryz.func120 rfl fun c₀ cs hu=>?_
 apply wpS_seq;apply wpS_region;simp[wpOpsS,go_sem,recoverD,hu,Tryz.ntmps120,Exit.thenS];apply wpS_seq;apply wpS_region;simp[wpOpsS,go_sem,Exit.thenS];refine wpS_cond (t:=false) (by simp[Act.eval,Array.replicate]) ?_;simp only[Bool.false_eq_true,if_false];refine wpS_of_wp (wp_skip ?_);cases c₀
 simp_all [bodyPostS,results,Tryz.results120]
theorem ta168(v:Value)(w:World):(Instr.typeAssert (.iface 168 v) 20 168 true).run Tryz.prog w=.ok (.tuple #[v,.bool true]) w:=by kernel_rfl
set_option maxHeartbeats 4000000 in
set_option maxRecDepth 1000000 in
theorem zkt(p q:Addr)(x y:Int)(cp cq:Value)(w:World)(hp:w.cell? p=some cp)(hq:w.cell? q=some cq)(zp:w.frozen? p=false)(zq:w.frozen? q=false)(hpq:p.block≠q.block)(lp:p.block<w.heap.size)(lq:q.block<w.heap.size):
  CallsD Tryz.prog 120 #[.pointer (some p),.pointer (some q)] (.panicking [{ v:=.iface 168 (.agg #[.int .i64 x,.int .i64 y]),recovered:=false }]) w fun e u' w' =>
   e=.returned (.tuple #[])∧u'=.panicking [{ v:=.iface 168 (.agg #[.int .i64 x,.int .i64 y]),recovered:=true }] ∧
   w'=(((w.alloc (.cells #[.int .i64 x,.int .i64 y] 168)).setCell p (.int .i64 x)).setCell q (.int .i64 y)).drew:=by
 refine callsD_of_wpS Tryz.func120 rfl fun c₀ cs hu=>?_
 apply wpS_seq;apply wpS_region;simp[wpOpsS,go_sem,recoverD,hu,Tryz.ntmps120,Exit.thenS];apply wpS_seq;apply wpS_region;simp[wpOpsS,go_sem,Exit.thenS];refine wpS_cond (t:=true) (by simp[Act.eval,Array.replicate]) ?_;simp only[if_true];apply wpS_seq;apply wpS_region;simp[wpOpsS,go_sem,Exit.thenS,ta168];apply wpS_seq;apply wpS_seq;apply wpS_region;simp[wpOpsS,go_sem,Exit.thenS];refine wpS_cond (t:=false) (by simp[Act.eval,Array.replicate]) ?_;simp only[Bool.false_eq_true,if_false];refine wpS_of_wp (wp_skip ?_);simp only[Exit.thenS];refine wpS_of_wp ?_;have mixed:=Zs
 have a1:∀o:Obj,(w.alloc o).heap[p.block]?=w.heap[p.block]?:=fun o=>Lib.alloc_old w o p.block lp
 have a2:∀o:Obj,(w.alloc o).heap[q.block]?=w.heap[q.block]?:=fun o=>Lib.alloc_old w o q.block lq
 have c1:∀o:Obj,(w.alloc o).drew.cell? p=some cp:=fun o=>by rw[← hp];unfold World.cell?;rw[show(w.alloc o).drew.heap=(w.alloc o).heap from rfl,a1]
 have z1:∀o:Obj,(w.alloc o).frozen? p=false:=fun o=>by rw[← zp];unfold World.frozen?;rw[a1]
 have c2:∀o:Obj,((w.alloc o).setCell p (.int .i64 x)).cell? q=some cq:=fun o=>by
  rw[← hq];unfold World.cell?;rw[Below.heap_setCell _ _ _ _ (fun e=>hpq e.symm),a2]
 have z2:∀o:Obj,((w.alloc o).setCell p (.int .i64 x)).frozen? q=false:=fun o=>by
  rw[← zq];unfold World.frozen?;rw[Below.heap_setCell _ _ _ _ (fun e=>hpq e.symm),a2]
 have c3:((w.alloc (.cells #[.int .i64 x,.int .i64 y] 168)).setCell p (.int .i64 x)).cell? ⟨w.heap.size,1,none⟩=some (.int .i64 y):=by
  unfold World.cell?;rw[Below.heap_setCell _ _ _ _ (fun e=>by simp only at e;omega)];rw[World.alloc_heap_new];rfl
 simp[Array.replicate]
 go_region_o
 all_goals simp[bodyPostS,results,Tryz.results120]
theorem zg6{w1:World}{n:Nat}(h1:w1.heap[n]?=some (.cells #[.int .i64 0] 3))(h2:w1.heap[n+1]?=some (.cells #[.int .i64 0] 32))(x y:Value):
  w1.cell? ⟨n,0,none⟩=some (.int .i64 0)∧(w1.setCell ⟨n,0,none⟩ x).cell? ⟨n+1,0,none⟩=some (.int .i64 0)∧w1.frozen? ⟨n,0,none⟩=false∧(w1.setCell ⟨n,0,none⟩ x).frozen? ⟨n+1,0,none⟩=false ∧
  ((w1.setCell ⟨n,0,none⟩ x).setCell ⟨n+1,0,none⟩ y).cell? ⟨n,0,none⟩=some x∧((w1.setCell ⟨n,0,none⟩ x).setCell ⟨n+1,0,none⟩ y).cell? ⟨n+1,0,none⟩=some y:=by
 have e2:(w1.setCell ⟨n,0,none⟩ x).heap[n+1]?=some (.cells #[.int .i64 0] 32):=(Below.heap_setCell _ _ _ _ (fun e=>by simp at e)).trans h2
 have e1:(w1.setCell ⟨n,0,none⟩ x).heap[n]?=some (.cells #[x] 3):=by
  simp[World.setCell,Array.getElem?_modify,h1]
 have e3:((w1.setCell ⟨n,0,none⟩ x).setCell ⟨n+1,0,none⟩ y).heap[n+1]?=some (.cells #[y] 32):=by
  rw[show ∀W:World,(W.setCell ⟨n+1,0,none⟩ y).heap[n+1]?=W.heap[n+1]?.map fun o=>match o with|.cells c t r=>.cells (c.setIfInBounds 0 y) t r|o=>o from fun W=>by simp[World.setCell,Array.getElem?_modify];rfl,e2];rfl
 refine⟨by rw[Lib.cell_of_heap h1];rfl,by rw[Lib.cell_of_heap e2];rfl,Lib.frozen_of_heap h1 0,Lib.frozen_of_heap e2 0,?_,by rw[Lib.cell_of_heap e3];rfl⟩;unfold World.cell?;rw[Below.heap_setCell _ _ _ _ (fun e=>by simp at e),e1];rfl
theorem zyi{w1:World}{n:Nat}(h1:w1.heap[n]?=some (.cells #[.int .i64 0] 3))(h2:w1.heap[n+1]?=some (.cells #[.int .i64 0] 32))(o:Obj):
  n<w1.heap.size∧n+1<w1.heap.size∧w1.cell? ⟨n,0,none⟩=some (.int .i64 0)∧w1.cell? ⟨n+1,0,none⟩=some (.int .i64 0)∧w1.frozen? ⟨n,0,none⟩=false∧w1.frozen? ⟨n+1,0,none⟩=false ∧
  (w1.alloc o).heap[n]?=some (.cells #[.int .i64 0] 3)∧(w1.alloc o).heap[n+1]?=some (.cells #[.int .i64 0] 32):=by
 have l2:n+1<w1.heap.size:=(Array.getElem?_eq_some_iff.1 h2).1;have l1:n<w1.heap.size:=Nat.lt_of_succ_lt l2;exact⟨l1,l2,by rw[Lib.cell_of_heap h1];rfl,by rw[Lib.cell_of_heap h2];rfl,Lib.frozen_of_heap h1 0,Lib.frozen_of_heap h2 0,(Lib.alloc_old w1 o n l1).trans h1,(Lib.alloc_old w1 o _ l2).trans h2⟩
theorem zDr(pv a b:Value)(w:World)(Q:World→Prop)
  (hread:Calls Tryz.prog 39 #[a,b] ((w.alloc (.cells #[.int .i64 0] 3)).alloc (.cells #[.int .i64 0] 32)) fun e w'=>e=.returned (.tuple #[])∧w'.heap[w.heap.size]?=some (.cells #[.int .i64 0] 3)∧w'.heap[w.heap.size+1]?=some (.cells #[.int .i64 0] 32)∧Q w'):
  Calls Tryz.prog 35 #[pv,.func (.func 39) #[] #[a,b]] w fun e w'=>e=.returned (.tuple #[.int .i64 0,.int .i64 0])∧∃w1,w1.heap[w.heap.size]?=some (.cells #[.int .i64 0] 3)∧w1.heap[w.heap.size+1]?=some (.cells #[.int .i64 0] 32)∧Q w1∧w'=(w1.setCell ⟨w.heap.size,0,none⟩ (.int .i64 0)).setCell ⟨w.heap.size+1,0,none⟩ (.int .i64 0):=by
 have hmf:∀(fn:Fn)(first cap:Array Value)(w:World),(Instr.makeFunc fn first cap).run Tryz.prog w=.ok (.func fn first cap) w:=fun _ _ _ _=>rfl
 go_enter_defers Tryz.func35,Tryz.ntmps35
 go_wp2_with (go_at_call 39;refine hread.mono ?_;rintro e w1 ⟨rfl,h1,h2,hQ⟩;obtain⟨c1,c2,z1,z2,d1,d2⟩:=zg6 h1 h2 (.int .i64 0) (.int .i64 0))
 refine leaves_cons (f:=120) (args:=#[.pointer (some ⟨w.heap.size,0,none⟩),.pointer (some ⟨w.heap.size+1,0,none⟩)]) (by simp) (by simp[go_sem]) ?_;refine(zd7 ⟨w.heap.size,0,none⟩ ⟨w.heap.size+1,0,none⟩ _).mono ?_;rintro e u' w'' ⟨rfl,rfl,rfl⟩;simp[Leaves,settle,results,Tryz.results35,go_sem,d1,d2];exact⟨w1,h1,h2,hQ,rfl⟩
theorem zyj(pv a b:Value)(x y:Int)(w:World)(Q:World→Prop)
  (hread:Calls Tryz.prog 39 #[a,b] ((w.alloc (.cells #[.int .i64 0] 3)).alloc (.cells #[.int .i64 0] 32)) fun e w'=>e=.panicked [{ v:=.iface 168 (.agg #[.int .i64 x,.int .i64 y]),recovered:=false }]∧w'.heap[w.heap.size]?=some (.cells #[.int .i64 0] 3)∧w'.heap[w.heap.size+1]?=some (.cells #[.int .i64 0] 32)∧Q w'):
  Calls Tryz.prog 35 #[pv,.func (.func 39) #[] #[a,b]] w fun e w'=>e=.returned (.tuple #[.int .i64 x,.int .i64 y])∧∃w1,w1.heap[w.heap.size]?=some (.cells #[.int .i64 0] 3)∧w1.heap[w.heap.size+1]?=some (.cells #[.int .i64 0] 32)∧Q w1∧w'=(((w1.alloc (.cells #[.int .i64 x,.int .i64 y] 168)).setCell ⟨w.heap.size,0,none⟩ (.int .i64 x)).setCell ⟨w.heap.size+1,0,none⟩ (.int .i64 y)).drew:=by
 have hmf:∀(fn:Fn)(first cap:Array Value)(w:World),(Instr.makeFunc fn first cap).run Tryz.prog w=.ok (.func fn first cap) w:=fun _ _ _ _=>rfl
 go_enter_defers Tryz.func35,Tryz.ntmps35
 go_wp2_with (go_at_call 39;refine hread.mono ?_;rintro e w1 ⟨rfl,h1,h2,hQ⟩)
 obtain⟨l1,l2,c1,c3,z1,z3,a1,a2⟩:=zyi h1 h2 (.cells #[.int .i64 x,.int .i64 y] 168);obtain⟨_,_,_,_,d1,d2⟩:=zg6 a1 a2 (.int .i64 x) (.int .i64 y);refine leaves_cons (f:=120) (args:=#[.pointer (some ⟨w.heap.size,0,none⟩),.pointer (some ⟨w.heap.size+1,0,none⟩)]) (by simp) (by simp[go_sem]) ?_;refine(zkt ⟨w.heap.size,0,none⟩ ⟨w.heap.size+1,0,none⟩ x y (.int .i64 0) (.int .i64 0) _ c1 c3 z1 z3 (by simp) l1 l2).mono ?_;rintro e u' w'' ⟨rfl,rfl,rfl⟩;simp[Leaves,settle,results,Tryz.results35,go_sem,d1,d2];exact⟨w1,h1,h2,hQ,rfl⟩
theorem zDs(pv a:Value)(w:World)(Q:World→Prop)
  (hread:Calls Tryz.prog 36 #[a] ((w.alloc (.cells #[.int .i64 0] 3)).alloc (.cells #[.int .i64 0] 32)) fun e w'=>e=.returned (.tuple #[])∧w'.heap[w.heap.size]?=some (.cells #[.int .i64 0] 3)∧w'.heap[w.heap.size+1]?=some (.cells #[.int .i64 0] 32)∧Q w'):
  Calls Tryz.prog 35 #[pv,.func (.func 36) #[a] #[]] w fun e w'=>e=.returned (.tuple #[.int .i64 0,.int .i64 0])∧∃w1,w1.heap[w.heap.size]?=some (.cells #[.int .i64 0] 3)∧w1.heap[w.heap.size+1]?=some (.cells #[.int .i64 0] 32)∧Q w1∧w'=(w1.setCell ⟨w.heap.size,0,none⟩ (.int .i64 0)).setCell ⟨w.heap.size+1,0,none⟩ (.int .i64 0):=by
 have hmf:∀(fn:Fn)(first cap:Array Value)(w:World),(Instr.makeFunc fn first cap).run Tryz.prog w=.ok (.func fn first cap) w:=fun _ _ _ _=>rfl
 go_enter_defers Tryz.func35,Tryz.ntmps35
 go_wp2_with (go_at_call 36;refine hread.mono ?_;rintro e w1 ⟨rfl,h1,h2,hQ⟩;obtain⟨c1,c2,z1,z2,d1,d2⟩:=zg6 h1 h2 (.int .i64 0) (.int .i64 0))
 refine leaves_cons (f:=120) (args:=#[.pointer (some ⟨w.heap.size,0,none⟩),.pointer (some ⟨w.heap.size+1,0,none⟩)]) (by simp) (by simp[go_sem]) ?_;refine(zd7 ⟨w.heap.size,0,none⟩ ⟨w.heap.size+1,0,none⟩ _).mono ?_;rintro e u' w'' ⟨rfl,rfl,rfl⟩;simp[Leaves,settle,results,Tryz.results35,go_sem,d1,d2];exact⟨w1,h1,h2,hQ,rfl⟩
theorem zyk(pv a:Value)(x y:Int)(w:World)(Q:World→Prop)
  (hread:Calls Tryz.prog 36 #[a] ((w.alloc (.cells #[.int .i64 0] 3)).alloc (.cells #[.int .i64 0] 32)) fun e w'=>e=.panicked [{ v:=.iface 168 (.agg #[.int .i64 x,.int .i64 y]),recovered:=false }]∧w'.heap[w.heap.size]?=some (.cells #[.int .i64 0] 3)∧w'.heap[w.heap.size+1]?=some (.cells #[.int .i64 0] 32)∧Q w'):
  Calls Tryz.prog 35 #[pv,.func (.func 36) #[a] #[]] w fun e w'=>e=.returned (.tuple #[.int .i64 x,.int .i64 y])∧∃w1,w1.heap[w.heap.size]?=some (.cells #[.int .i64 0] 3)∧w1.heap[w.heap.size+1]?=some (.cells #[.int .i64 0] 32)∧Q w1∧w'=(((w1.alloc (.cells #[.int .i64 x,.int .i64 y] 168)).setCell ⟨w.heap.size,0,none⟩ (.int .i64 x)).setCell ⟨w.heap.size+1,0,none⟩ (.int .i64 y)).drew:=by
 have hmf:∀(fn:Fn)(first cap:Array Value)(w:World),(Instr.makeFunc fn first cap).run Tryz.prog w=.ok (.func fn first cap) w:=fun _ _ _ _=>rfl
 go_enter_defers Tryz.func35,Tryz.ntmps35
 go_wp2_with (go_at_call 36;refine hread.mono ?_;rintro e w1 ⟨rfl,h1,h2,hQ⟩)
 obtain⟨l1,l2,c1,c3,z1,z3,a1,a2⟩:=zyi h1 h2 (.cells #[.int .i64 x,.int .i64 y] 168);obtain⟨_,_,_,_,d1,d2⟩:=zg6 a1 a2 (.int .i64 x) (.int .i64 y);refine leaves_cons (f:=120) (args:=#[.pointer (some ⟨w.heap.size,0,none⟩),.pointer (some ⟨w.heap.size+1,0,none⟩)]) (by simp) (by simp[go_sem]) ?_;refine(zkt ⟨w.heap.size,0,none⟩ ⟨w.heap.size+1,0,none⟩ x y (.int .i64 0) (.int .i64 0) _ c1 c3 z1 z3 (by simp) l1 l2).mono ?_;rintro e u' w'' ⟨rfl,rfl,rfl⟩;simp[Leaves,settle,results,Tryz.results35,go_sem,d1,d2];exact⟨w1,h1,h2,hQ,rfl⟩
open Go.Eng Go.EV Go.EQ in
theorem Q5{m:M}{Z:ZM}{F:Heap}{w w':World}(hs:xV m Z F w)(h1:∀p∈F,∀b,blk m p b→w'.heap[b]?=w.heap[b]?)(h2:∀a x,Z a=some x→w'.heap[a.block]?=w.heap[a.block]?):xV m Z F w' :=
 ⟨fun a x ha=>(by simp only[World.cell?,h2 a x ha]:w'.cell? a=w.cell? a).trans (hs.frozen a x ha),fun p hp=>(hs.holds p hp).keep (fun _ _ _ e=>e) rfl (fun _ _ e=>e) fun b hb=>⟨h1 p hp b hb,fun _ _ e _=>e⟩,hs.nodup,hs.disj⟩
open Go.Eng Go.EV Go.EQ in
theorem Y6{m m':M}{Z Z':ZM}{F F':Heap}{w w2 w1 w3:World}{c:Nat}(h0:xV m Z F w)(h2:Step m Z F w2 m' Z' F' w1)(s2:w.heap.size+c≤w2.heap.size)
  (o2:w2.os=w.os) (t2:w2.tape=w.tape) (u2:w2.output=w.output) (e2:∀b,b<w.heap.size→w2.heap[b]?=w.heap[b]?) (o3:w3.os=w1.os) (t3:w3.tape=w1.tape) (u3:w3.output=w1.output)
  (s3:w1.heap.size≤w3.heap.size) (e3:∀b,b<w1.heap.size→(b<w.heap.size∨w.heap.size+c≤b)→w3.heap[b]?=w1.heap[b]?):Step m Z F w m' Z' F' w3:=by
 have hold:∀q∈F,∀b,blk m q b→b<w.heap.size:=fun q hq b hb=>(h0.holds q hq).blk b hb
 have hsz:=h2.size
 have hfr:∀a x,Z' a=some x→a.block<w.heap.size∨w.heap.size+c≤a.block:=fun a x ha=>by
  rcases h2.znew a x ha with h|h|⟨q,hq,hb⟩
  ·exact .inl (World.block_lt_of_cell? w a (h0.frozen a x h))
  ·exact .inr (Nat.le_trans s2 h)
  ·exact .inl (hold q hq _ hb)
 refine⟨Q5 h2.sim (fun p hp b hb=>e3 b ((h2.sim.holds p hp).blk b hb) ?_) (fun a x ha=>e3 a.block (World.block_lt_of_cell? w1 a (h2.sim.frozen a x ha)) (hfr a x ha)),h2.mext,h2.zext,o3.trans (h2.os.trans o2),t3.trans (h2.tape.trans t2),u3.trans (h2.output.trans u2),by omega,fun b hb hn=>?_,h2.keep,h2.newk,fun p hp b hb=>?_,fun a x ha=>?_⟩
 ·rcases h2.blks p hp b hb with h|⟨q,hq,hb⟩
  ·exact .inr (Nat.le_trans s2 h)
  ·exact .inl (hold q hq _ hb)
 ·exact(e3 b (by omega) (.inl hb)).trans ((h2.frame b (by omega) hn).trans (e2 b hb))
 ·exact(h2.blks p hp b hb).imp (fun h=>by omega) id
 ·exact(h2.znew a x ha).imp id (Or.imp (fun h=>by omega) id)
theorem xA(w:World)(o o':Obj)(b:Nat)(hb:b<w.heap.size):((w.alloc o).alloc o').heap[b]?=w.heap[b]? :=
 (Lib.alloc_old _ o' b (by rw[show(w.alloc o).heap.size=w.heap.size+1 from Array.size_push _];omega)).trans (Lib.alloc_old w o b hb)
theorem Ay(w:World)(o o':Obj):((w.alloc o).alloc o').heap.size=w.heap.size+2:=by
 rw[show((w.alloc o).alloc o').heap.size=(w.alloc o).heap.size+1 from Array.size_push _,show(w.alloc o).heap.size=w.heap.size+1 from Array.size_push _]
theorem vV(w:World)(o o':Obj):((w.alloc o).alloc o').heap[w.heap.size]?=some o∧((w.alloc o).alloc o').heap[w.heap.size+1]?=some o':=by
 have h:(w.alloc o).heap.size=w.heap.size+1:=Array.size_push _;exact⟨(Lib.alloc_old _ o' _ (by omega)).trans (World.alloc_heap_new w o),by rw[← h];exact World.alloc_heap_new _ o'⟩
open Go.Eng Go.EV Go.EQ in
theorem zku{F F':Heap}{pv a b:V}(h:FnA Tryz.prog 39 [a,b] F (.tup []) F'):FnA Tryz.prog 35 [pv,.fn 39 [] [a,b]] F (.tup [.int .i64 0,.int .i64 0]) F':=by
 intro w m Z vals hs hv hdom;obtain⟨p,xs,rfl,hp,hv⟩:=hv;obtain⟨q,ys,rfl,⟨l1,l2,rfl,r1,r2⟩,hv⟩:=hv;cases hv;cases r1;obtain⟨x1,_,rfl,k1,x2,_,rfl,k2,e⟩:=r2;cases e;have hs2:xV m Z F ((w.alloc (.cells #[.int .i64 0] 3)).alloc (.cells #[.int .i64 0] 32)):=Q5 hs (fun p hp b hb=>xA _ _ _ _ ((hs.holds p hp).blk b hb)) (fun a x ha=>xA _ _ _ _ (World.block_lt_of_cell? w a (hs.frozen a x ha)));have hsz:=Ay w (.cells #[.int .i64 0] 3) (.cells #[.int .i64 0] 32)
 have hnb:∀b,w.heap.size≤b→∀p∈F,¬blk m p b:=fun b hb p hp h=>absurd ((hs.holds p hp).blk b h) (by omega)
 have hr:=h _ m Z _ hs2 ⟨x1,_,rfl,k1,x2,_,rfl,k2,rfl⟩ hdom;refine Calls.mono (zDr p x1 x2 w (fun w1=>∃m' Z',Step m Z F ((w.alloc (.cells #[.int .i64 0] 3)).alloc (.cells #[.int .i64 0] 32)) m' Z' F' w1) (Calls.mono hr ?_)) ?_
 ·rintro en w1 ⟨x,m',Z',rfl,st,l,rfl,hl⟩
  cases hl;exact⟨rfl,(st.frame _ (by omega) (hnb _ (Nat.le_refl _))).trans (vV w _ _).1,(st.frame _ (by omega) (hnb _ (by omega))).trans (vV w _ _).2,_,_,st⟩
 ·rintro en w3 ⟨rfl,w1,h1,h2,⟨m',Z',st⟩,rfl⟩
  refine⟨_,m',Z',rfl,Y6 (c:=2) hs st (by omega) rfl rfl rfl (fun b hb=>xA _ _ _ _ hb) rfl rfl rfl ?_ ?_,[.int .i64 0,.int .i64 0],rfl,_,_,rfl,rfl,_,_,rfl,rfl,rfl⟩
  ·simp[World.setCell]
  ·intro b hb hor
   rw[Below.heap_setCell _ _ _ _ (fun e=>by simp only at e;omega),Below.heap_setCell _ _ _ _ (fun e=>by simp only at e;omega)]
open Go.Eng Go.EV Go.EQ in
theorem zg7{F:Heap}{pv a b:V}{x y:Int}(h:FnP Tryz.prog 39 [a,b] F (.iface 168 (.agg #[.int .i64 x,.int .i64 y]))):FnA Tryz.prog 35 [pv,.fn 39 [] [a,b]] F (.tup [.int .i64 x,.int .i64 y]) (zcx F):=by
 intro w m Z vals hs hv hdom;obtain⟨p,xs,rfl,hp,hv⟩:=hv;obtain⟨q,ys,rfl,⟨l1,l2,rfl,r1,r2⟩,hv⟩:=hv;cases hv;cases r1;obtain⟨x1,_,rfl,k1,x2,_,rfl,k2,e⟩:=r2;cases e;have hs2:xV m Z F ((w.alloc (.cells #[.int .i64 0] 3)).alloc (.cells #[.int .i64 0] 32)):=Q5 hs (fun p hp b hb=>xA _ _ _ _ ((hs.holds p hp).blk b hb)) (fun a x ha=>xA _ _ _ _ (World.block_lt_of_cell? w a (hs.frozen a x ha)));have hsz:=Ay w (.cells #[.int .i64 0] 3) (.cells #[.int .i64 0] 32)
 have hnb:∀b,w.heap.size≤b→∀p∈F,¬blk m p b:=fun b hb p hp h=>absurd ((hs.holds p hp).blk b h) (by omega)
 have hr:=h _ m Z _ hs2 ⟨x1,_,rfl,k1,x2,_,rfl,k2,rfl⟩ hdom;refine Calls.mono (zyj p x1 x2 x y w (fun w1=>∃m' Z',Step m Z F ((w.alloc (.cells #[.int .i64 0] 3)).alloc (.cells #[.int .i64 0] 32)) m' Z' (zcx F) w1) (Calls.mono hr ?_)) ?_
 ·rintro en w1 ⟨rfl,Z',lo⟩
  have st:=lo.step hs2;exact⟨rfl,(st.frame _ (by omega) (hnb _ (Nat.le_refl _))).trans (vV w _ _).1,(st.frame _ (by omega) (hnb _ (by omega))).trans (vV w _ _).2,_,_,st⟩
 ·rintro en w3 ⟨rfl,w1,h1,h2,⟨m',Z',st⟩,rfl⟩
  refine⟨_,m',Z',rfl,Y6 (c:=2) hs st (by omega) rfl rfl rfl (fun b hb=>xA _ _ _ _ hb) rfl rfl rfl ?_ ?_,[.int .i64 x,.int .i64 y],rfl,_,_,rfl,rfl,_,_,rfl,rfl,rfl⟩
  ·have hsa:(w1.alloc (.cells #[.int .i64 x,.int .i64 y] 168)).heap.size=w1.heap.size+1:=Array.size_push _
   simp[World.setCell]
  ·intro b hb hor
   show(World.setCell (World.setCell _ _ _) _ _).heap[b]?=_
   rw[Below.heap_setCell _ _ _ _ (fun e=>by simp only at e;omega),Below.heap_setCell _ _ _ _ (fun e=>by simp only at e;omega)];exact Lib.alloc_old _ _ _ hb
open Go.Eng Go.EV Go.EQ in
theorem zkv{F F':Heap}{pv a:V}(h:FnA Tryz.prog 36 [a] F (.tup []) F'):FnA Tryz.prog 35 [pv,.fn 36 [a] []] F (.tup [.int .i64 0,.int .i64 0]) F':=by
 intro w m Z vals hs hv hdom;obtain⟨p,xs,rfl,hp,hv⟩:=hv;obtain⟨q,ys,rfl,⟨l1,l2,rfl,r1,r2⟩,hv⟩:=hv;cases hv;cases r2;obtain⟨x1,_,rfl,k1,e⟩:=r1;cases e;have hs2:xV m Z F ((w.alloc (.cells #[.int .i64 0] 3)).alloc (.cells #[.int .i64 0] 32)):=Q5 hs (fun p hp b hb=>xA _ _ _ _ ((hs.holds p hp).blk b hb)) (fun a x ha=>xA _ _ _ _ (World.block_lt_of_cell? w a (hs.frozen a x ha)));have hsz:=Ay w (.cells #[.int .i64 0] 3) (.cells #[.int .i64 0] 32)
 have hnb:∀b,w.heap.size≤b→∀p∈F,¬blk m p b:=fun b hb p hp h=>absurd ((hs.holds p hp).blk b h) (by omega)
 have hr:=h _ m Z _ hs2 ⟨x1,_,rfl,k1,rfl⟩ hdom;refine Calls.mono (zDs p x1 w (fun w1=>∃m' Z',Step m Z F ((w.alloc (.cells #[.int .i64 0] 3)).alloc (.cells #[.int .i64 0] 32)) m' Z' F' w1) (Calls.mono hr ?_)) ?_
 ·rintro en w1 ⟨x,m',Z',rfl,st,l,rfl,hl⟩
  cases hl;exact⟨rfl,(st.frame _ (by omega) (hnb _ (Nat.le_refl _))).trans (vV w _ _).1,(st.frame _ (by omega) (hnb _ (by omega))).trans (vV w _ _).2,_,_,st⟩
 ·rintro en w3 ⟨rfl,w1,h1,h2,⟨m',Z',st⟩,rfl⟩
  refine⟨_,m',Z',rfl,Y6 (c:=2) hs st (by omega) rfl rfl rfl (fun b hb=>xA _ _ _ _ hb) rfl rfl rfl ?_ ?_,[.int .i64 0,.int .i64 0],rfl,_,_,rfl,rfl,_,_,rfl,rfl,rfl⟩
  ·simp[World.setCell]
  ·intro b hb hor
   rw[Below.heap_setCell _ _ _ _ (fun e=>by simp only at e;omega),Below.heap_setCell _ _ _ _ (fun e=>by simp only at e;omega)]
open Go.Eng Go.EV Go.EQ in
theorem zg8{F:Heap}{pv a:V}{x y:Int}(h:FnP Tryz.prog 36 [a] F (.iface 168 (.agg #[.int .i64 x,.int .i64 y]))):FnA Tryz.prog 35 [pv,.fn 36 [a] []] F (.tup [.int .i64 x,.int .i64 y]) (zcx F):=by
 intro w m Z vals hs hv hdom;obtain⟨p,xs,rfl,hp,hv⟩:=hv;obtain⟨q,ys,rfl,⟨l1,l2,rfl,r1,r2⟩,hv⟩:=hv;cases hv;cases r2;obtain⟨x1,_,rfl,k1,e⟩:=r1;cases e;have hs2:xV m Z F ((w.alloc (.cells #[.int .i64 0] 3)).alloc (.cells #[.int .i64 0] 32)):=Q5 hs (fun p hp b hb=>xA _ _ _ _ ((hs.holds p hp).blk b hb)) (fun a x ha=>xA _ _ _ _ (World.block_lt_of_cell? w a (hs.frozen a x ha)));have hsz:=Ay w (.cells #[.int .i64 0] 3) (.cells #[.int .i64 0] 32)
 have hnb:∀b,w.heap.size≤b→∀p∈F,¬blk m p b:=fun b hb p hp h=>absurd ((hs.holds p hp).blk b h) (by omega)
 have hr:=h _ m Z _ hs2 ⟨x1,_,rfl,k1,rfl⟩ hdom;refine Calls.mono (zyk p x1 x y w (fun w1=>∃m' Z',Step m Z F ((w.alloc (.cells #[.int .i64 0] 3)).alloc (.cells #[.int .i64 0] 32)) m' Z' (zcx F) w1) (Calls.mono hr ?_)) ?_
 ·rintro en w1 ⟨rfl,Z',lo⟩
  have st:=lo.step hs2;exact⟨rfl,(st.frame _ (by omega) (hnb _ (Nat.le_refl _))).trans (vV w _ _).1,(st.frame _ (by omega) (hnb _ (by omega))).trans (vV w _ _).2,_,_,st⟩
 ·rintro en w3 ⟨rfl,w1,h1,h2,⟨m',Z',st⟩,rfl⟩
  refine⟨_,m',Z',rfl,Y6 (c:=2) hs st (by omega) rfl rfl rfl (fun b hb=>xA _ _ _ _ hb) rfl rfl rfl ?_ ?_,[.int .i64 x,.int .i64 y],rfl,_,_,rfl,rfl,_,_,rfl,rfl,rfl⟩
  ·have hsa:(w1.alloc (.cells #[.int .i64 x,.int .i64 y] 168)).heap.size=w1.heap.size+1:=Array.size_push _
   simp[World.setCell]
  ·intro b hb hor
   show(World.setCell (World.setCell _ _ _) _ _).heap[b]?=_
   rw[Below.heap_setCell _ _ _ _ (fun e=>by simp only at e;omega),Below.heap_setCell _ _ _ _ (fun e=>by simp only at e;omega)];exact Lib.alloc_old _ _ _ hb
end Go.Proofs.YtffencjoddkghaaGreatDoor
