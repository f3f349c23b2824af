/- texts that the proof reaches, part 5 -/
import Derived.Test.YthnokpghgeppdaaGreatDoorKd
set_option linter.all false
set_option maxRecDepth 100000
namespace Go.Proofs.YthnokpghgeppdaaGreatDoor
open Go Go.ChangeShapes Go.WideShapes Go.ChangeAt Go.RowKit Go.Deep Go.Joins Go.EV
def zs2(W:World)(g:Nat)(ob:Go.Obj)(vs:List V):Prop:=W.heap[g]?=some ob∧∃cur u fr,ob=.cells cur u fr∧zo none W.cell? vs cur.toList
theorem zA6{W:World}(h:W.ShapedOpen Tryz.prog):∃ob m,zs2 W 3 ob [.int .i64 m]:=by
 obtain⟨m,hm⟩:=Proofs.cell_of_shapedOpen_int (g:=3) (t:=3) (zero:=#[.int .i64 0]) (k:=.i64) h (Nat.le_of_ble_eq_true (by kernel_rfl)) (by kernel_rfl) rfl (by kernel_rfl) (by kernel_rfl) Tryz.underlying3;obtain⟨cs,hh,hs,_⟩:=h.1 3 #[.int .i64 0] 3 (Nat.le_of_ble_eq_true (by kernel_rfl)) (by kernel_rfl);obtain⟨cur,t,fr,h1,h2⟩:=zxm hm ⟨cs,3,hh,hs⟩;exact⟨_,m,h1,cur,t,fr,rfl,by rw[h2];exact⟨_,_,rfl,rfl,rfl⟩⟩
theorem zxn{W:World}(h:laidMetH Tryz.prog zb0 W):∃ob0 ob1 ob3,zs2 W 1 ob0 (W5.map V.str)∧zs2 W 0 ob1 (Lib.asciiSpaceTab.map (V.int .u8))∧zs2 W 6 ob3 (Lib.pow10Tab.map (V.int .u64)):=by
 rw[MakeChecks.laidMetH_plain _ _ _ (by kernel_rfl)]at h;obtain⟨ps,⟨g0,t0,cs0,f0,p0,q0,hg0,ht0,hv0,hd0,⟨g1,t1,cs1,f1,p1,q1,hg1,ht1,hv1,hd1,⟨g2,t2,cs2,f2,p2,q2,hg2,ht2,hv2,hd2,⟨g3,t3,cs3,f3,p3,q3,hg3,ht3,hv3,hd3,⟨g4,t4,cs4,f4,p4,q4,hg4,ht4,hv4,hd4,⟨g5,t5,cs5,f5,p5,q5,hg5,ht5,hv5,hd5,⟨g6,t6,cs6,f6,p6,q6,hg6,ht6,hv6,hd6,⟨g7,t7,cs7,f7,p7,q7,hg7,ht7,hv7,hd7,_⟩,_⟩,_⟩,_⟩,_⟩,_⟩,_⟩,_⟩,_⟩:=h
 obtain rfl := Option.some.inj ((show Tryz.prog.globalNamed "internal/strconv.uint64pow10" = some 6 by kernel_rfl).symm.trans hg2)
 obtain rfl := Option.some.inj ((show Tryz.prog.globalNamed "strings.asciiSpace" = some 0 by kernel_rfl).symm.trans hg5)
 obtain rfl := Option.some.inj ((show Tryz.prog.globalNamed "greenbelt/lex.signs" = some 1 by kernel_rfl).symm.trans hg6)
 obtain rfl:=Option.some.inj ((show(Tryz.prog.globals[6]?).map (·.type)=some 363 by kernel_rfl).symm.trans ht2);obtain rfl:=Option.some.inj ((show(Tryz.prog.globals[0]?).map (·.type)=some 272 by kernel_rfl).symm.trans ht5);obtain rfl:=Option.some.inj ((show(Tryz.prog.globals[1]?).map (·.type)=some 287 by kernel_rfl).symm.trans ht6);obtain⟨a2,r2,e2⟩:=ZE (by kernel_rfl) hv2;obtain⟨a4,r4,e4⟩:=ZE (by kernel_rfl) hv5;obtain⟨a5,r5,e5⟩:=ZE (by kernel_rfl) hv6;have c2:=Lib.cells_of_tab (zs:=Lib.pow10Tab) Tryz.underlying363 Tryz.underlying350 (by kernel_rfl) (by kernel_rfl) hd2;have c4:=Lib.cells_of_tab (zs:=Lib.asciiSpaceTab) Tryz.underlying272 Tryz.underlying5 (by kernel_rfl) (by kernel_rfl) hd5;have c5:=ZF (zs:=W5) Tryz.underlying287 Tryz.underlying9 (by kernel_rfl) (by kernel_rfl) hd6;refine⟨_,_,_,⟨e5,_,_,_,rfl,?_⟩,⟨e4,_,_,_,rfl,?_⟩,⟨e2,_,_,_,rfl,?_⟩⟩
 ·rw[show cs6.toList=W5.map (fun z=>Value.string ⟨z.toArray⟩) by first|(rw[c5])|(rw[← c5])]
  exact qW (enc:=V.str) (f:=fun z=>Value.string ⟨z.toArray⟩) (fun _=>rfl) _
 ·rw[show cs5.toList=Lib.asciiSpaceTab.map (Value.int .u8) by first|(rw[c4])|(rw[← c4])]
  exact qW (enc:=V.int .u8) (f:=Value.int .u8) (fun _=>rfl) _
 ·rw[show cs2.toList=Lib.pow10Tab.map (Value.int .u64) by first|(rw[c2])|(rw[← c2])]
  exact qW (enc:=V.int .u64) (f:=Value.int .u64) (fun _=>rfl) _
def mG:M:=fun k L=>if L=0 then(if k=900000000 then some (1,1)else if k=900000001 then some (0,1)else if k=900000002 then some (3,1)else if k=900000003 then some (6,1)else none)else none
theorem zom{f:FuncId}{args:List V}{vals:List Value}{W:World}(h:∀[Hx],FnA Tryz.prog f args gl (.bool true) gl)(hL:laidMetH Tryz.prog zb0 W)(hS:W.ShapedOpen Tryz.prog)(hv:zo none W.cell? args vals):
  Calls Tryz.prog f vals.toArray W fun e W'=>e=.returned (.bool true)∧Below W.heap.size W W':=by
 obtain⟨ob0,ob1,ob3,h0,h1,h3⟩:=zxn hL;obtain⟨ob2,m,h2⟩:=zA6 hS
 letI:Hx:=⟨ob0,ob1,ob2,m,ob3⟩
 have hle:∀(k L:Nat)(loc:Nat×Nat),mG k L=some loc→L≤0:=fun k L loc e=>by
  unfold mG at e;split at e
  ·omega
  ·cases e
 have hs:xx mG W.cell? gl W:=⟨fun _ _ h=>h,fun p hp=>by
   simp only[gl,List.mem_cons,List.not_mem_nil,or_false]at hp
   rcases hp with rfl|rfl|rfl|rfl
   ·exact⟨rfl,h0,hle _⟩
   ·exact⟨rfl,h1,hle _⟩
   ·exact⟨rfl,h2,hle _⟩
   ·exact⟨rfl,h3,hle _⟩,zM (by rfl),fun p hp q hq b e1 e2=>by
   simp only[gl,List.mem_cons,List.not_mem_nil,or_false]at hp hq
   rcases hp with rfl|rfl|rfl|rfl<;>rcases hq with rfl|rfl|rfl|rfl<;>first|rfl|(cases e1;cases e2)⟩
 refine Calls.mono (h W mG W.cell? vals hs (zo.none_some hv) fun k hk L=>?_) ?_
 ·have hk:k≠900000000∧k≠900000001∧k≠900000002∧k≠900000003:=by simpa[keys,gl]using hk
  unfold mG;split
  ·rw[if_neg hk.1,if_neg hk.2.1,if_neg hk.2.2.1,if_neg hk.2.2.2]
  ·rfl
 ·rintro e W' ⟨x,m',Z',he,hst,hr⟩
  refine⟨by rw[he];exact congrArg _ hr,zkk glB hs hst⟩
section
variable{H:Type}{enc:TypeId×Value→H}
theorem zb1{a:Assume}{C:Checked}{os:Os}{f:FuncId}{fn:Func}{s:ChangeSpec}{conds:List PathCond}{apart fresh handsOn again:Bool}{X:World→Array Value→Prop}
  (hX:∀(w w':World)(args:Array Value),w.heap=w'.heap→X w args→X w' args)
  (own:ownKnob C.prog.godebug=none) (started:os.Started) (noInit:C.prog.inits.idxOf? f=none) (hfn:C.prog.funcs[f]?=some fn)
  (witness:∃(w:World)(tape:Tape)(i:Input),w.os=os∧(w.forCall tape i).Shaped C.prog∧i.vars=[]∧Input.okWide C.prog (w.forCall tape i) .any w.heap.size f i ∧
   ((s.pre enc C.prog fn conds apart (w.forCall tape i).memory i.args∧X (w.forCall tape i).memory i.args)∧sizedMet enc C.prog fn (OpenSpec.ofChange s) apart (w.forCall tape i).memory i.args)∧a.holds C.prog (lone (Frame.enter C.prog f i.args .normal) [] (w.forCall tape i)))
  (contract:∀(W:World)(base:Nat)(args:Array Value)(ds gs:List (DataW H))(before:List MemPlace),
   (∀(j:Nat) t v,fn.params[j]?=some t→args[j]?=some v→Value.okWide C.prog W .any base t v) →
   DataW.Whole enc C.prog fn.params.toList s.vars apart W args.toList ds gs before→W.ShapedOpen C.prog→X W args →
   Calls C.prog f args W fun e W'=>∃v,e=.returned v∧s.post enc C.prog fn apart fresh handsOn again W args v W'):
  ReturnsInHanded a C os f .any (fun w args=>(s.pre enc C.prog fn conds apart w args∧X w args)∧sizedMet enc C.prog fn (OpenSpec.ofChange s) apart w args) (s.post enc C.prog fn apart fresh handsOn again):=by
 refine returnsInHanded_of_calls own started noInit witness fun w tape i _ hsh _ hok hpre _=>?_
 obtain⟨_,_,_,fn',hfn',_,_,_,_,hval⟩:=hok;obtain rfl:fn'=fn:=Option.some.inj (hfn'.symm.trans hfn);obtain⟨⟨⟨ds,gs,before,hw,_⟩,hx⟩,_⟩:=hpre
 refine(contract (w.forCall tape i) w.heap.size i.args ds gs before hval (DataW.Whole.of_heap (w':=w.forCall tape i) (by rfl) hw) hsh (hX _ _ _ (by rfl) hx)).mono fun e W' ⟨v,he,hp⟩=>?_
 subst he;exact ChangeSpec.post_blind hp
end
end Go.Proofs.YthnokpghgeppdaaGreatDoor
