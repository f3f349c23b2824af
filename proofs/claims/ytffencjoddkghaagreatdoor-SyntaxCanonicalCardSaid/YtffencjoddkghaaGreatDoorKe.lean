/- texts that the proof reaches, part 5 -/
import Derived.Test.YtffencjoddkghaaGreatDoorKd
set_option linter.all false
open Go renaming Value->bu,World->bG
open Go.Proofs.Tryz renaming prog->bq
open List renaming mem_cons->bp,not_mem_nil->dS
open Option renaming some->bc,none->bh
set_option maxRecDepth 100000
namespace Go.Proofs.YtffencjoddkghaaGreatDoor
open Go Go.ChangeShapes Go.WideShapes Go.ChangeAt Go.RowKit Go.Deep Go.Joins Go.EV
def zI8(W:bG)(g:Nat)(ob:Go.Obj)(vs:List V):Prop:=W.heap[g]?=bc ob/\∃cur u fr,ob=.cells cur u fr/\zT bh W.cell? vs cur.toList
def zVp{W:bG}(h:W.ShapedOpen bq):∃ob m,zI8 W 3 ob [.int .i64 m]:=by
 obtain⟨m,hm⟩:=Proofs.cell_of_shapedOpen_int (g:=3) (t:=3) (zero:=#[.int .i64 0]) (k:=.i64) h (lb (by kernel_rfl)) (by kernel_rfl) rfl (by kernel_rfl) (by kernel_rfl) Tryz.underlying3;obtain⟨cs,hh,hs,_⟩:=h.1 3 #[.int .i64 0] 3 (lb (by kernel_rfl)) (by kernel_rfl);obtain⟨cur,t,fr,h1,h2⟩:=zQx hm ⟨cs,3,hh,hs⟩;exact⟨_,m,h1,cur,t,fr,rfl,by rw[h2];exact⟨_,_,rfl,rfl,rfl⟩⟩
def zQy{W:bG}(h:laidMetH bq zx6 W):∃ob0 ob1 ob3,zI8 W 0 ob0 (zgr.map V.str)/\zI8 W 1 ob1 (Lib.asciiSpaceTab.map (V.int .u8))/\zI8 W 4 ob3 (Lib.pow10Tab.map (V.int .u64)):=by
 rw[MakeChecks.laidMetH_plain _ _ _ (by kernel_rfl)]at h;obtain⟨ps,⟨g0,t0,cs0,f0,p0,q0,hg0,ht0,hv0,hd0,⟨g1,t1,cs1,f1,p1,q1,hg1,ht1,hv1,hd1,⟨g2,t2,cs2,f2,p2,q2,hg2,ht2,hv2,hd2,⟨g3,t3,cs3,f3,p3,q3,hg3,ht3,hv3,hd3,⟨g4,t4,cs4,f4,p4,q4,hg4,ht4,hv4,hd4,⟨g5,t5,cs5,f5,p5,q5,hg5,ht5,hv5,hd5,_⟩,_⟩,_⟩,_⟩,_⟩,_⟩,_⟩:=h
 obtain rfl := Option.some.inj ((show Tryz.prog.globalNamed "internal/strconv.uint64pow10" = bc 4 by kernel_rfl).symm.trans hg2)
 obtain rfl := Option.some.inj ((show Tryz.prog.globalNamed "strings.asciiSpace" = bc 1 by kernel_rfl).symm.trans hg4)
 obtain rfl := Option.some.inj ((show Tryz.prog.globalNamed "greenbelt/lex.signs" = bc 0 by kernel_rfl).symm.trans hg5)
 obtain rfl:=Option.some.inj ((show(Tryz.prog.globals[4]?).map (·.type)=bc 263 by kernel_rfl).symm.trans ht2);obtain rfl:=Option.some.inj ((show(Tryz.prog.globals[1]?).map (·.type)=bc 205 by kernel_rfl).symm.trans ht4);obtain rfl:=Option.some.inj ((show(Tryz.prog.globals[0]?).map (·.type)=bc 200 by kernel_rfl).symm.trans ht5);obtain⟨a2,r2,e2⟩:=zjp (by kernel_rfl) hv2;obtain⟨a4,r4,e4⟩:=zjp (by kernel_rfl) hv4;obtain⟨a5,r5,e5⟩:=zjp (by kernel_rfl) hv5;have c2:=Lib.cells_of_tab (zs:=Lib.pow10Tab) Tryz.underlying263 Tryz.underlying254 (by kernel_rfl) (by kernel_rfl) hd2;have c4:=Lib.cells_of_tab (zs:=Lib.asciiSpaceTab) Tryz.underlying205 Tryz.underlying5 (by kernel_rfl) (by kernel_rfl) hd4;have c5:=zjq (zs:=zgr) Tryz.underlying200 Tryz.underlying9 (by kernel_rfl) (by kernel_rfl) hd5;refine⟨_,_,_,⟨e5,_,_,_,rfl,?_⟩,⟨e4,_,_,_,rfl,?_⟩,⟨e2,_,_,_,rfl,?_⟩⟩
 ·rw[show cs5.toList=zgr.map (λz=>Value.string ⟨z.toArray⟩) by first|(rw[c5])|(rw[<- c5])]
  exact H7 (enc:=V.str) (f:=λz=>Value.string ⟨z.toArray⟩) (λ_=>rfl) _
 ·rw[show cs4.toList=Lib.asciiSpaceTab.map (Value.int .u8) by first|(rw[c4])|(rw[<- c4])]
  exact H7 (enc:=V.int .u8) (f:=Value.int .u8) (λ_=>rfl) _
 ·rw[show cs2.toList=Lib.pow10Tab.map (Value.int .u64) by first|(rw[c2])|(rw[<- c2])]
  exact H7 (enc:=V.int .u64) (f:=Value.int .u64) (λ_=>rfl) _
def mG:M:=λk L=>if L=0 then(if k=900000000 then bc (0,1)else if k=900000001 then bc (1,1)else if k=900000002 then bc (3,1)else if k=900000003 then bc (4,1)else bh)else bh
def zCp{f:FuncId}{args:List V}{vals:List bu}{W:bG}(h:∀[Vl],FnA bq f args gl (.bool true) gl)(hL:laidMetH bq zx6 W)(hS:W.ShapedOpen bq)(hv:zT bh W.cell? args vals):
  Calls bq f vals.toArray W λe W'=>e=.returned (.bool true)/\Below W.heap.size W W':=by
 obtain⟨ob0,ob1,ob3,h0,h1,h3⟩:=zQy hL;obtain⟨ob2,m,h2⟩:=zVp hS
 letI:Vl:=⟨ob0,ob1,ob2,m,ob3⟩
 have hle:∀(k L:Nat)(loc:Nat×Nat),mG k L=bc loc->L<=0:=λk L loc e=>by
  unfold mG at e;split at e
  ·omega
  ·cases e
 have hs:wQ mG W.cell? gl W:=⟨λ_ _ h=>h,λp hp=>by
   simp only[gl,bp,dS,or_false]at hp
   rcases hp with rfl|rfl|rfl|rfl
   ·exact⟨rfl,h0,hle _⟩
   ·exact⟨rfl,h1,hle _⟩
   ·exact⟨rfl,h2,hle _⟩
   ·exact⟨rfl,h3,hle _⟩,yz ai,λp hp q hq b e1 e2=>by
   simp only[gl,bp,dS,or_false]at hp hq
   rcases hp with rfl|rfl|rfl|rfl<;>rcases hq with rfl|rfl|rfl|rfl<;>first|rfl|(cases e1;cases e2)⟩
 refine Calls.mono (h W mG W.cell? vals hs (zT.none_some hv) λk hk L=>?_) ?_
 ·have hk:k≠900000000/\k≠900000001/\k≠900000002/\k≠900000003:=by simpa[keys,gl]using hk
  unfold mG;split
  ·rw[aO hk.1,aO hk.2.1,aO hk.2.2.1,aO hk.2.2.2]
  ·rfl
 ·rintro e W' ⟨x,m',Z',he,hst,hr⟩
  refine⟨by rw[he];exact aQ _ hr,zx5 glB hs hst⟩
section
variable{H:Type}{enc:TypeId×bu->H}
def znj{a:Assume}{C:Checked}{os:Os}{f:FuncId}{fn:Func}{s:ChangeSpec}{conds:List PathCond}{apart fresh handsOn again:Bool}{X:bG->Array bu->Prop}
  (hX:∀(w w':bG)(args:Array bu),w.heap=w'.heap->X w args->X w' args)
  (own:ownKnob C.prog.godebug=bh) (started:os.Started) (noInit:C.prog.inits.idxOf? f=bh) (hfn:C.prog.funcs[f]?=bc fn)
  (witness:∃(w:bG)(tape:Tape)(i:Input),w.os=os/\(w.forCall tape i).Shaped C.prog/\i.vars=[]/\Input.okWide C.prog (w.forCall tape i) .any w.heap.size f i /\
   ((s.pre enc C.prog fn conds apart (w.forCall tape i).memory i.args/\X (w.forCall tape i).memory i.args)/\sizedMet enc C.prog fn (OpenSpec.ofChange s) apart (w.forCall tape i).memory i.args)/\a.holds C.prog (lone (Frame.enter C.prog f i.args .normal) [] (w.forCall tape i)))
  (contract:∀(W:bG)(base:Nat)(args:Array bu)(ds gs:List (DataW H))(before:List MemPlace),
   (∀(j:Nat) t v,fn.params[j]?=bc t->args[j]?=bc v->Value.okWide C.prog W .any base t v) ->
   DataW.Whole enc C.prog fn.params.toList s.vars apart W args.toList ds gs before->W.ShapedOpen C.prog->X W args ->
   Calls C.prog f args W λe W'=>∃v,e=.returned v/\s.post enc C.prog fn apart fresh handsOn again W args v W'):
  ReturnsInHanded a C os f .any (λw args=>(s.pre enc C.prog fn conds apart w args/\X w args)/\sizedMet enc C.prog fn (OpenSpec.ofChange s) apart w args) (s.post enc C.prog fn apart fresh handsOn again):=by
 refine returnsInHanded_of_calls own started noInit witness λw tape i _ hsh _ hok hpre _=>?_
 obtain⟨_,_,_,fn',hfn',_,_,_,_,hval⟩:=hok;obtain rfl:fn'=fn:=Option.some.inj (hfn'.symm.trans hfn);obtain⟨⟨⟨ds,gs,before,hw,_⟩,hx⟩,_⟩:=hpre
 refine(contract (w.forCall tape i) w.heap.size i.args ds gs before hval (DataW.Whole.of_heap (w':=w.forCall tape i) ai hw) hsh (hX _ _ _ ai hx)).mono λe W' ⟨v,he,hp⟩=>?_
 subst he;exact ChangeSpec.post_blind hp
end
end Go.Proofs.YtffencjoddkghaaGreatDoor
