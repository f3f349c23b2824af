/- texts that the proof reaches, part 5 -/
import Derived.Test.YtmjfiffpolkdeaaGreatDoorKd
set_option linter.all false
open Go renaming Value->bu,World->bE
open Go.Proofs.Tryz renaming prog->bo
open List renaming mem_cons->bq,not_mem_nil->cU
open Option renaming some->bc,none->bh
set_option maxRecDepth 100000
namespace Go.Proofs.YtmjfiffpolkdeaaGreatDoor
open Go Go.ChangeShapes Go.WideShapes Go.ChangeAt Go.RowKit Go.Deep Go.Joins Go.EV
def N4(W:bE)(g:Nat)(ob:Go.Obj)(vs:List V):Prop:=W.heap[g]?=bc ob/\∃cur u fr,ob=.cells cur u fr/\zG bh W.cell? vs cur.toList
def zVj{W:bE}(h:W.ShapedOpen bo):∃ob m,N4 W 3 ob [.int .i64 m]:=by obtain⟨m,hm⟩:=Proofs.cell_of_shapedOpen_int (g:=3) (t:=3) (zero:=#[.int .i64 0]) (k:=.i64) h (lb (by kernel_rfl)) (by kernel_rfl) rfl (by kernel_rfl) (by kernel_rfl) Tryz.underlying3;obtain⟨cs,hh,hs,_⟩:=h.1 3 #[.int .i64 0] 3 (lb (by kernel_rfl)) (by kernel_rfl);obtain⟨cur,t,fr,h1,h2⟩:=zQk hm ⟨cs,3,hh,hs⟩;exact⟨_,m,h1,cur,t,fr,rfl,by rw[h2];exact⟨_,_,rfl,rfl,rfl⟩⟩
def zQl{W:bE}(h:laidMetH bo Dt W):∃CZ B_ B',N4 W 1 CZ (Gn.map V.str)/\N4 W 0 B_ (Lib.asciiSpaceTab.map (V.int .u8))/\N4 W 6 B' (Lib.pow10Tab.map (V.int .u64)):=by
 rw[MakeChecks.laidMetH_plain _ _ _ (by kernel_rfl)]at h;obtain⟨ps,⟨g0,t0,Hd,f0,p0,q0,hg0,ht0,B5,hd0,⟨g1,t1,DV,f1,p1,q1,hg1,ht1,hv1,hd1,⟨g2,t2,cs2,f2,p2,q2,RV,ht2,sI,RO,⟨g3,t3,cs3,f3,p3,q3,hg3,ht3,hv3,hd3,⟨g4,t4,cs4,f4,p4,q4,hg4,ht4,hv4,hd4,⟨g5,t5,cs5,f5,p5,q5,hg5,ht5,hv5,hd5,⟨g6,t6,cs6,f6,p6,q6,hg6,ht6,hv6,hd6,⟨g7,t7,cs7,f7,p7,q7,hg7,ht7,hv7,hd7,_⟩,_⟩,_⟩,_⟩,_⟩,_⟩,_⟩,_⟩,_⟩:=h
 obtain rfl := Option.some.inj ((show Tryz.prog.globalNamed "internal/strconv.uint64pow10" = bc 6 by kernel_rfl).symm.trans RV)
 obtain rfl := Option.some.inj ((show Tryz.prog.globalNamed "strings.asciiSpace" = bc 0 by kernel_rfl).symm.trans hg5)
 obtain rfl := Option.some.inj ((show Tryz.prog.globalNamed "greenbelt/lex.signs" = bc 1 by kernel_rfl).symm.trans hg6)
 obtain rfl:=Option.some.inj ((show(Tryz.prog.globals[6]?).map (·.type)=bc 328 by kernel_rfl).symm.trans ht2);obtain rfl:=Option.some.inj ((show(Tryz.prog.globals[0]?).map (·.type)=bc 240 by kernel_rfl).symm.trans ht5);obtain rfl:=Option.some.inj ((show(Tryz.prog.globals[1]?).map (·.type)=bc 249 by kernel_rfl).symm.trans ht6);obtain⟨a2,r2,e2⟩:=WX (by kernel_rfl) sI;obtain⟨a4,r4,e4⟩:=WX (by kernel_rfl) hv5;obtain⟨a5,r5,e5⟩:=WX (by kernel_rfl) hv6;have c2:=Lib.cells_of_tab (zs:=Lib.pow10Tab) Tryz.underlying328 Tryz.underlying314 (by kernel_rfl) (by kernel_rfl) RO;have c4:=Lib.cells_of_tab (zs:=Lib.asciiSpaceTab) Tryz.underlying240 Tryz.underlying5 (by kernel_rfl) (by kernel_rfl) hd5;have c5:=zjg (zs:=Gn) Tryz.underlying249 Tryz.underlying9 (by kernel_rfl) (by kernel_rfl) hd6;refine⟨_,_,_,⟨e5,_,_,_,rfl,?_⟩,⟨e4,_,_,_,rfl,?_⟩,⟨e2,_,_,_,rfl,?_⟩⟩
 .rw[show cs6.toList=Gn.map (λz=>Value.string ⟨z.toArray⟩) by first|(rw[c5])|(rw[<- c5])];exact Hq (enc:=V.str) (f:=λz=>Value.string ⟨z.toArray⟩) (λ_=>rfl) _
 .rw[show cs5.toList=Lib.asciiSpaceTab.map (Value.int .u8) by first|(rw[c4])|(rw[<- c4])];exact Hq (enc:=V.int .u8) (f:=Value.int .u8) (λ_=>rfl) _
 .rw[show cs2.toList=Lib.pow10Tab.map (Value.int .u64) by first|(rw[c2])|(rw[<- c2])];exact Hq (enc:=V.int .u64) (f:=Value.int .u64) (λ_=>rfl) _
def mG:M:=λk L=>if L=0 then(if k=900000000 then bc (1,1)else if k=900000001 then bc (0,1)else if k=900000002 then bc (3,1)else if k=900000003 then bc (6,1)else bh)else bh
def zCt{f:FuncId}{args:List V}{vals:List bu}{W:bE}(h:∀[JC],mx bo f args gl (.bool true) gl)(hL:laidMetH bo Dt W)(hS:W.ShapedOpen bo)(hv:zG bh W.cell? args vals):
  Calls bo f vals.toArray W λe W'=>e=.returned (.bool true)/\Below W.heap.size W W':=by
 obtain⟨CZ,B_,B',h0,h1,h3⟩:=zQl hL;obtain⟨C0,m,h2⟩:=zVj hS
 letI:JC:=⟨CZ,B_,C0,m,B'⟩
 have hle:∀(k L:Nat)(loc:Nat×Nat),mG k L=bc loc->L<=0:=λk L loc e=>by
  unfold mG at e;split at e
  .omega
  .cases e
 have hs:wo mG W.cell? gl W:=⟨λ_ _ h=>h,λp hp=>by
   simp only[gl,bq,cU,or_false]at hp
   rcases hp with rfl|rfl|rfl|rfl
   .exact⟨rfl,h0,hle _⟩
   .exact⟨rfl,h1,hle _⟩
   .exact⟨rfl,h2,hle _⟩
   .exact⟨rfl,h3,hle _⟩,yj ai,λp hp q hq b e1 e2=>by
   simp only[gl,bq,cU,or_false]at hp hq
   rcases hp with rfl|rfl|rfl|rfl<;>rcases hq with rfl|rfl|rfl|rfl<;>first|rfl|(cases e1;cases e2)⟩
 refine Calls.mono (h W mG W.cell? vals hs (zG.DI hv) λk hk L=>?_) ?_
 .have hk:k≠900000000/\k≠900000001/\k≠900000002/\k≠900000003:=by simpa[keys,gl]using hk
  unfold mG;split
  .rw[aO hk.1,aO hk.2.1,aO hk.2.2.1,aO hk.2.2.2]
  .rfl
 .rintro e W' ⟨x,m',Z',he,fS,hr⟩;refine⟨by rw[he];exact aQ _ hr,zx4 MX hs fS⟩
section
variable{H:Type}{enc:TypeId×bu->H}
def zm4{a:Assume}{C:Checked}{os:Os}{f:FuncId}{fn:Func}{s:ChangeSpec}{conds:List PathCond}{apart fresh handsOn again:Bool}{X:bE->Array bu->Prop}
  (hX:∀(w w':bE)(args:Array bu),w.heap=w'.heap->X w args->X w' args)
  (own:ownKnob C.prog.godebug=bh) (started:os.Started) (akF:C.prog.inits.idxOf? f=bh) (FD:C.prog.funcs[f]?=bc fn)
  (witness:∃(w:bE)(tape:Tape)(i:Input),w.os=os/\(w.forCall tape i).Shaped C.prog/\i.vars=[]/\Input.okWide C.prog (w.forCall tape i) .any w.heap.size f i /\
   ((s.pre enc C.prog fn conds apart (w.forCall tape i).memory i.args/\X (w.forCall tape i).memory i.args)/\sizedMet enc C.prog fn (OpenSpec.ofChange s) apart (w.forCall tape i).memory i.args)/\a.holds C.prog (lone (Frame.enter C.prog f i.args .normal) [] (w.forCall tape i)))
  (akL:∀(W:bE)(base:Nat)(args:Array bu)(ds gs:List (DataW H))(before:List MemPlace),
   (∀(j:Nat) t v,fn.params[j]?=bc t->args[j]?=bc v->Value.okWide C.prog W .any base t v) ->
   DataW.Whole enc C.prog fn.params.toList s.vars apart W args.toList ds gs before->W.ShapedOpen C.prog->X W args ->
   Calls C.prog f args W λe W'=>∃v,e=.returned v/\s.post enc C.prog fn apart fresh handsOn again W args v W'):
  ReturnsInHanded a C os f .any (λw args=>(s.pre enc C.prog fn conds apart w args/\X w args)/\sizedMet enc C.prog fn (OpenSpec.ofChange s) apart w args) (s.post enc C.prog fn apart fresh handsOn again):=by
 refine returnsInHanded_of_calls own started akF witness λw tape i _ nf _ tW su _=>?_
 obtain⟨_,_,_,fn',ahV,_,_,_,_,MA⟩:=tW;obtain rfl:fn'=fn:=Option.some.inj (ahV.symm.trans FD);obtain⟨⟨⟨ds,gs,before,hw,_⟩,hx⟩,_⟩:=su
 refine(akL (w.forCall tape i) w.heap.size i.args ds gs before MA (DataW.Whole.of_heap (w':=w.forCall tape i) ai hw) nf (hX _ _ _ ai hx)).mono λe W' ⟨v,he,hp⟩=>?_
 subst he;exact ChangeSpec.post_blind hp
end
end Go.Proofs.YtmjfiffpolkdeaaGreatDoor
