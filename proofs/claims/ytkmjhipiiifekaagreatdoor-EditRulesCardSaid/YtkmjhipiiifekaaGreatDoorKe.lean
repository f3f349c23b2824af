/- texts that the proof reaches, part 5 -/
import Derived.Test.YtkmjhipiiifekaaGreatDoorKd
set_option linter.all false
open Go renaming Value->bw,World->bG
open Go.Proofs.Tryz renaming prog->bj
open List renaming mem_cons->bo,not_mem_nil->gB
open Option renaming some->aY,none->bh
set_option maxRecDepth 100000
namespace Go.Proofs.YtkmjhipiiifekaaGreatDoor
open Go Go.ChangeShapes Go.WideShapes Go.ChangeAt Go.RowKit Go.Deep Go.Joins Go.EV
def Gn(W:bG)(g:Nat)(ob:Go.Obj)(vs:List V):Prop:=W.heap[g]?=aY ob/\∃cur u fr,ob=.cells cur u fr/\zu bh W.cell? vs cur.toList
def zBu{W:bG}(h:W.ShapedOpen bj):∃ob m,Gn W 3 ob [.int .i64 m]:=by obtain⟨m,hm⟩:=Proofs.cell_of_shapedOpen_int (g:=3) (t:=3) (zero:=#[.int .i64 0]) (k:=.i64) h (lR (by kernel_rfl)) (by kernel_rfl) rfl (by kernel_rfl) (by kernel_rfl) Tryz.underlying3;obtain⟨cs,hh,hs,_⟩:=h.1 3 #[.int .i64 0] 3 (lR (by kernel_rfl)) (by kernel_rfl);obtain⟨cur,t,fr,h1,h2⟩:=zxw hm ⟨cs,3,hh,hs⟩;exact⟨_,m,h1,cur,t,fr,rfl,by rw[h2];exact⟨_,_,rfl,rfl,rfl⟩⟩
def zxx{W:bG}(h:laidMetH bj tH W):∃Ba Bb tB,Gn W 0 Ba (YR.map V.str)/\Gn W 1 Bb (Lib.asciiSpaceTab.map (V.int .u8))/\Gn W 6 tB (Lib.pow10Tab.map (V.int .u64)):=by
 rw[MakeChecks.laidMetH_plain _ _ _ (by kernel_rfl)]at h;obtain⟨ps,⟨g0,t0,CV,f0,p0,aao,hg0,ht0,tA,hd0,⟨g1,t1,cs1,f1,p1,q1,hg1,ht1,hv1,hd1,⟨g2,t2,cs2,f2,p2,q2,hg2,ht2,pr,hd2,⟨g3,t3,cs3,f3,p3,q3,hg3,ht3,hv3,hd3,⟨g4,t4,cs4,f4,p4,q4,hg4,ht4,hv4,hd4,⟨g5,t5,cs5,f5,afp,q5,hg5,ht5,hv5,hd5,⟨g6,t6,cs6,f6,afq,afs,hg6,ht6,hv6,hd6,⟨g7,t7,cs7,f7,afr,afu,hg7,ht7,hv7,hd7,_⟩,_⟩,_⟩,_⟩,_⟩,_⟩,_⟩,_⟩,_⟩:=h
 obtain rfl := Option.some.inj ((show Tryz.prog.globalNamed "internal/strconv.uint64pow10" = aY 6 by kernel_rfl).symm.trans hg2)
 obtain rfl := Option.some.inj ((show Tryz.prog.globalNamed "strings.asciiSpace" = aY 1 by kernel_rfl).symm.trans hg5)
 obtain rfl := Option.some.inj ((show Tryz.prog.globalNamed "greenbelt/lex.signs" = aY 0 by kernel_rfl).symm.trans hg6)
 obtain rfl:=Option.some.inj ((show(Tryz.prog.globals[6]?).map (·.type)=aY 379 by kernel_rfl).symm.trans ht2);obtain rfl:=Option.some.inj ((show(Tryz.prog.globals[1]?).map (·.type)=aY 281 by kernel_rfl).symm.trans ht5);obtain rfl:=Option.some.inj ((show(Tryz.prog.globals[0]?).map (·.type)=aY 264 by kernel_rfl).symm.trans ht6);obtain⟨a2,r2,e2⟩:=Ln (by kernel_rfl) pr;obtain⟨a4,r4,e4⟩:=Ln (by kernel_rfl) hv5;obtain⟨a5,r5,e5⟩:=Ln (by kernel_rfl) hv6;have c2:=Lib.cells_of_tab (zs:=Lib.pow10Tab) Tryz.underlying379 Tryz.underlying357 (by kernel_rfl) (by kernel_rfl) hd2;have c4:=Lib.cells_of_tab (zs:=Lib.asciiSpaceTab) Tryz.underlying281 Tryz.underlying5 (by kernel_rfl) (by kernel_rfl) hd5;have c5:=zah (zs:=YR) Tryz.underlying264 Tryz.underlying9 (by kernel_rfl) (by kernel_rfl) hd6;refine⟨_,_,_,⟨e5,_,_,_,rfl,?_⟩,⟨e4,_,_,_,rfl,?_⟩,⟨e2,_,_,_,rfl,?_⟩⟩
 .rw[show cs6.toList=YR.map (λz=>Value.string ⟨z.toArray⟩) by first|(rw[c5])|(rw[<- c5])];exact kU (enc:=V.str) (f:=λz=>Value.string ⟨z.toArray⟩) (λ_=>rfl) _
 .rw[show cs5.toList=Lib.asciiSpaceTab.map (Value.int .u8) by first|(rw[c4])|(rw[<- c4])];exact kU (enc:=V.int .u8) (f:=Value.int .u8) (λ_=>rfl) _
 .rw[show cs2.toList=Lib.pow10Tab.map (Value.int .u64) by first|(rw[c2])|(rw[<- c2])];exact kU (enc:=V.int .u64) (f:=Value.int .u64) (λ_=>rfl) _
def mG:M:=λk L=>if L=0 then(if k=900000000 then aY (0,1)else if k=900000001 then aY (1,1)else if k=900000002 then aY (3,1)else if k=900000003 then aY (6,1)else bh)else bh
def zou{f:FuncId}{args:List V}{vals:List bw}{W:bG}(h:∀[Jg],mN bj f args gl (.bool true) gl)(hL:laidMetH bj tH W)(hS:W.ShapedOpen bj)(hv:zu bh W.cell? args vals):
  Calls bj f vals.toArray W λe W'=>e=.returned (.bool true)/\Below W.heap.size W W':=by
 obtain⟨Ba,Bb,tB,h0,h1,h3⟩:=zxx hL;obtain⟨Bc,m,h2⟩:=zBu hS
 letI:Jg:=⟨Ba,Bb,Bc,m,tB⟩
 have hle:∀(k L:Nat)(loc:Nat×Nat),mG k L=aY loc->L<=0:=λk L loc e=>by
  unfold mG at e;split at e
  .omega
  .cases e
 have hs:kp mG W.cell? gl W:=⟨λ_ _ h=>h,λp hp=>by
   simp only[gl,bo,gB,or_false]at hp
   rcases hp with rfl|rfl|rfl|rfl
   .exact⟨rfl,h0,hle _⟩
   .exact⟨rfl,h1,hle _⟩
   .exact⟨rfl,h2,hle _⟩
   .exact⟨rfl,h3,hle _⟩,yn ah,λp hp q hq b e1 e2=>by
   simp only[gl,bo,gB,or_false]at hp hq
   rcases hp with rfl|rfl|rfl|rfl<;>rcases hq with rfl|rfl|rfl|rfl<;>first|rfl|(cases e1;cases e2)⟩
 refine Calls.mono (h W mG W.cell? vals hs (zu.tV hv) λk hk L=>?_) ?_
 .have hk:k≠900000000/\k≠900000001/\k≠900000002/\k≠900000003:=by simpa[keys,gl]using hk
  unfold mG;split
  .rw[aN hk.1,aN hk.2.1,aN hk.2.2.1,aN hk.2.2.2]
  .rfl
 .rintro e W' ⟨x,m',Z',he,iy,hr⟩;refine⟨by rw[he];exact aP _ hr,zkw ED hs iy⟩
section
variable{H:Type}{enc:TypeId×bw->H}
def zcr{a:Assume}{C:Checked}{os:Os}{f:FuncId}{fn:Func}{s:ChangeSpec}{conds:List PathCond}{apart fresh handsOn again:Bool}{X:bG->Array bw->Prop}
  (hX:∀(w w':bG)(args:Array bw),w.heap=w'.heap->X w args->X w' args)
  (own:ownKnob C.prog.godebug=bh) (started:os.Started) (ae4:C.prog.inits.idxOf? f=bh) (Ca:C.prog.funcs[f]?=aY fn)
  (witness:∃(w:bG)(tape:Tape)(i:Input),w.os=os/\(w.forCall tape i).Shaped C.prog/\i.vars=[]/\Input.okWide C.prog (w.forCall tape i) .any w.heap.size f i /\
   ((s.pre enc C.prog fn conds apart (w.forCall tape i).memory i.args/\X (w.forCall tape i).memory i.args)/\sizedMet enc C.prog fn (OpenSpec.ofChange s) apart (w.forCall tape i).memory i.args)/\a.holds C.prog (lone (Frame.enter C.prog f i.args .normal) [] (w.forCall tape i)))
  (ae_:∀(W:bG)(base:Nat)(args:Array bw)(ds gs:List (DataW H))(before:List MemPlace),
   (∀(j:Nat) t v,fn.params[j]?=aY t->args[j]?=aY v->Value.okWide C.prog W .any base t v) ->
   DataW.Whole enc C.prog fn.params.toList s.vars apart W args.toList ds gs before->W.ShapedOpen C.prog->X W args ->
   Calls C.prog f args W λe W'=>∃v,e=.returned v/\s.post enc C.prog fn apart fresh handsOn again W args v W'):
  ReturnsInHanded a C os f .any (λw args=>(s.pre enc C.prog fn conds apart w args/\X w args)/\sizedMet enc C.prog fn (OpenSpec.ofChange s) apart w args) (s.post enc C.prog fn apart fresh handsOn again):=by
 refine returnsInHanded_of_calls own started ae4 witness λw tape i _ mW _ hok Ei _=>?_
 obtain⟨_,_,_,fn',ab2,_,_,_,_,tT⟩:=hok;obtain rfl:fn'=fn:=Option.some.inj (ab2.symm.trans Ca);obtain⟨⟨⟨ds,gs,before,hw,_⟩,hx⟩,_⟩:=Ei
 refine(ae_ (w.forCall tape i) w.heap.size i.args ds gs before tT (DataW.Whole.of_heap (w':=w.forCall tape i) ah hw) mW (hX _ _ _ ah hx)).mono λe W' ⟨v,he,hp⟩=>?_
 subst he;exact ChangeSpec.post_blind hp
end
end Go.Proofs.YtkmjhipiiifekaaGreatDoor
