/- SyntaxPrints answers true whatever the input, and leaves the input as it was; the listed package variables start as the program's text lays them. -/
import Derived.Test.YtffencjoddkghaaGreatDoorKl
set_option linter.all false
namespace Go.Proofs.YtffencjoddkghaaGreatDoor
open Go Go.ChangeShapes Go.WideShapes Go.ChangeAt Go.RowKit Go.Deep Go.Joins Go.EV
theorem zvd{p:vg}(h:zBo p):zTl p:=fun r hr=>by
 have h1:=h.2.2.2.1.2 r hr;exact⟨h1.2.1.1,h1.2.2.1.1⟩
theorem zpf[KZ][Fuel](x y:vg)(r:Bool)(h:vi x y=some r):FnA Tryz.prog 5 [.agg (Ab x),.agg (Ab y)] gl (.bool r) gl:=kmp (by kernel_rfl) (Vq.2 (x,y) r h)
set_option maxRecDepth 100000 in
theorem Vy(os:Os)(started:os.Started)(H:Type)(enc:TypeId×Value→H):
  ReturnsInHanded {} Tryz.checked os 5 .any (fun w args=>(Rows.syntaxPrintsSpec.pre enc Tryz.prog Tryz.f5 [] false w args∧laidMetH Tryz.prog zwp w)∧sizedMet enc Tryz.prog Tryz.f5 (OpenSpec.ofChange Rows.syntaxPrintsSpec) false w args)
   (Rows.syntaxPrintsSpec.post enc Tryz.prog Tryz.f5 false true false false):=by
 refine zmq (C:=Tryz.checked) (X:=fun w _=>laidMetH Tryz.prog zwp w) (fun _ _ _ hh h=>h.of_heap hh) own started (by kernel_rfl) Tryz.func5
  (ChangeSpec.witness_shaped (enc:=enc) (C:=Tryz.checked) (os:=os) (X:=fun w _=>laidMetH Tryz.prog zwp w) false (World.doorLaid Tryz.prog 400 os) #[.agg #[.slice none 0 0,.slice none 0 0,.slice none 0 0,.slice none 0 0,.slice none 0 0,.slice none 0 0,.slice none 0 0,.int .i64 0],.agg #[.slice none 0 0,.slice none 0 0,.slice none 0 0,.slice none 0 0,.slice none 0 0,.slice none 0 0,.slice none 0 0,.int .i64 0]] 8 rfl (World.shaped_of_RefB (by kernel_rfl) (by kernel_rfl)) (by kernel_rfl) (by kernel_rfl) (by kernel_rfl) (zGo os _)) ?_
 intro W base args ds gs before hval0 hW hS hL;have hval:∀(j:Nat) t v,Tryz.f5.params[j]?=some t→args[j]?=some v→Value.okWide Tryz.prog W .any base t v:=hval0;have hW':=hW;obtain⟨p,q,hA0,hV,rfl,hfz,hnd⟩:=hW;have hA:DataW.TrodAll enc Tryz.prog W 0 (fun _=>true) true Tryz.f5.params.toList args.toList ds p:=hA0;rw[Tryz.params5]at hA hval;have hA1:=hA;obtain⟨v0,vs,d0,ds,p0,q0,ha,rfl,rfl,h0,hA⟩:=trodAll_cons hA;obtain⟨v1,vs,d1,ds,p1,q1,rfl,rfl,rfl,h1,hA⟩:=trodAll_cons hA;obtain⟨rfl,rfl,rfl⟩:=trodAll_nil hA;obtain⟨rfl,rfl⟩:=trodVars_none hV
 have ha:args=#[v0,v1]:=by cases args;simp_all
 subst ha;obtain⟨x0,ox0,rx0⟩:=zBp (hval 0 31 v0 rfl rfl) h0;obtain⟨x1,ox1,rx1⟩:=zBp (hval 1 31 v1 rfl rfl) h1;simp only[List.append_nil]at hW'
 let fu:Fuel:=⟨18446744073709551616,Nat.le_refl _⟩
 refine Calls.mono (zA0 (f:=5) (args:=[.agg (Ab x0),.agg (Ab x1)]) (vals:=[v0,v1]) (zpf x0 x1 true (zxv (zvd ox0) (zvd ox1))) hL hS ⟨_,_,rfl,rx0,⟨_,_,rfl,rx1,rfl⟩⟩) fun e W' ⟨he,hb⟩=>?_
 subst he;refine⟨_,rfl,?_⟩;refine⟨_,_,_,[],_,[],hW',?_,zgb laidOut hb _ _ _ _ (by kernel_rfl) hA1 (fun x hx=>by simpa using hW'.lt x (by simpa using hx)),rfl,hb.frame _,fun h=>by cases h⟩;exact trodAll_mk1 (shut_bool Tryz.underlying4 true)
theorem ZE:Rows.SyntaxPrintsSaid :=
 OpenClaim.holds_of_wide 5 Tryz.f5 rfl rfl rfl rfl rfl rfl rfl ⟨rfl,rfl,rfl,rfl,rfl⟩ rfl rfl rfl rfl rfl (by kernel_rfl) Tryz.func5 Wc
  (of_decide_eq_true (by kernel_rfl)) (by unfold Func.isWrapper;first|(rw[if_pos (by decide +kernel)];kernel_rfl)|(rw[if_neg (by decide +kernel)];exact⟨rfl,rfl⟩))
  (fun os started H enc _=>Vy os started H enc)
theorem syntaxPrints_holds:Rows.SyntaxPrintsCardSaid :=
 Claim7.holds_tied_plain_at .later [] [.data, .data, .data, .listed, .data, .data] true (true, "808b1baaab06890156bf9594850e24f5baf562363ce7a6119ef76d48d3ae3efc") true
  ZE (fun _ h=>by cases h) (by kernel_rfl) (fun _ h=>by cases h) syntaxPrints_row_tie rfl ⟨rfl,rfl⟩ (by kernel_rfl) rfl
  (fun f fn hf hfn=>by
   obtain rfl : f = 5 := Option.some.inj ((show Tryz.prog.funcNamed "greenbelt/greenbeltlaw15.SyntaxPrints" = some 5 by kernel_rfl).symm.trans hf) |>.symm
   obtain rfl:fn=Tryz.f5:=(Option.some.inj (Tryz.func5.symm.trans hfn)).symm
   exact⟨by kernel_rfl,fun j t ht=>by
    rw[Tryz.params5]at ht
    have hm:t∈[31,31]:=by simpa using Array.mem_of_getElem? ht
    have hall:([31,31].all fun u=>!Tryz.prog.wantsStandIn u)=true:=by kernel_rfl
    exact(show Tryz.prog.wantsStandIn t=false by simpa using List.all_eq_true.1 hall t hm)⟩)
  (by kernel_rfl)
#print axioms syntaxPrints_holds
end Go.Proofs.YtffencjoddkghaaGreatDoor
