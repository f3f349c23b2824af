/- SyntaxPrints answers true whatever the input, and leaves the input as it was; the listed package variables start as the program's text lays them. -/
import Derived.Test.YtffencjoddkghaaGreatDoorKk
set_option linter.all false
namespace Go.Proofs.YtffencjoddkghaaGreatDoor
open Go Go.ChangeShapes Go.WideShapes Go.ChangeAt Go.RowKit Go.Deep Go.Joins Go.EV
theorem zuj[AK][Fuel](x0:Expr)(r:Bool)(h:yT x0=some r):FnA Tryz.prog 4 [.agg (y6 x0)] gl (.bool r) gl:=kmp (by kernel_rfl) (qY.2 x0 r h)
set_option maxRecDepth 100000 in
theorem q7(os:Os)(started:os.Started)(H:Type)(enc:TypeId×Value→H):
  ReturnsInHanded {} Tryz.checked os 4 .any (fun w args=>(Rows.syntaxParenthesesSpec.pre enc Tryz.prog Tryz.f4 [] false w args∧laidMetH Tryz.prog zn0 w)∧sizedMet enc Tryz.prog Tryz.f4 (OpenSpec.ofChange Rows.syntaxParenthesesSpec) false w args)
   (Rows.syntaxParenthesesSpec.post enc Tryz.prog Tryz.f4 false true false false):=by
 refine zes (C:=Tryz.checked) (X:=fun w _=>laidMetH Tryz.prog zn0 w) (fun _ _ _ hh h=>h.of_heap hh) own started (by kernel_rfl) Tryz.func4
  (ChangeSpec.witness_shaped (enc:=enc) (C:=Tryz.checked) (os:=os) (X:=fun w _=>laidMetH Tryz.prog zn0 w) false (World.doorLaid Tryz.prog 400 os) #[.agg #[.int .i64 0,.int .i64 0,.string ⟨#[]⟩,.string ⟨#[]⟩,.slice none 0 0]] 8 rfl (World.shaped_of_RefB (by kernel_rfl) (by kernel_rfl)) (by kernel_rfl) (by kernel_rfl) (by kernel_rfl) (zw1 os _)) ?_
 intro W base args ds gs before hval0 hW hS hL;have hval:∀(j:Nat) t v,Tryz.f4.params[j]?=some t→args[j]?=some v→Value.okWide Tryz.prog W .any base t v:=hval0;have hW':=hW;obtain⟨p,q,hA0,hV,rfl,hfz,hnd⟩:=hW;have hA:DataW.TrodAll enc Tryz.prog W 0 (fun _=>true) true Tryz.f4.params.toList args.toList ds p:=hA0;rw[Tryz.params4]at hA hval;have hA1:=hA;obtain⟨v0,vs,d0,ds,p0,q0,ha,rfl,rfl,h0,hA⟩:=trodAll_cons hA;obtain⟨rfl,rfl,rfl⟩:=trodAll_nil hA;obtain⟨rfl,rfl⟩:=trodVars_none hV
 have ha:args=#[v0]:=by cases args;simp_all
 subst ha;obtain⟨x0,ox0,rx0⟩:=zDg (hval 0 37 v0 rfl rfl) h0;simp only[List.append_nil]at hW'
 let fu:Fuel:=⟨18446744073709551616,Nat.le_refl _⟩
 refine Calls.mono (zr4 (f:=4) (args:=[.agg (y6 x0)]) (vals:=[v0]) (zuj x0 true (zoz)) hL hS ⟨_,_,rfl,rx0,rfl⟩) fun e W' ⟨he,hb⟩=>?_
 subst he;refine⟨_,rfl,?_⟩;refine⟨_,_,_,[],_,[],hW',?_,Y1 laidOut hb _ _ _ _ (by kernel_rfl) hA1 (fun x hx=>by simpa using hW'.lt x (by simpa using hx)),rfl,hb.frame _,fun h=>by cases h⟩;exact trodAll_mk1 (shut_bool Tryz.underlying4 true)
theorem o6:Rows.SyntaxParenthesesSaid :=
 OpenClaim.holds_of_wide 4 Tryz.f4 rfl rfl rfl rfl rfl rfl rfl ⟨rfl,rfl,rfl,rfl,rfl⟩ rfl rfl rfl rfl rfl (by kernel_rfl) Tryz.func4 uz
  (of_decide_eq_true (by kernel_rfl)) (by unfold Func.isWrapper;first|(rw[if_pos (by decide +kernel)];kernel_rfl)|(rw[if_neg (by decide +kernel)];exact⟨rfl,rfl⟩))
  (fun os started H enc _=>q7 os started H enc)
theorem syntaxParentheses_holds:Rows.SyntaxParenthesesCardSaid :=
 Claim7.holds_tied_plain_at .later [] [.data, .data, .data, .listed, .data, .data] true (true, "808b1baaab06890156bf9594850e24f5baf562363ce7a6119ef76d48d3ae3efc") true
  o6 (fun _ h=>by cases h) (by kernel_rfl) (fun _ h=>by cases h) syntaxParentheses_row_tie rfl ⟨rfl,rfl⟩ (by kernel_rfl) rfl
  (fun f fn hf hfn=>by
   obtain rfl : f = 4 := Option.some.inj ((show Tryz.prog.funcNamed "greenbelt/greenbeltlaw15.SyntaxParentheses" = some 4 by kernel_rfl).symm.trans hf) |>.symm
   obtain rfl:fn=Tryz.f4:=(Option.some.inj (Tryz.func4.symm.trans hfn)).symm
   exact⟨by kernel_rfl,fun j t ht=>by
    rw[Tryz.params4]at ht
    have hm:t∈[37]:=by simpa using Array.mem_of_getElem? ht
    have hall:([37].all fun u=>!Tryz.prog.wantsStandIn u)=true:=by kernel_rfl
    exact(show Tryz.prog.wantsStandIn t=false by simpa using List.all_eq_true.1 hall t hm)⟩)
  (by kernel_rfl)
#print axioms syntaxParentheses_holds
end Go.Proofs.YtffencjoddkghaaGreatDoor
