/- EditDiffs answers true whatever the input, and leaves the input as it was; the listed package variables start as the program's text lays them. -/
import Derived.Test.YthnokpghgeppdaaGreatDoorKk
set_option linter.all false
namespace Go.Proofs.YthnokpghgeppdaaGreatDoor
open Go Go.ChangeShapes Go.WideShapes Go.ChangeAt Go.RowKit Go.Deep Go.Joins Go.EV
theorem zrg[Hm][Fuel](x0:zu)(x1:(List zn))(r:Bool)(h:vd x0 x1=some r):FnA Tryz.prog 4 [.agg (An x0),.vs 30 (List.map ud x1)] gl (.bool r) gl:=kmp (by kernel_rfl) (K1.2 (x0,x1) r h)
set_option maxRecDepth 100000 in
theorem K4(os:Os)(started:os.Started)(H:Type)(enc:TypeId×Value→H):
  ReturnsInHanded {} Tryz.checked os 4 .any (fun w args=>(Rows.editDiffsSpec.pre enc Tryz.prog Tryz.f4 [] false w args∧laidMetH Tryz.prog zci w)∧sizedMet enc Tryz.prog Tryz.f4 (OpenSpec.ofChange Rows.editDiffsSpec) false w args)
   (Rows.editDiffsSpec.post enc Tryz.prog Tryz.f4 false true false false):=by
 refine zcj (C:=Tryz.checked) (X:=fun w _=>laidMetH Tryz.prog zci w) (fun _ _ _ hh h=>h.of_heap hh) own started (by kernel_rfl) Tryz.func4
  (ChangeSpec.witness_shaped (enc:=enc) (C:=Tryz.checked) (os:=os) (X:=fun w _=>laidMetH Tryz.prog zci w) false (World.laidAll Tryz.prog os zci) #[.agg #[.slice none 0 0,.slice none 0 0,.slice none 0 0,.slice none 0 0,.slice none 0 0,.slice none 0 0,.slice none 0 0,.int .i64 0],.slice none 0 0] 8 (World.laidAll_os _ _ _) (World.shaped_of_ZipB (by kernel_rfl) (by kernel_rfl)) (by kernel_rfl) (by kernel_rfl) (by kernel_rfl) (zts os _)) ?_
 intro W base args ds gs before hval0 hW hS hL;have hval:∀(j:Nat) t v,Tryz.f4.params[j]?=some t→args[j]?=some v→Value.okWide Tryz.prog W .any base t v:=hval0;have hW':=hW;obtain⟨p,q,hA0,hV,rfl,hfz,hnd⟩:=hW;have hA:DataW.TrodAll enc Tryz.prog W 0 (fun _=>true) true Tryz.f4.params.toList args.toList ds p:=hA0;rw[Tryz.params4]at hA hval;have hA1:=hA;obtain⟨v0,vs,d0,ds,p0,q0,ha,rfl,rfl,h0,hA⟩:=trodAll_cons hA;obtain⟨v1,vs,d1,ds,p1,q1,rfl,rfl,rfl,h1,hA⟩:=trodAll_cons hA;obtain⟨rfl,rfl,rfl⟩:=trodAll_nil hA;obtain⟨rfl,rfl⟩:=trodVars_none hV
 have ha:args=#[v0,v1]:=by cases args;simp_all
 subst ha;obtain⟨x0,ox0,rx0⟩:=zy9 (hval 0 30 v0 rfl rfl) h0;obtain⟨x1,ox1,rx1⟩:=zza (hval 1 31 v1 rfl rfl) h1;simp only[List.append_nil]at hW'
 let fu:Fuel:=⟨18446744073709551616,Nat.le_refl _⟩
 refine Calls.mono (zo4 (f:=4) (args:=[.agg (An x0),.vs 30 (List.map ud x1)]) (vals:=[v0,v1]) (zrg x0 x1 true (zrf x0 x1)) hL hS ⟨_,_,rfl,rx0,⟨_,_,rfl,rx1,rfl⟩⟩) fun e W' ⟨he,hb⟩=>?_
 subst he;refine⟨_,rfl,?_⟩;refine⟨_,_,_,[],_,[],hW',?_,Yo laidOut hb _ _ _ _ (by kernel_rfl) hA1 (fun x hx=>by simpa using hW'.lt x (by simpa using hx)),rfl,hb.frame _,fun h=>by cases h⟩;exact trodAll_mk1 (shut_bool Tryz.underlying4 true)
theorem zau:Rows.EditDiffsSaid :=
 OpenClaim.holds_of_wide 4 Tryz.f4 rfl rfl rfl rfl rfl rfl rfl ⟨rfl,rfl,rfl,rfl,rfl⟩ rfl rfl rfl rfl rfl (by kernel_rfl) Tryz.func4 Vi
  (of_decide_eq_true (by kernel_rfl)) (by unfold Func.isWrapper;first|(rw[if_pos (by decide +kernel)];kernel_rfl)|(rw[if_neg (by decide +kernel)];exact⟨rfl,rfl⟩))
  (fun os started H enc _=>K4 os started H enc)
theorem zeu:Rows.editDiffsRow.wfByText (OpenSpec.ofChange Rows.editDiffsSpec)=true:=by kernel_rfl
theorem WS : Tryz.pinned.checked.prog.mainIs = some (true, "cc93c16548e4d06e5a50b45202d544dc0301064b46860f08ff056d5e27825bb6".toList) := by kernel_rfl
theorem Wj:true=Tryz.pinned.checked.prog.looks []:=by kernel_rfl
theorem WT:false=Rows.editDiffsRow.goesBy Tryz.pinned.checked.prog:=by kernel_rfl
theorem Wk:Tryz.pinned.checked.prog.funcNamed Rows.editDiffsRow.func=some 4:=by kernel_rfl
theorem WU:Tryz.pinned.checked.prog.funcs[4]?=some Tryz.f4:=Tryz.func4
theorem Wl:([30,31].all fun u=>!Tryz.pinned.checked.prog.wantsStandIn u)=true:=by kernel_rfl
theorem editDiffs_holds:Rows.EditDiffsCardSaid :=
 Claim7.holds_tied_plain_at .later [] [.data, .data, .data, .data, .listed, .data, .data, .pinned] true (true, "cc93c16548e4d06e5a50b45202d544dc0301064b46860f08ff056d5e27825bb6") true
  zau (fun _ h=>by cases h) zeu (fun _ h=>by cases h) editDiffs_row_tie rfl ⟨rfl,rfl⟩ WS rfl
  (fun f fn hf hfn=>by
   obtain rfl:f=4:=Option.some.inj (Wk.symm.trans hf) |>.symm
   obtain rfl:fn=Tryz.f4:=(Option.some.inj (WU.symm.trans hfn)).symm
   exact⟨Wj,fun j t ht=>by
    rw[Tryz.params4]at ht
    have hm:t∈[30,31]:=by simpa using Array.mem_of_getElem? ht
    simpa using List.all_eq_true.1 Wl t hm⟩)
  WT
#print axioms editDiffs_holds
end Go.Proofs.YthnokpghgeppdaaGreatDoor
