/- EditCommutes answers true whatever the input, and leaves the input as it was; the listed package variables start as the program's text lays them. -/
import Derived.Test.YthnokpghgeppdaaGreatDoorKk
set_option linter.all false
namespace Go.Proofs.YthnokpghgeppdaaGreatDoor
open Go Go.ChangeShapes Go.WideShapes Go.ChangeAt Go.RowKit Go.Deep Go.Joins Go.EV
theorem zqp[Hx][Fuel](x0:zK)(x1:zq)(x2:zq)(r:Bool)(h:xh x0 x1 x2=some r):FnA Tryz.prog 6 [.agg (Ab x0),.agg (kN x1),.agg (kN x2)] gl (.bool r) gl:=kmp (by kernel_rfl) (Hr.2 (x0,x1,x2) r h)
set_option maxRecDepth 100000 in
theorem Hw(os:Os)(started:os.Started)(H:Type)(enc:TypeId×Value→H):
  ReturnsInHanded {} Tryz.checked os 6 .any (fun w args=>(Rows.editCommutesSpec.pre enc Tryz.prog Tryz.f6 [] false w args∧laidMetH Tryz.prog zb0 w)∧sizedMet enc Tryz.prog Tryz.f6 (OpenSpec.ofChange Rows.editCommutesSpec) false w args)
   (Rows.editCommutesSpec.post enc Tryz.prog Tryz.f6 false true false false):=by
 refine zb1 (C:=Tryz.checked) (X:=fun w _=>laidMetH Tryz.prog zb0 w) (fun _ _ _ hh h=>h.of_heap hh) own started (by kernel_rfl) Tryz.func6
  (ChangeSpec.witness_shaped (enc:=enc) (C:=Tryz.checked) (os:=os) (X:=fun w _=>laidMetH Tryz.prog zb0 w) false (World.laidAll Tryz.prog os zb0) #[.agg #[.slice none 0 0,.slice none 0 0,.slice none 0 0,.slice none 0 0,.slice none 0 0,.slice none 0 0,.slice none 0 0,.int .i64 0],.agg #[.int .i64 0,.string ⟨#[]⟩,.string ⟨#[]⟩,.int .i64 0,.string ⟨#[]⟩,.slice none 0 0,.slice none 0 0,.int .i64 0,.int .i64 0,.int .i64 0,.bool false,.int .i64 0,.int .i64 0,.int .i64 0,.string ⟨#[]⟩,.string ⟨#[]⟩,.slice none 0 0,.int .i64 0,.int .i64 0,.int .i64 0,.int .i64 0,.int .i64 0,.int .i64 0,.int .i64 0,.int .i64 0,.int .i64 0,.string ⟨#[]⟩,.string ⟨#[]⟩,.slice none 0 0,.slice none 0 0],.agg #[.int .i64 0,.string ⟨#[]⟩,.string ⟨#[]⟩,.int .i64 0,.string ⟨#[]⟩,.slice none 0 0,.slice none 0 0,.int .i64 0,.int .i64 0,.int .i64 0,.bool false,.int .i64 0,.int .i64 0,.int .i64 0,.string ⟨#[]⟩,.string ⟨#[]⟩,.slice none 0 0,.int .i64 0,.int .i64 0,.int .i64 0,.int .i64 0,.int .i64 0,.int .i64 0,.int .i64 0,.int .i64 0,.int .i64 0,.string ⟨#[]⟩,.string ⟨#[]⟩,.slice none 0 0,.slice none 0 0]] 8 (World.laidAll_os _ _ _) (World.shaped_of_ZipB (by kernel_rfl) (by kernel_rfl)) (by kernel_rfl) (by kernel_rfl) (by kernel_rfl) (zs1 os _)) ?_
 intro W base args ds gs before hval0 hW hS hL;have hval:∀(j:Nat) t v,Tryz.f6.params[j]?=some t→args[j]?=some v→Value.okWide Tryz.prog W .any base t v:=hval0;have hW':=hW;obtain⟨p,q,hA0,hV,rfl,hfz,hnd⟩:=hW;have hA:DataW.TrodAll enc Tryz.prog W 0 (fun _=>true) true Tryz.f6.params.toList args.toList ds p:=hA0;rw[Tryz.params6]at hA hval;have hA1:=hA;obtain⟨v0,vs,d0,ds,p0,q0,ha,rfl,rfl,h0,hA⟩:=trodAll_cons hA;obtain⟨v1,vs,d1,ds,p1,q1,rfl,rfl,rfl,h1,hA⟩:=trodAll_cons hA;obtain⟨v2,vs,d2,ds,p2,q2,rfl,rfl,rfl,h2,hA⟩:=trodAll_cons hA;obtain⟨rfl,rfl,rfl⟩:=trodAll_nil hA;obtain⟨rfl,rfl⟩:=trodVars_none hV
 have ha:args=#[v0,v1,v2]:=by cases args;simp_all
 subst ha;obtain⟨x0,ox0,rx0⟩:=zya (hval 0 30 v0 rfl rfl) h0;obtain⟨x1,ox1,rx1⟩:=zo3 (hval 1 42 v1 rfl rfl) h1;obtain⟨x2,ox2,rx2⟩:=zo3 (hval 2 42 v2 rfl rfl) h2;simp only[List.append_nil]at hW'
 let fu:Fuel:=⟨18446744073709551616,Nat.le_refl _⟩
 refine Calls.mono (zom (f:=6) (args:=[.agg (Ab x0),.agg (kN x1),.agg (kN x2)]) (vals:=[v0,v1,v2]) (zqp x0 x1 x2 true (zea x0 x1 x2)) hL hS ⟨_,_,rfl,rx0,⟨_,_,rfl,rx1,⟨_,_,rfl,rx2,rfl⟩⟩⟩) fun e W' ⟨he,hb⟩=>?_
 subst he;refine⟨_,rfl,?_⟩;refine⟨_,_,_,[],_,[],hW',?_,W7 laidOut hb _ _ _ _ (by kernel_rfl) hA1 (fun x hx=>by simpa using hW'.lt x (by simpa using hx)),rfl,hb.frame _,fun h=>by cases h⟩;exact trodAll_mk1 (shut_bool Tryz.underlying4 true)
theorem K3:Rows.EditCommutesSaid :=
 OpenClaim.holds_of_wide 6 Tryz.f6 rfl rfl rfl rfl rfl rfl rfl ⟨rfl,rfl,rfl,rfl,rfl⟩ rfl rfl rfl rfl rfl (by kernel_rfl) Tryz.func6 Je
  (of_decide_eq_true (by kernel_rfl)) (by unfold Func.isWrapper;first|(rw[if_pos (by decide +kernel)];kernel_rfl)|(rw[if_neg (by decide +kernel)];exact⟨rfl,rfl⟩))
  (fun os started H enc _=>Hw os started H enc)
theorem V8:Rows.editCommutesRow.wfByText (OpenSpec.ofChange Rows.editCommutesSpec)=true:=by kernel_rfl
theorem Kx : Tryz.pinned.checked.prog.mainIs = some (true, "cc93c16548e4d06e5a50b45202d544dc0301064b46860f08ff056d5e27825bb6".toList) := by kernel_rfl
theorem JT:true=Tryz.pinned.checked.prog.looks []:=by kernel_rfl
theorem Ky:false=Rows.editCommutesRow.goesBy Tryz.pinned.checked.prog:=by kernel_rfl
theorem JU:Tryz.pinned.checked.prog.funcNamed Rows.editCommutesRow.func=some 6:=by kernel_rfl
theorem Kz:Tryz.pinned.checked.prog.funcs[6]?=some Tryz.f6:=Tryz.func6
theorem JV:([30,42,42].all fun u=>!Tryz.pinned.checked.prog.wantsStandIn u)=true:=by kernel_rfl
theorem editCommutes_holds:Rows.EditCommutesCardSaid :=
 Claim7.holds_tied_plain_at .later [] [.data, .data, .data, .data, .listed, .data, .data, .pinned] true (true, "cc93c16548e4d06e5a50b45202d544dc0301064b46860f08ff056d5e27825bb6") true
  K3 (fun _ h=>by cases h) V8 (fun _ h=>by cases h) editCommutes_row_tie rfl ⟨rfl,rfl⟩ Kx rfl
  (fun f fn hf hfn=>by
   obtain rfl:f=6:=Option.some.inj (JU.symm.trans hf) |>.symm
   obtain rfl:fn=Tryz.f6:=(Option.some.inj (Kz.symm.trans hfn)).symm
   exact⟨JT,fun j t ht=>by
    rw[Tryz.params6]at ht
    have hm:t∈[30,42,42]:=by simpa using Array.mem_of_getElem? ht
    simpa using List.all_eq_true.1 JV t hm⟩)
  Ky
#print axioms editCommutes_holds
end Go.Proofs.YthnokpghgeppdaaGreatDoor
