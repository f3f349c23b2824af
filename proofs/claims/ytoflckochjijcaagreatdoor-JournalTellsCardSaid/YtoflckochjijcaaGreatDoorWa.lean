/- JournalTells answers true whatever the input, and leaves the input as it was; the listed package variables start as the program's text lays them. -/
import Derived.Test.YtoflckochjijcaaGreatDoorT
import Derived.Test.YtoflckochjijcaaGreatDoorYy
set_option linter.all false
namespace Go.Proofs.YtoflckochjijcaaGreatDoor
open Go Go.ChangeShapes Go.WideShapes Go.ChangeAt Go.RowKit Go.Deep Go.Joins Go.EV
noncomputable local instance : Fuel := ⟨18446744073709551616, Nat.le_refl _⟩
theorem calls_Tells {ob0 ob1 ob2 : Go.Obj} {u1 u2 : TypeId} (l : List greenbeltref03_Op) (r : Bool) (h : E.s_greenbeltlaw03_JournalTells l = some r) : FnA Tryz.prog 3 [.vs 4 (l.map enc_greenbeltref03_Op)] (gl ob0 ob1 ob2 u1 u2) (.bool r) (gl ob0 ob1 ob2 u1 u2) :=
  letI : E.Glob := ⟨ob0, ob1, ob2, u1, u2⟩
  E.kmp (by kernel_rfl) (E.ok_greenbeltlaw03_JournalTells l r h)
set_option maxRecDepth 100000 in
theorem tells_lifted (os : Os) (started : os.Started) (H : Type) (enc : TypeId × Value → H) :
    ReturnsInHanded {} Tryz.checked os 3 .any (fun w args => (Rows.journalTellsSpec.pre enc Tryz.prog Tryz.f3 [] false w args ∧ laidMetH Tryz.prog laidL w) ∧ sizedMet enc Tryz.prog Tryz.f3 (OpenSpec.ofChange Rows.journalTellsSpec) false w args)
      (Rows.journalTellsSpec.post enc Tryz.prog Tryz.f3 false true false false) := by
  refine returnsInHanded_of_change_and (C := Tryz.checked) (X := fun w _ => laidMetH Tryz.prog laidL w) (fun _ _ _ hh h => h.of_heap hh) own started (by kernel_rfl) Tryz.func3
    (ChangeSpec.witness_shaped (enc := enc) (C := Tryz.checked) (os := os) (X := fun w _ => laidMetH Tryz.prog laidL w) false (World.doorLaid Tryz.prog 400 os) #[.slice none 0 0] 8 rfl (World.shaped_of_RefB (by kernel_rfl) (by kernel_rfl)) (by kernel_rfl) (by kernel_rfl) (by kernel_rfl) (door_met os _)) ?_
  intro W base args ds gs before hval0 hW _ _ hL _
  have hval : ∀ (j : Nat) t v, Tryz.f3.params[j]? = some t → args[j]? = some v → Value.okWide Tryz.prog W .any base t v := hval0
  have hW' := hW
  obtain ⟨p, q, hA0, hV, rfl, hfz, hnd⟩ := hW
  have hA : DataW.TrodAll enc Tryz.prog W 0 (fun _ => true) true Tryz.f3.params.toList args.toList ds p := hA0
  rw [Tryz.params3] at hA hval
  have hA1 := hA
  obtain ⟨v0, vs, d0, ds, p0, q0, ha, rfl, rfl, h0, hA⟩ := trodAll_cons hA
  obtain ⟨rfl, rfl, rfl⟩ := trodAll_nil hA
  obtain ⟨rfl, rfl⟩ := trodVars_none hV
  have ha : args = #[v0] := by cases args; simp_all
  subst ha
  obtain ⟨x0, ox0, rx0⟩ := open_Ops (hval 0 22 v0 rfl rfl) h0
  simp only [List.append_nil] at hW'
  refine Calls.mono (law_calls (f := 3) (args := [.vs 4 (x0.map enc_greenbeltref03_Op)]) (vals := [v0]) (fun ob0 ob1 ob2 u1 u2 => calls_Tells x0 true (E.tells_law x0 ox0.1 (fun o ho => (okK_i64 (ox0.2 o ho).2.2.1).2))) hL ⟨_, _, rfl, rx0, rfl⟩) fun e W' ⟨he, hb⟩ => ?_
  subst he
  refine ⟨_, rfl, ?_⟩
  refine ⟨_, _, _, [], _, [], hW', ?_, below_allV laidOut hb _ _ _ _ (by kernel_rfl) hA1 (fun x hx => by simpa using hW'.lt x (by simpa using hx)), rfl, hb.frame _, fun h => by cases h⟩
  exact trodAll_mk1 (shut_bool Tryz.underlying4 true)
theorem tells_row : Rows.JournalTellsSaid :=
  OpenClaim.holds_of_wide 3 Tryz.f3 rfl rfl rfl rfl rfl rfl rfl ⟨rfl, rfl, rfl, rfl, rfl⟩ rfl rfl rfl rfl rfl (by kernel_rfl) Tryz.func3 (by kernel_rfl)
    (of_decide_eq_true (by kernel_rfl)) (by unfold Func.isWrapper; first | (rw [if_pos (by decide +kernel)]; kernel_rfl) | (rw [if_neg (by decide +kernel)]; exact ⟨rfl, rfl⟩))
    (fun os started H enc _ => tells_lifted os started H enc)
theorem tells_holds : Rows.JournalTellsCardSaid :=
  Claim7.holds_tied_plain_at .later [] [.data, .data, .data, .sentinel, .sentinel] true (true, "66f422973a2cc0a7978723617f2052f7e72e4d13c758e7813117e9727da734de") true
    tells_row (fun _ h => by cases h) (by kernel_rfl) (fun _ h => by cases h) journalTells_row_tie rfl ⟨rfl, rfl⟩ (by kernel_rfl) rfl
    (fun f fn hf hfn => by
      obtain rfl : f = 3 := Option.some.inj ((show Tryz.prog.funcNamed "greenbelt/greenbeltlaw03.JournalTells" = some 3 by kernel_rfl).symm.trans hf) |>.symm
      obtain rfl : fn = Tryz.f3 := (Option.some.inj (Tryz.func3.symm.trans hfn)).symm
      exact ⟨by kernel_rfl, fun j t ht => by
        rw [Tryz.params3] at ht
        have hm : t ∈ [22] := by simpa using Array.mem_of_getElem? ht
        have hall : ([22].all fun u => !Tryz.prog.wantsStandIn u) = true := by kernel_rfl
        exact (show Tryz.prog.wantsStandIn t = false by simpa using List.all_eq_true.1 hall t hm)⟩)
    (by kernel_rfl)
#print axioms tells_holds
end Go.Proofs.YtoflckochjijcaaGreatDoor
