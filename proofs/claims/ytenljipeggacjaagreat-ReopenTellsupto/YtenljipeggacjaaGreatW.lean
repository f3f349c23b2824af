/- ReopenTells answers true whatever the input, and leaves the input as it was, where the arguments hold together at most 1048576 values and letters. -/
import Derived.Test.YtenljipeggacjaaGreatT
set_option linter.all false
namespace Go.Proofs.YtenljipeggacjaaGreat
open Go Go.ChangeShapes Go.WideShapes Go.ChangeAt Go.RowKit Go.Deep Go.Joins Go.EV
set_option maxRecDepth 100000 in
theorem reopenTells_lifted (os : Os) (started : os.Started) (H : Type) (enc : TypeId × Value → H) (F : Stop.Interp) :
    ReturnsInHanded {} Tryz.checked os 3 .any ((Rows.OpenSpec.upto Rows.reopenTellsSpec).pre6 enc Tryz.prog Tryz.f3 Rows.reopenTellsUptoRow.domain false) (((Rows.OpenSpec.upto Rows.reopenTellsSpec).at F).post enc Tryz.prog Tryz.f3 false true false false) := by
  refine returnsInHanded_of_cond (C := Tryz.checked) (s := Rows.OpenSpec.upto Rows.reopenTellsSpec) (k := Rows.uptoSmall) rfl own started (by kernel_rfl) Tryz.func3
    (OpenSpec.witness (enc := enc) (C := Tryz.checked) (s := Rows.OpenSpec.upto Rows.reopenTellsSpec) (k := Rows.uptoSmall) rfl false ⟨#[], #[.slice none 0 0, .slice none 0 0, .int .i64 0], []⟩ 8 (by kernel_rfl) (by kernel_rfl) (by kernel_rfl)
      (x := ([.nil, .nil, .lit (.int .i64 0)], [], [])) (by kernel_rfl) rfl (by kernel_rfl)) ?_
  intro W base args ds gs before hval0 hW hcnd hkb _
  have hbulk : Rows.uptoBulkAll (ds ++ gs) ≤ 1048576 := of_decide_eq_true hkb
  have hval : ∀ (j : Nat) t v, Tryz.f3.params[j]? = some t → args[j]? = some v → Value.okWide Tryz.prog W .any base t v := hval0
  have hW' := hW
  obtain ⟨p, q, hA0, hV, rfl, hfz, hnd⟩ := hW
  have hA : DataW.TrodAll enc Tryz.prog W 0 (fun _ => true) true Tryz.f3.params.toList args.toList ds p := hA0
  rw [Tryz.params3] at hA hval
  have hA1 := hA
  obtain ⟨v0, vs, d0, ds, p0, q0, ha, rfl, rfl, h0, hA⟩ := trodAll_cons hA
  obtain ⟨v1, vs, d1, ds, p1, q1, rfl, rfl, rfl, h1, hA⟩ := trodAll_cons hA
  obtain ⟨v2, vs, d2, ds, p2, q2, rfl, rfl, rfl, h2, hA⟩ := trodAll_cons hA
  obtain ⟨rfl, rfl, rfl⟩ := trodAll_nil hA
  obtain ⟨rfl, rfl⟩ := trodVars_none hV
  have ha : args = #[v0, v1, v2] := by cases args; simp_all
  subst ha
  have hb1 : Rows.uptoBulk d1 ≤ 1048576 := Nat.le_trans (bulk_part (l := [d0, d1, d2] ++ []) (by simp)) hbulk
  obtain ⟨x0, ox0, rx0⟩ := open_Facts (hval 0 22 v0 rfl rfl) h0
  obtain ⟨x1, ox1, hw1, rx1⟩ := open_Formulas (hval 1 23 v1 rfl rfl) h1
  obtain ⟨x2, ox2, rx2⟩ := open_num (hval 2 3 v2 rfl rfl) h2
  simp only [List.append_nil] at hW'
  obtain ⟨fu, hfu⟩ := fuel_for x1 ox1.2
  refine Calls.mono (law_calls (f := 3) (args := [.vs 5 (x0.map enc_Fact), .vs 10 (x1.map enc_Formula), .int .i64 x2]) (vals := [v0, v1, v2]) (@w_greenbeltlaw45_ReopenTells fu x0 x1 x2 true (@tells_true fu x0 x1 x2 (fun f hf => ⟨hfu f hf, Nat.le_trans (hw1 f hf) hb1⟩))) ⟨_, _, rfl, rx0, ⟨_, _, rfl, rx1, ⟨_, _, rfl, rx2, rfl⟩⟩⟩) fun e W' ⟨he, hb⟩ => ?_
  subst he
  refine ⟨_, rfl, ?_⟩
  refine ⟨_, _, _, [], _, [], hW', ?_, below_allV laidOut hb _ _ _ _ (by kernel_rfl) hA1 (fun x hx => by simpa using hW'.lt x (by simpa using hx)), rfl, hb.frame _, fun h => by cases h⟩
  exact trodAll_mk1 (shut_bool Tryz.underlying4 true)
theorem reopenTells_over : Rows.reopenTellsUptoRow.holds Tryz.pinned (Rows.OpenSpec.upto Rows.reopenTellsSpec) :=
  OpenClaim.holds_of_cond 3 Tryz.f3 rfl rfl rfl rfl rfl rfl rfl ⟨rfl, rfl, rfl, rfl, rfl⟩ rfl rfl rfl rfl rfl (by kernel_rfl) Tryz.func3 (by kernel_rfl)
    (of_decide_eq_true (by kernel_rfl)) (by unfold Func.isWrapper; first | (rw [if_pos (by decide +kernel)]; kernel_rfl) | (rw [if_neg (by decide +kernel)]; exact ⟨rfl, rfl⟩))
    (fun os started H enc _ F => reopenTells_lifted os started H enc F)
theorem reopenTells_holds : Rows.ReopenTellsUptoSaid := reopenTells_over
#print axioms reopenTells_holds
end Go.Proofs.YtenljipeggacjaaGreat
