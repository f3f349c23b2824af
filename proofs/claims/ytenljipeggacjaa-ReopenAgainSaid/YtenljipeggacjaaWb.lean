/- ReopenAgain answers true whatever the input, and leaves the input as it was. -/
import Derived.Test.YtenljipeggacjaaT
import Derived.Test.YtenljipeggacjaaN
set_option linter.all false
namespace Go.Proofs.Ytenljipeggacjaa
open Go Go.ChangeShapes Go.WideShapes Go.ChangeAt Go.RowKit Go.Deep Go.Joins Go.EV
set_option maxRecDepth 100000 in
theorem reopenAgain_lifted (os : Os) (started : os.Started) (H : Type) (enc : TypeId × Value → H) :
    ReturnsInHanded {} Try.checked os 4 .any (Rows.reopenAgainSpec.pre6 enc Try.prog Try.f4 Rows.reopenAgainRow.domain false) (Rows.reopenAgainSpec.post enc Try.prog Try.f4 false true false false) := by
  refine returnsInHanded_of_change (C := Try.checked) own started (by kernel_rfl) Try.func4
    (ChangeSpec.witness6 (enc := enc) (C := Try.checked) false ⟨#[], #[.slice none 0 0, .slice none 0 0, .int .i64 0], []⟩ 8 (by kernel_rfl) (by kernel_rfl) (by kernel_rfl) (by kernel_rfl)) ?_
  intro W base args ds gs before hval0 hW hcnd _
  have hval : ∀ (j : Nat) t v, Try.f4.params[j]? = some t → args[j]? = some v → Value.okWide Try.prog W .any base t v := hval0
  have hW' := hW
  obtain ⟨p, q, hA0, hV, rfl, hfz, hnd⟩ := hW
  have hA : DataW.TrodAll enc Try.prog W 0 (fun _ => true) true Try.f4.params.toList args.toList ds p := hA0
  rw [Try.params4] at hA hval
  have hA1 := hA
  obtain ⟨v0, vs, d0, ds, p0, q0, ha, rfl, rfl, h0, hA⟩ := trodAll_cons hA
  obtain ⟨v1, vs, d1, ds, p1, q1, rfl, rfl, rfl, h1, hA⟩ := trodAll_cons hA
  obtain ⟨v2, vs, d2, ds, p2, q2, rfl, rfl, rfl, h2, hA⟩ := trodAll_cons hA
  obtain ⟨rfl, rfl, rfl⟩ := trodAll_nil hA
  obtain ⟨rfl, rfl⟩ := trodVars_none hV
  have ha : args = #[v0, v1, v2] := by cases args; simp_all
  subst ha
  obtain ⟨x0, ox0, rx0⟩ := open_Facts (hval 0 22 v0 rfl rfl) h0
  obtain ⟨x1, ox1, rx1⟩ := open_Formulas (hval 1 23 v1 rfl rfl) h1
  obtain ⟨x2, ox2, rx2⟩ := open_num (hval 2 3 v2 rfl rfl) h2
  simp only [List.append_nil] at hW'
  obtain ⟨fu, hfu⟩ := fuel_for x1 ox1.2
  refine Calls.mono (law_calls (f := 4) (args := [.vs 5 (x0.map enc_Fact), .vs 10 (x1.map enc_Formula), .int .i64 x2]) (vals := [v0, v1, v2]) (@w_greenbeltlaw45_ReopenAgain fu x0 x1 x2 true (@again_true fu x0 x1 x2 hfu)) ⟨_, _, rfl, rx0, ⟨_, _, rfl, rx1, ⟨_, _, rfl, rx2, rfl⟩⟩⟩) fun e W' ⟨he, hb⟩ => ?_
  subst he
  refine ⟨_, rfl, ?_⟩
  refine ⟨_, _, _, [], _, [], hW', ?_, below_allV laidOut hb _ _ _ _ (by kernel_rfl) hA1 (fun x hx => by simpa using hW'.lt x (by simpa using hx)), rfl, hb.frame _, fun h => by cases h⟩
  exact trodAll_mk1 (shut_bool Try.underlying4 true)
theorem reopenAgain_holds : Rows.ReopenAgainSaid :=
  OpenClaim.holds_of_wide 4 Try.f4 rfl rfl rfl rfl rfl rfl rfl ⟨rfl, rfl, rfl, rfl, rfl⟩ rfl rfl rfl rfl rfl (by kernel_rfl) Try.func4 (by kernel_rfl)
    (of_decide_eq_true (by kernel_rfl)) (by unfold Func.isWrapper; rw [if_neg (by decide +kernel)]; exact ⟨rfl, rfl⟩)
    (fun os started H enc _ => reopenAgain_lifted os started H enc)
#print axioms reopenAgain_holds
end Go.Proofs.Ytenljipeggacjaa
