/- ExprTells answers true whatever the input, and leaves the input as it was. -/
import Derived.Test.YtconjkgifdfhdabGreatTP
import Derived.Test.YtconjkgifdfhdabGreatS
import Derived.Test.YtconjkgifdfhdabGreatH
set_option linter.all false
namespace Go.Proofs.YtconjkgifdfhdabGreat
open Go Go.ChangeShapes Go.WideShapes Go.ChangeAt Go.RowKit Go.Deep Go.Joins Go.EV
set_option maxRecDepth 100000 in
theorem exprTells_lifted (os : Os) (started : os.Started) (H : Type) (enc : TypeId × Value → H) :
    ReturnsInHanded {} Tryz.checked os 3 .any (Rows.exprTellsSpec.pre6 enc Tryz.prog Tryz.f3 Rows.exprTellsRow.domain false) (Rows.exprTellsSpec.post enc Tryz.prog Tryz.f3 false true false false) := by
  refine returnsInHanded_of_change (C := Tryz.checked) own started (by kernel_rfl) Tryz.func3
    (ChangeSpec.witness6 (enc := enc) (C := Tryz.checked) false ⟨#[], #[.agg #[.slice none 0 0, .slice none 0 0, .slice none 0 0, .slice none 0 0, .slice none 0 0, .slice none 0 0, .slice none 0 0, .int .i64 0], .slice none 0 0, .slice none 0 0, .agg #[.int .i64 0, .int .i64 0, .string ⟨#[]⟩, .string ⟨#[]⟩, .slice none 0 0]], []⟩ 8 (by kernel_rfl) (by kernel_rfl) (by kernel_rfl) (by kernel_rfl)) ?_
  intro W base args ds gs before hval0 hW hcnd _
  have hval : ∀ (j : Nat) t v, Tryz.f3.params[j]? = some t → args[j]? = some v → Value.okWide Tryz.prog W .any base t v := hval0
  have hW' := hW
  obtain ⟨p, q, hA0, hV, rfl, hfz, hnd⟩ := hW
  have hA : DataW.TrodAll enc Tryz.prog W 0 (fun _ => true) true Tryz.f3.params.toList args.toList ds p := hA0
  rw [Tryz.params3] at hA hval
  have hA1 := hA
  obtain ⟨v0, vs, d0, ds, p0, q0, ha, rfl, rfl, h0, hA⟩ := trodAll_cons hA
  obtain ⟨v1, vs, d1, ds, p1, q1, rfl, rfl, rfl, h1, hA⟩ := trodAll_cons hA
  obtain ⟨v2, vs, d2, ds, p2, q2, rfl, rfl, rfl, h2, hA⟩ := trodAll_cons hA
  obtain ⟨v3, vs, d3, ds, p3, q3, rfl, rfl, rfl, h3, hA⟩ := trodAll_cons hA
  obtain ⟨rfl, rfl, rfl⟩ := trodAll_nil hA
  obtain ⟨rfl, rfl⟩ := trodVars_none hV
  have ha : args = #[v0, v1, v2, v3] := by cases args; simp_all
  subst ha
  obtain ⟨x0, ox0, rx0⟩ := open_30 (hval 0 30 v0 rfl rfl) h0
  obtain ⟨x1, ox1, rx1⟩ := open_31 (hval 1 31 v1 rfl rfl) h1
  obtain ⟨x2, ox2, rx2⟩ := open_32 (hval 2 32 v2 rfl rfl) h2
  obtain ⟨x3, ox3, rx3⟩ := open_35 (hval 3 35 v3 rfl rfl) h3
  simp only [List.append_nil] at hW'
  let fu : Fuel := ⟨18446744073709551616, Nat.le_refl _⟩
  refine Calls.mono (law_calls (f := 3) (args := [.agg (enc_Plan x0), .vs 2 (List.map enc_Entry x1), .vs 1 (List.map EV.encS x2), .agg (enc_Expr x3)]) (vals := [v0, v1, v2, v3]) (@w_gl17_ExprTells fu x0 x1 x2 x3 true (tells_true x0 x1 x2 x3 (plan_names ox0))) ⟨_, _, rfl, rx0, ⟨_, _, rfl, rx1, ⟨_, _, rfl, rx2, ⟨_, _, rfl, rx3, rfl⟩⟩⟩⟩) fun e W' ⟨he, hb⟩ => ?_
  subst he
  refine ⟨_, rfl, ?_⟩
  refine ⟨_, _, _, [], _, [], hW', ?_, below_allV laidOut hb _ _ _ _ (by kernel_rfl) hA1 (fun x hx => by simpa using hW'.lt x (by simpa using hx)), rfl, hb.frame _, fun h => by cases h⟩
  exact trodAll_mk1 (shut_bool Tryz.underlying4 true)
theorem exprTells_holds : Rows.ExprTellsSaid :=
  OpenClaim.holds_of_wide 3 Tryz.f3 rfl rfl rfl rfl rfl rfl rfl ⟨rfl, rfl, rfl, rfl, rfl⟩ rfl rfl rfl rfl rfl (by kernel_rfl) Tryz.func3 (by kernel_rfl)
    (of_decide_eq_true (by kernel_rfl)) (by unfold Func.isWrapper; rw [if_neg (by decide +kernel)]; exact ⟨rfl, rfl⟩)
    (fun os started H enc _ => exprTells_lifted os started H enc)
#print axioms exprTells_holds
end Go.Proofs.YtconjkgifdfhdabGreat
