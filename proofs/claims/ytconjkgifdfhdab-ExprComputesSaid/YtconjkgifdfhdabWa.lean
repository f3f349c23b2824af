/- ExprComputes answers true whatever the input, and leaves the input as it was. -/
import Derived.Test.YtconjkgifdfhdabT
import Derived.Test.YtconjkgifdfhdabS
import Derived.Test.YtconjkgifdfhdabY
set_option linter.all false
namespace Go.Proofs.Ytconjkgifdfhdab
open Go Go.ChangeShapes Go.WideShapes Go.ChangeAt Go.RowKit Go.Deep Go.Joins Go.EV
theorem okI {n : Int} (h : okK .i64 n) : i64 n := okK_i64 h
set_option maxRecDepth 100000 in
theorem exprComputes_lifted (os : Os) (started : os.Started) (H : Type) (enc : TypeId × Value → H) :
    ReturnsInHanded {} Try.checked os 3 .any (Rows.exprComputesSpec.pre6 enc Try.prog Try.f3 Rows.exprComputesRow.domain false) (Rows.exprComputesSpec.post enc Try.prog Try.f3 false true false false) := by
  refine returnsInHanded_of_change (C := Try.checked) own started (by kernel_rfl) Try.func3
    (ChangeSpec.witness6 (enc := enc) (C := Try.checked) false ⟨#[], #[.int .i64 0, .int .i64 0, .int .i64 0], []⟩ 8 (by kernel_rfl) (by kernel_rfl) (by kernel_rfl) (by kernel_rfl)) ?_
  intro W base args ds gs before hval0 hW hcnd _
  have hval : ∀ (j : Nat) t v, Try.f3.params[j]? = some t → args[j]? = some v → Value.okWide Try.prog W .any base t v := hval0
  have hW' := hW
  obtain ⟨p, q, hA0, hV, rfl, hfz, hnd⟩ := hW
  have hA : DataW.TrodAll enc Try.prog W 0 (fun _ => true) true Try.f3.params.toList args.toList ds p := hA0
  rw [Try.params3] at hA hval
  have hA1 := hA
  obtain ⟨v0, vs, d0, ds, p0, q0, ha, rfl, rfl, h0, hA⟩ := trodAll_cons hA
  obtain ⟨v1, vs, d1, ds, p1, q1, rfl, rfl, rfl, h1, hA⟩ := trodAll_cons hA
  obtain ⟨v2, vs, d2, ds, p2, q2, rfl, rfl, rfl, h2, hA⟩ := trodAll_cons hA
  obtain ⟨rfl, rfl, rfl⟩ := trodAll_nil hA
  obtain ⟨rfl, rfl⟩ := trodVars_none hV
  have ha : args = #[v0, v1, v2] := by cases args; simp_all
  subst ha
  obtain ⟨x0, ox0, rx0⟩ := open_num (hval 0 3 v0 rfl rfl) h0
  obtain ⟨x1, ox1, rx1⟩ := open_num (hval 1 3 v1 rfl rfl) h1
  obtain ⟨x2, ox2, rx2⟩ := open_num (hval 2 3 v2 rfl rfl) h2
  simp only [List.append_nil] at hW'
  let fu : Fuel := ⟨18446744073709551616, Nat.le_refl _⟩
  refine Calls.mono (law_calls (f := 3) (args := [.int .i64 x0, .int .i64 x1, .int .i64 x2]) (vals := [v0, v1, v2]) (@w_greenbeltlaw17_ExprComputes fu x0 x1 x2 true (computes_true fu x0 x1 x2 (okI ox0) (okI ox1) (okI ox2))) ⟨_, _, rfl, rx0, ⟨_, _, rfl, rx1, ⟨_, _, rfl, rx2, rfl⟩⟩⟩) fun e W' ⟨he, hb⟩ => ?_
  subst he
  refine ⟨_, rfl, ?_⟩
  refine ⟨_, _, _, [], _, [], hW', ?_, below_allV laidOut hb _ _ _ _ (by kernel_rfl) hA1 (fun x hx => by simpa using hW'.lt x (by simpa using hx)), rfl, hb.frame _, fun h => by cases h⟩
  exact trodAll_mk1 (shut_bool Try.underlying4 true)
theorem exprComputes_holds : Rows.ExprComputesSaid :=
  OpenClaim.holds_of_wide 3 Try.f3 rfl rfl rfl rfl rfl rfl rfl ⟨rfl, rfl, rfl, rfl, rfl⟩ rfl rfl rfl rfl rfl (by kernel_rfl) Try.func3 (by kernel_rfl)
    (of_decide_eq_true (by kernel_rfl)) (by unfold Func.isWrapper; rw [if_neg (by decide +kernel)]; exact ⟨rfl, rfl⟩)
    (fun os started H enc _ => exprComputes_lifted os started H enc)
#print axioms exprComputes_holds
end Go.Proofs.Ytconjkgifdfhdab
