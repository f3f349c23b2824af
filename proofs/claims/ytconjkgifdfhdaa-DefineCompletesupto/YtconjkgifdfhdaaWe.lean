/- DefineCompletes answers true whatever the input, and leaves the input as it was, where the arguments hold together at most 1048576 values and letters. -/
import Derived.Test.YtconjkgifdfhdaaDt
import Derived.Test.YtconjkgifdfhdaaS
import Derived.Test.YtconjkgifdfhdaaDr
set_option linter.all false
namespace Go.Proofs.Ytconjkgifdfhdaa
open Go Go.ChangeShapes Go.WideShapes Go.ChangeAt Go.RowKit Go.Deep Go.Joins Go.EV
set_option maxRecDepth 100000 in
theorem defineCompletes_lifted (os : Os) (started : os.Started) (H : Type) (enc : TypeId × Value → H) (F : Stop.Interp) :
    ReturnsInHanded {} Try.checked os 7 .any ((Rows.OpenSpec.upto Rows.defineCompletesSpec).pre6 enc Try.prog Try.f7 Rows.defineCompletesUptoRow.domain false) (((Rows.OpenSpec.upto Rows.defineCompletesSpec).at F).post enc Try.prog Try.f7 false true false false) := by
  refine returnsInHanded_of_cond (C := Try.checked) (s := Rows.OpenSpec.upto Rows.defineCompletesSpec) (k := Rows.uptoSmall) rfl own started (by kernel_rfl) Try.func7
    (OpenSpec.witness (enc := enc) (C := Try.checked) (s := Rows.OpenSpec.upto Rows.defineCompletesSpec) (k := Rows.uptoSmall) rfl false ⟨#[], #[.agg #[.slice none 0 0, .slice none 0 0, .slice none 0 0, .slice none 0 0, .slice none 0 0, .slice none 0 0, .slice none 0 0, .int .i64 0]], []⟩ 8 (by kernel_rfl) (by kernel_rfl) (by kernel_rfl)
      (x := ([.agg [.nil, .nil, .nil, .nil, .nil, .nil, .nil, .lit (.int .i64 0)]], [], [])) (by kernel_rfl) rfl (by kernel_rfl)) ?_
  intro W base args ds gs before hval0 hW hcnd hkb _
  have hbulk : Rows.uptoBulkAll (ds ++ gs) ≤ 1048576 := of_decide_eq_true hkb
  have hval : ∀ (j : Nat) t v, Try.f7.params[j]? = some t → args[j]? = some v → Value.okWide Try.prog W .any base t v := hval0
  have hW' := hW
  obtain ⟨p, q, hA0, hV, rfl, hfz, hnd⟩ := hW
  have hA : DataW.TrodAll enc Try.prog W 0 (fun _ => true) true Try.f7.params.toList args.toList ds p := hA0
  rw [Try.params7] at hA hval
  have hA1 := hA
  obtain ⟨v0, vs, d0, ds, p0, q0, ha, rfl, rfl, h0, hA⟩ := trodAll_cons hA
  obtain ⟨rfl, rfl, rfl⟩ := trodAll_nil hA
  obtain ⟨rfl, rfl⟩ := trodVars_none hV
  have ha : args = #[v0] := by cases args; simp_all
  subst ha
  have bx0 : Rows.uptoBulk d0 ≤ 1048576 := Nat.le_trans (bulk_part (l := [d0] ++ []) (by simp)) hbulk
  obtain ⟨x0, ox0, rx0, wx0⟩ := open_30 (hval 0 30 v0 rfl rfl) h0
  simp only [List.append_nil] at hW'
  let fu : Fuel := ⟨18446744073709551616, Nat.le_refl _⟩
  refine Calls.mono (law_calls (f := 7) (args := [.agg (enc_Plan x0)]) (vals := [v0]) (@w_greenbeltlaw16_DefineCompletes fu x0 true (completes_true x0 (plan_bnd ox0 (Nat.le_trans wx0 bx0)))) ⟨_, _, rfl, rx0, rfl⟩) fun e W' ⟨he, hb⟩ => ?_
  subst he
  refine ⟨_, rfl, ?_⟩
  refine ⟨_, _, _, [], _, [], hW', ?_, below_allV laidOut hb _ _ _ _ (by kernel_rfl) hA1 (fun x hx => by simpa using hW'.lt x (by simpa using hx)), rfl, hb.frame _, fun h => by cases h⟩
  exact trodAll_mk1 (shut_bool Try.underlying4 true)
theorem defineCompletes_over : Rows.defineCompletesUptoRow.holds Try.pinned (Rows.OpenSpec.upto Rows.defineCompletesSpec) :=
  OpenClaim.holds_of_cond 7 Try.f7 rfl rfl rfl rfl rfl rfl rfl ⟨rfl, rfl, rfl, rfl, rfl⟩ rfl rfl rfl rfl rfl (by kernel_rfl) Try.func7 (by kernel_rfl)
    (of_decide_eq_true (by kernel_rfl)) (by unfold Func.isWrapper; first | (rw [if_pos (by decide +kernel)]; kernel_rfl) | (rw [if_neg (by decide +kernel)]; exact ⟨rfl, rfl⟩))
    (fun os started H enc _ F => defineCompletes_lifted os started H enc F)
theorem defineCompletes_holds : Rows.DefineCompletesUptoSaid := defineCompletes_over
#print axioms defineCompletes_holds
end Go.Proofs.Ytconjkgifdfhdaa
