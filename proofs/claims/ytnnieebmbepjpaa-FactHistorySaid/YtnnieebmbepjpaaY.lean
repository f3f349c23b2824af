/- FactHistory answers true whatever the input, and leaves the input as it was. -/
import Derived.Test.YtnnieebmbepjpaaX
import Derived.Test.YtnnieebmbepjpaaN
set_option linter.all false
namespace Go.Proofs.Ytnnieebmbepjpaa
open Go.ChangeShapes Go.WideShapes Go.ChangeAt Go.RowKit Go.Deep Go.Joins
theorem history_is (v0 : Value) (l : List Fact) (s : List UInt8) (a b : Int) (W : World) (hl : Eng.Rd W encFact 5 v0 l) : Eng.FnIs Try.prog 5 [v0, Eng.str s, Eng.i64 a, Eng.i64 b] W (.bool true) :=
  EV.fnIs_of (r := .bool true) (fun _ _ _ h => h) (w_greenbeltlaw44_FactHistory l s a b true (history_true l s a b)) ⟨_, _, rfl, EV.rep_of_rd (fun _ => rfl) encFact_rep hl, _, _, rfl, rfl, _, _, rfl, rfl, _, _, rfl, rfl, rfl⟩
set_option maxRecDepth 100000 in
theorem history_lifted (os : Os) (started : os.Started) (H : Type) (enc : TypeId × Value → H) :
    ReturnsInHanded {} Try.checked os 5 .any (Rows.factHistorySpec.pre6 enc Try.prog Try.f5 Rows.factHistoryRow.domain false) (Rows.factHistorySpec.post enc Try.prog Try.f5 false true false false) := by
  refine returnsInHanded_of_change (C := Try.checked) Try.own started (by kernel_rfl) Try.func5
    (ChangeSpec.witness6 (enc := enc) (C := Try.checked) false ⟨#[], #[.slice none 0 0, .string ⟨#[]⟩, .int .i64 0, .int .i64 0], []⟩ 8 (by kernel_rfl) (by kernel_rfl) (by kernel_rfl) (by kernel_rfl)) ?_
  intro W base args ds gs before hval0 hW hcnd _
  have hval : ∀ (j : Nat) t v, Try.f5.params[j]? = some t → args[j]? = some v → Value.okWide Try.prog W .any base t v := hval0
  have hW' := hW
  obtain ⟨p, q, hA0, hV, rfl, hfz, hnd⟩ := hW
  have hA : DataW.TrodAll enc Try.prog W 0 (fun _ => true) true Try.f5.params.toList args.toList ds p := hA0
  rw [Try.params5] at hA hval
  have hA1 := hA
  obtain ⟨v0, vs, d0, ds, p0, q0, ha, rfl, rfl, h0, hA⟩ := trodAll_cons hA
  obtain ⟨v1, vs, d1, ds, p1, q1, rfl, rfl, rfl, h1, hA⟩ := trodAll_cons hA
  obtain ⟨v2, vs, d2, ds, p2, q2, rfl, rfl, rfl, h2, hA⟩ := trodAll_cons hA
  obtain ⟨v3, vs, d3, ds, p3, q3, rfl, rfl, rfl, h3, hA⟩ := trodAll_cons hA
  obtain ⟨rfl, rfl, rfl⟩ := trodAll_nil hA
  obtain ⟨rfl, rfl⟩ := trodVars_none hV
  have ha : args = #[v0, v1, v2, v3] := by cases args; simp_all
  subst ha
  obtain ⟨l, hl⟩ := open_facts (hval 0 22 v0 rfl rfl) h0
  obtain ⟨s, rfl⟩ := open_str (hval 1 9 v1 rfl rfl) h1
  obtain ⟨n2, rfl⟩ := open_num (hval 2 3 v2 rfl rfl) h2
  obtain ⟨n3, rfl⟩ := open_num (hval 3 3 v3 rfl rfl) h3
  simp only [List.append_nil] at hW'
  refine Calls.mono (history_is v0 l s n2 n3 W hl) fun e W' ⟨v, he, hb, hv⟩ => ?_
  subst he
  subst hv
  refine ⟨_, rfl, ?_⟩
  refine ⟨_, _, _, [], _, [], hW', ?_, below_all Try.laidOut hb _ _ _ _ (by kernel_rfl) hA1 (fun x hx => by simpa using hW'.lt x (by simpa using hx)), rfl, hb.frame _, fun h => by cases h⟩
  exact trodAll_mk1 (shut_bool Try.underlying4 true)
theorem history_holds : Rows.FactHistorySaid :=
  OpenClaim.holds_of_wide 5 Try.f5 rfl rfl rfl rfl rfl rfl rfl ⟨rfl, rfl, rfl, rfl, rfl⟩ rfl rfl rfl rfl rfl (by kernel_rfl) Try.func5 (by kernel_rfl)
    (of_decide_eq_true (by kernel_rfl)) (by unfold Func.isWrapper; rw [if_neg (by decide +kernel)]; exact ⟨rfl, rfl⟩)
    (fun os started H enc _ => history_lifted os started H enc)
#print axioms history_holds
end Go.Proofs.Ytnnieebmbepjpaa
