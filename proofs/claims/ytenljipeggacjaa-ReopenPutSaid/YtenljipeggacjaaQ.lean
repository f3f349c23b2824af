/- A fact more: what is known otherwise. -/
import Derived.Test.YtenljipeggacjaaP
set_option linter.all false
set_option maxRecDepth 100000
namespace Go.Proofs.Ytenljipeggacjaa
open Go Go.RowKit Go.Eng Go.EV
variable [Fuel]
section
variable {base : List Fact} {x : Fact} {key : List UInt8} {day known : Int}
theorem getD_app {k : Nat} (hk : k < base.length) : (base ++ [x]).getD k default = base.getD k default := by simp [List.getD_eq_getElem?_getD, List.getElem?_append_left hk]
theorem getD_new : (base ++ [x]).getD base.length default = x := by simp
theorem lastFrom_app : ∀ n, n ≤ base.length → lastFrom (base ++ [x]) key known n = lastFrom base key known n
  | 0, _ => rfl
  | n + 1, h => by
    have e : condB (base ++ [x]) key known (n : Int) = condB base key known n := by unfold condB; rw [Int.toNat_natCast, getD_app (by omega)]
    rw [lastFrom, lastFrom, e, lastFrom_app n (by omega)]
theorem lastIdx_app : lastIdx (base ++ [x]) key known = if x.Key = key ∧ x.Known ≤ known then (base.length : Int) :: lastIdx base key known else lastIdx base key known := by
  unfold lastIdx
  rw [List.length_append, List.length_cons, List.length_nil, lastFrom, lastFrom_app _ (Nat.le_refl _)]
  unfold condB
  rw [Int.toNat_natCast, getD_new]
  by_cases h1 : x.Key = key <;> by_cases h2 : x.Known ≤ known <;> simp [h1, h2]
theorem hitB_app {i : Int} (hi : i.toNat < base.length) : hitB (base ++ [x]) day i = hitB base day i := by unfold hitB; rw [getD_app hi]
theorem find_congr {α : Type} {p q : α → Bool} : ∀ {l : List α}, (∀ x ∈ l, p x = q x) → l.find? p = l.find? q
  | [], _ => rfl
  | x :: l, h => by rw [List.find?_cons, List.find?_cons, h x (List.mem_cons_self ..), find_congr fun y hy => h y (List.mem_cons_of_mem _ hy)]
theorem countsV_app (h : ¬ (x.Key = key ∧ x.Known ≤ known ∧ x.From ≤ day ∧ day < endV x)) : countsV (base ++ [x]) key day known = countsV base key day known := by
  have hc : (lastIdx base key known).find? (hitB (base ++ [x]) day) = (lastIdx base key known).find? (hitB base day) := find_congr fun i hi => hitB_app (lastIdx_mem hi).2
  unfold countsV
  rw [lastIdx_app]
  split
  · rename_i h1
    have : hitB (base ++ [x]) day (base.length : Int) = false := by
      unfold hitB
      rw [Int.toNat_natCast, getD_new]
      simp only [Bool.and_eq_false_iff, decide_eq_false_iff_not]
      by_cases h2 : x.From ≤ day
      · exact .inr fun h3 => h ⟨h1.1, h1.2, h2, h3⟩
      · exact .inl h2
    rw [List.find?_cons, this, hc]
  · rw [hc]
theorem rightB_iff : rightB base = true ↔ (∀ j, j < base.length → okAt base j (base.getD j default) = true) ∧ base.length ≤ 5000 := by
  unfold rightB
  rw [Bool.and_eq_true, Bool.not_eq_true', ← Bool.not_eq_true, List.any_eq_true, decide_eq_true_eq]
  constructor
  · rintro ⟨h1, h2⟩
    refine ⟨fun j hj => ?_, by omega⟩
    cases h : okAt base j (base.getD j default) with
    | true => rfl
    | false => exact absurd ⟨j, List.mem_range'_1.2 ⟨by omega, by omega⟩, by rw [h]; rfl⟩ h1
  · rintro ⟨h1, h2⟩
    refine ⟨?_, by omega⟩
    rintro ⟨j, hj, h⟩
    rw [h1 j (by have := List.mem_range'_1.1 hj; omega)] at h
    cases h
theorem rightB_app (h : rightB base = true) (hv : validB x = true) (hk : 0 < base.length → (base.getD (base.length - 1) default).Known ≤ x.Known) (hl : base.length < 5000) : rightB (base ++ [x]) = true := by
  obtain ⟨h1, h2⟩ := rightB_iff.1 h
  refine rightB_iff.2 ⟨fun j hj => ?_, by simp; omega⟩
  simp only [List.length_append, List.length_cons, List.length_nil] at hj
  by_cases hlt : j < base.length
  · have := h1 j hlt
    unfold okAt at this ⊢
    rw [getD_app hlt]
    by_cases h0 : 0 < j
    · rw [getD_app (show j - 1 < base.length by omega)]; exact this
    · rw [decide_eq_false h0] at this ⊢
      simpa using this
  · obtain rfl : j = base.length := by omega
    unfold okAt
    rw [getD_new, hv]
    by_cases h0 : 0 < base.length
    · rw [getD_app (show base.length - 1 < base.length by omega), decide_eq_false (show ¬ x.Known < (base.getD (base.length - 1) default).Known by have := hk h0; omega)]; simp
    · rw [decide_eq_false h0]; simp
theorem atF_app (h : rightB base = true) (h' : rightB (base ++ [x]) = true) (hn : ¬ (x.Key = key ∧ x.Known ≤ known ∧ x.From ≤ day ∧ day < endV x)) : atF (base ++ [x]) key day known = atF base key day known := by
  unfold atF
  rw [h, h', countsV_app hn]
  split
  · rfl
  · split
    · rfl
    · rename_i h3
      rw [getD_app (countsV_lt _ _ _ _ h3)]
end
end Go.Proofs.Ytenljipeggacjaa
