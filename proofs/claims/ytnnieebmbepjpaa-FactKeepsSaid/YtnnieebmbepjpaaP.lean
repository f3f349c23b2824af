/- the plain mathematics of chapter 44: what is put -/
import Derived.Test.YtnnieebmbepjpaaL
set_option linter.all false
namespace Go.Proofs.Ytnnieebmbepjpaa
open Go Go.Eng
theorem put_not (base : List Fact) (f : Fact) (h : (!decide ((putOf base f).2 = 0)) = true) : decide (((putOf base f).1.length : Int) = 0) = true := by
  unfold putOf at h ⊢
  split at h
  · rename_i h1; rw [if_pos h1]; rfl
  · rename_i h1; rw [if_neg h1]
    split at h
    · rename_i h2; rw [if_pos h2]; rfl
    · rename_i h2; rw [if_neg h2]
      split at h
      · rename_i h3; rw [if_pos h3]; rfl
      · cases h
theorem put_ok {base : List Fact} {f : Fact} (h : (!decide ((putOf base f).2 = 0)) = false) : rightB base = true ∧ validB f = true ∧ (0 < base.length → (base.getD ((base.length : Int) - 1).toNat default).known ≤ f.known) ∧ base.length < 5000 ∧ (putOf base f).1 = base ++ [f] := by
  unfold putOf at h ⊢
  split at h
  · cases h
  · rename_i h1
    split at h
    · cases h
    · rename_i h2
      split at h
      · cases h
      · rename_i h3
        rw [if_neg h1, if_neg h2, if_neg h3]
        simp only [Bool.or_eq_true, Bool.not_eq_true', not_or, Bool.not_eq_false] at h1
        simp only [Bool.and_eq_true, decide_eq_true_eq, not_and] at h2
        simp only [decide_eq_true_eq] at h3
        have := right_len base h1.1
        exact ⟨h1.1, h1.2, fun hp => by have := h2 (by omega); omega, by omega, rfl⟩
theorem getD_app (base : List Fact) (f : Fact) (k : Nat) (hk : k < base.length) : (base ++ [f]).getD k default = base.getD k default := by
  simp [List.getD_eq_getElem?_getD, List.getElem?_append_left hk]
theorem getD_new (base : List Fact) (f : Fact) : (base ++ [f]).getD base.length default = f := by simp
theorem rcTo_app (base : List Fact) (f : Fact) (key : List UInt8) (day known : Int) : ∀ n, n ≤ base.length → rcTo (base ++ [f]) key day known n = rcTo base key day known n
  | 0, _ => rfl
  | n + 1, h => by
    rw [rcTo, rcTo, getD_app base f n (by omega), rcTo_app base f key day known n (by omega)]
theorem rc_app (base : List Fact) (f : Fact) (key : List UInt8) (day known : Int) : rcountsOf (base ++ [f]) key day known = if ((decide (f.key = key) && decide (f.known ≤ known)) && hasB f day) then (base.length : Int) else rcountsOf base key day known := by
  unfold rcountsOf
  rw [List.length_append, List.length_cons, List.length_nil, rcTo, getD_new, rcTo_app base f key day known _ (Nat.le_refl _)]
theorem right_app {base : List Fact} {f : Fact} (h : rightB base = true) (hv : validB f = true) (hk : 0 < base.length → (base.getD ((base.length : Int) - 1).toNat default).known ≤ f.known) (hl : base.length < 5000) : rightB (base ++ [f]) = true := by
  simp only [rightB, Bool.and_eq_true, List.all_eq_true, decide_eq_true_eq] at h ⊢
  refine ⟨fun k hkm => ?_, by simp only [List.length_append, List.length_cons, List.length_nil]; omega⟩
  have hkl := List.mem_range.1 hkm
  simp only [List.length_append, List.length_cons, List.length_nil] at hkl
  rcases Nat.lt_succ_iff_lt_or_eq.1 hkl with hlt | rfl
  · have := h.1 k (List.mem_range.2 hlt)
    unfold okAt at this ⊢
    rw [getD_app base f k hlt]
    by_cases h0 : (k : Int) > 0
    · rw [getD_app base f _ (by omega)]; exact this
    · rw [decide_eq_false h0] at this ⊢
      simpa using this
  · unfold okAt
    rw [getD_new, hv]
    by_cases h0 : (base.length : Int) > 0
    · rw [getD_app base f _ (by omega), decide_eq_false (show ¬ f.known < (base.getD ((base.length : Int) - 1).toNat default).known by have := hk (by omega); omega)]; simp
    · rw [decide_eq_false h0]; simp
theorem put_has (base : List Fact) (f : Fact) (key : List UInt8) (day known : Int) (h : (!decide ((putOf base f).2 = 0)) = false)
    (hc : (((decide (key = f.key) && decide (known ≥ f.known)) && decide (day ≥ 0)) && hasB f day) = true) : ((atOf (putOf base f).1 key day known).2 && decide ((atOf (putOf base f).1 key day known).1 = f.value)) = true := by
  obtain ⟨h1, h2, h3, h4, h5⟩ := put_ok h
  have hr := right_app h1 h2 h3 h4
  simp only [Bool.and_eq_true, decide_eq_true_eq] at hc
  obtain ⟨⟨⟨hk, hkn⟩, hd⟩, hh⟩ := hc
  have hm : day ≤ 1073741824 := by
    simp only [hasB, Bool.and_eq_true, decide_eq_true_eq] at hh; exact hh.1.2
  have e : countsOf (base ++ [f]) key day known = base.length := by
    rw [← rc_eq _ _ _ _ hm, rc_app, if_pos]
    simp [hk, hkn, hh]
  rw [h5, at_of hr hd hm, e, if_neg (by omega), Int.toNat_natCast, getD_new]
  simp
theorem put_keeps (base : List Fact) (f : Fact) (key : List UInt8) (day known : Int) (h : (!decide ((putOf base f).2 = 0)) = false)
    (hc : (((decide (key = f.key) && decide (known ≥ f.known)) && decide (day ≥ 0)) && hasB f day) = false) : (((rightB (putOf base f).1 && decide (((putOf base f).1.length : Int) = (base.length : Int) + 1)) && decide ((atOf base key day known).1 = (atOf (putOf base f).1 key day known).1)) && ((atOf base key day known).2 == (atOf (putOf base f).1 key day known).2)) = true := by
  obtain ⟨h1, h2, h3, h4, h5⟩ := put_ok h
  have hr := right_app h1 h2 h3 h4
  have e : atOf (base ++ [f]) key day known = atOf base key day known := by
    by_cases hd : 0 ≤ day ∧ day ≤ 1073741824
    · have e : countsOf (base ++ [f]) key day known = countsOf base key day known := by
        rw [← rc_eq _ _ _ _ hd.2, rc_app, if_neg, rc_eq _ _ _ _ hd.2]
        intro hh
        simp only [Bool.and_eq_true, decide_eq_true_eq] at hh
        rw [decide_eq_true hh.1.1.symm, decide_eq_true hh.1.2, decide_eq_true hd.1, hh.2] at hc
        cases hc
      rw [at_of hr hd.1 hd.2, at_of h1 hd.1 hd.2, e]
      split
      · rfl
      · rename_i hn
        rw [getD_app base f _ (countsOf_lt base key day known (by omega))]
    · unfold atOf
      have : (decide (day < 0) || decide (day > 1073741824)) = true := by
        simp only [Bool.or_eq_true, decide_eq_true_eq]; omega
      simp only [this, Bool.true_or, if_true]
  rw [h5, hr, e]
  simp
end Go.Proofs.Ytnnieebmbepjpaa
