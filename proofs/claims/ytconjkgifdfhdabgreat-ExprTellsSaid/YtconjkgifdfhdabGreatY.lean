/- ExprComputes: the operations on numbers. -/
import Derived.Test.YtconjkgifdfhdabGreatZ
set_option linter.all false
set_option maxRecDepth 100000
namespace Go.Proofs.YtconjkgifdfhdabGreat
open Go Go.RowKit Go.Eng Go.EV
def i64 (n : Int) : Prop := -9223372036854775808 ≤ n ∧ n ≤ 9223372036854775807
theorem w64_ex (n : Int) : ∃ k : Int, w64 n = n + 18446744073709551616 * k := by
 refine ⟨-((n + 9223372036854775808) / 18446744073709551616), ?_⟩
 show IntKind.i64.wrap n = _
 rw [IntKind.wrap_i64]; omega
theorem w64_shift (n k : Int) : w64 (n + 18446744073709551616 * k) = w64 n := by
 show IntKind.i64.wrap _ = IntKind.i64.wrap _
 rw [IntKind.wrap_i64, IntKind.wrap_i64]; omega
theorem w64_subL (x y : Int) : w64 (w64 x - y) = w64 (x - y) := by
 obtain ⟨k, hk⟩ := w64_ex x
 rw [hk, show x + 18446744073709551616 * k - y = x - y + 18446744073709551616 * k by omega, w64_shift]
theorem w64_subR (x y : Int) : w64 (x - w64 y) = w64 (x - y) := by
 obtain ⟨k, hk⟩ := w64_ex y
 rw [hk, show x - (y + 18446744073709551616 * k) = x - y + 18446744073709551616 * (-k) by omega, w64_shift]
theorem grdT : grd True = some () := rfl
theorem quotient_is (a b : Int) : s_expr_quotient a b = some (w64 (Int.fdiv a b)) := by
 unfold s_expr_quotient
 by_cases hb : b = 0
 ·subst hb; simp [Int.fdiv_zero]; rfl
 ·simp only [hb, decide_false, cF, ne_eq, not_false_eq_true, grdT, oB]
  have hd : (Int.tmod a b = 0) ↔ b ∣ a := ⟨Int.dvd_of_tmod_eq_zero, Int.tmod_eq_zero_of_dvd⟩
  have key : Int.fdiv a b = if (Int.tmod a b ≠ 0 ∧ ((Int.tmod a b < 0) ↔ ¬ b < 0)) then Int.tdiv a b - 1 else Int.tdiv a b := by
   rw [Int.fdiv_eq_tdiv]
   have hs : Int.tmod a b < 0 → a < 0 := fun h => by
    by_cases ha : 0 ≤ a
    ·have := Int.tmod_nonneg b ha; omega
    ·omega
   have hs2 : a < 0 → Int.tmod a b ≤ 0 := fun h => by
    have h1 := Int.tmod_nonneg b (a := -a) (by omega)
    rw [Int.neg_tmod] at h1; omega
   have hsg1 : 0 < b → b.sign = 1 := Int.sign_eq_one_of_pos
   have hsg2 : b < 0 → b.sign = -1 := Int.sign_eq_neg_one_of_neg
   by_cases h0 : Int.tmod a b = 0
   ·rw [if_pos (hd.1 h0), if_neg (fun h => h.1 h0)]; omega
   ·rw [if_neg (fun h => h0 (hd.2 h))]
    rcases Int.lt_or_gt_of_ne hb with hb' | hb'
    ·rw [hsg2 hb']
     by_cases ha : 0 ≤ a
     ·have := Int.tmod_nonneg b ha
      rw [if_pos ha, if_neg (show ¬ 0 ≤ b by omega), if_pos ⟨h0, by omega⟩]
     ·have := hs2 (by omega)
      rw [if_neg ha, if_neg (show ¬ 0 ≤ b by omega), if_neg (fun h => by have := h.2; omega)]; omega
    ·rw [hsg1 hb']
     by_cases ha : 0 ≤ a
     ·have := Int.tmod_nonneg b ha
      rw [if_pos ha, if_pos (show 0 ≤ b by omega), if_neg (fun h => by have := h.2; omega)]; omega
     ·have := hs2 (by omega)
      rw [if_neg ha, if_pos (show 0 ≤ b by omega), if_pos ⟨h0, by omega⟩]
  rw [key]
  by_cases h0 : Int.tmod a b = 0
  ·rw [if_neg (fun h => h.1 h0)]; simp [h0, grdT]
  ·by_cases h1 : (Int.tmod a b < 0 ↔ ¬ b < 0)
   ·rw [if_pos ⟨h0, h1⟩]
    have : (decide (Int.tmod a b < 0) == decide (b < 0)) = false := by
     by_cases h2 : b < 0 <;> simp [h2] at h1 ⊢ <;> omega
    simp only [h0, decide_false, Bool.not_false, cT, this, oB]
    rw [w64_subL]
   ·rw [if_neg (fun h => h1 h.2)]
    have : (decide (Int.tmod a b < 0) == decide (b < 0)) = true := by
     by_cases h2 : b < 0 <;> simp [h2] at h1 ⊢ <;> omega
    simp only [h0, decide_false, Bool.not_false, cT, this, Bool.not_true, cF, oB]
def bitI (b : Bool) : Int := bif b then 1 else 0
theorem bit_is (b : Bool) : s_expr_bit b = some (bitI b) := by cases b <;> rfl
def binI (op a b : Int) : Int :=
 if op = 4 then w64 (a + b) else if op = 5 then w64 (a - b) else if op = 6 then w64 (a * b) else if op = 7 then w64 (Int.fdiv a b) else if op = 8 then (if b = 0 then 0 else w64 (Int.fmod a b)) else if op = 10 then bitI (decide (a = b)) else if op = 11 then bitI (decide (a < b)) else if op = 12 then bitI (decide (a ≤ b)) else if op = 13 then bitI (!decide (a = 0) && !decide (b = 0)) else bitI (!decide (a = 0) || !decide (b = 0))
theorem binary_is (op a b : Int) : s_expr_binary op a b = some (binI op a b) := by
 unfold s_expr_binary binI
 simp only [quotient_is, bit_is, oB]
 by_cases h4 : op = 4
 ·simp [h4]
 by_cases h5 : op = 5
 ·simp [h5]
 by_cases h6 : op = 6
 ·simp [h6]
 by_cases h7 : op = 7
 ·simp [h7]
 by_cases h8 : op = 8
 ·by_cases hb : b = 0
  ·simp [h8, hb]
  ·simp only [h8, hb]
   have : w64 (a - w64 (w64 (Int.fdiv a b) * b)) = w64 (Int.fmod a b) := by
    rw [w64_subR]
    obtain ⟨k, hk⟩ := w64_ex (Int.fdiv a b)
    have h := Int.mul_fdiv_add_fmod a b
    rw [hk, Int.add_mul, show a - (Int.fdiv a b * b + 18446744073709551616 * k * b) = Int.fmod a b + 18446744073709551616 * (-(k * b)) by
     rw [Int.mul_comm (Int.fdiv a b) b, Int.mul_assoc]; omega, w64_shift]
   simp [this]
 by_cases h10 : op = 10
 ·simp [h10]
 by_cases h11 : op = 11
 ·simp [h11]
 by_cases h12 : op = 12
 ·simp [h12]
 by_cases h13 : op = 13
 ·by_cases ha : a = 0 <;> simp [h13, ha]
 ·by_cases ha : a = 0 <;> simp [h4, h5, h6, h7, h8, h10, h11, h12, h13, ha]
end Go.Proofs.YtconjkgifdfhdabGreat
