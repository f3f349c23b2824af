/- ExprComputes: the operations on numbers. -/
import Derived.Test.YtconjkgifdfhdabZ
set_option linter.all false
set_option maxRecDepth 100000
namespace Go.Proofs.Ytconjkgifdfhdab
open Go Go.RowKit Go.Eng Go.EV
def i64 (n : Int) : Prop := -9223372036854775808 ≤ n ∧ n ≤ 9223372036854775807
theorem w64_of {n : Int} (h : i64 n) : w64 n = n := w64_id h.1 h.2
theorem w64_ex (n : Int) : ∃ k : Int, w64 n = n + 18446744073709551616 * k := by
 refine ⟨-((n + 9223372036854775808) / 18446744073709551616), ?_⟩
 show IntKind.i64.wrap n = _
 rw [IntKind.wrap_i64]; omega
theorem w64_shift (n k : Int) : w64 (n + 18446744073709551616 * k) = w64 n := by
 show IntKind.i64.wrap _ = IntKind.i64.wrap _
 rw [IntKind.wrap_i64, IntKind.wrap_i64]; omega
theorem w64_addL (x y : Int) : w64 (w64 x + y) = w64 (x + y) := by
 obtain ⟨k, hk⟩ := w64_ex x
 rw [hk, show x + 18446744073709551616 * k + y = x + y + 18446744073709551616 * k by omega, w64_shift]
theorem w64_subL (x y : Int) : w64 (w64 x - y) = w64 (x - y) := by
 obtain ⟨k, hk⟩ := w64_ex x
 rw [hk, show x + 18446744073709551616 * k - y = x - y + 18446744073709551616 * k by omega, w64_shift]
theorem w64_subR (x y : Int) : w64 (x - w64 y) = w64 (x - y) := by
 obtain ⟨k, hk⟩ := w64_ex y
 rw [hk, show x - (y + 18446744073709551616 * k) = x - y + 18446744073709551616 * (-k) by omega, w64_shift]
theorem w64_mulR (x y : Int) : w64 (x * w64 y) = w64 (x * y) := by
 obtain ⟨k, hk⟩ := w64_ex y
 rw [hk, Int.mul_add, show x * (18446744073709551616 * k) = 18446744073709551616 * (x * k) by rw [Int.mul_left_comm], w64_shift]
theorem grdT : grd True = some () := rfl
theorem quotient_is (a b : Int) : s_expr_quotient a b = some (w64 (Int.fdiv a b)) := by
 unfold s_expr_quotient
 by_cases hb : b = 0
 ·subst hb; simp [Int.fdiv_zero]; rfl
 ·simp only [hb, decide_false, cond_false, ne_eq, not_false_eq_true, grdT, Option.bind_some]
  have hd : (Int.tmod a b = 0) ↔ b ∣ a := ⟨Int.dvd_of_tmod_eq_zero, Int.tmod_eq_zero_of_dvd⟩
  have key : Int.fdiv a b = if (Int.tmod a b ≠ 0 ∧ ((Int.tmod a b < 0) ↔ ¬ b < 0)) then Int.tdiv a b - 1 else Int.tdiv a b := by
   rw [Int.fdiv_eq_tdiv]
   have hs : Int.tmod a b < 0 → a < 0 := fun h => by
    by_cases ha : 0 ≤ a
    ·have := Int.tmod_nonneg b ha; omega
    ·omega
   have hs2 : a < 0 → Int.tmod a b ≤ 0 := fun h => by
    have h1 := Int.tmod_nonneg b (a := -a) (by omega)
    rw [Int.neg_tmod] at h1; omega
   have hsg1 : 0 < b → b.sign = 1 := Int.sign_eq_one_of_pos
   have hsg2 : b < 0 → b.sign = -1 := Int.sign_eq_neg_one_of_neg
   by_cases h0 : Int.tmod a b = 0
   ·rw [if_pos (hd.1 h0), if_neg (fun h => h.1 h0)]; omega
   ·rw [if_neg (fun h => h0 (hd.2 h))]
    rcases Int.lt_or_gt_of_ne hb with hb' | hb'
    ·rw [hsg2 hb']
     by_cases ha : 0 ≤ a
     ·have := Int.tmod_nonneg b ha
      rw [if_pos ha, if_neg (show ¬ 0 ≤ b by omega), if_pos ⟨h0, by omega⟩]
     ·have := hs2 (by omega)
      rw [if_neg ha, if_neg (show ¬ 0 ≤ b by omega), if_neg (fun h => by have := h.2; omega)]; omega
    ·rw [hsg1 hb']
     by_cases ha : 0 ≤ a
     ·have := Int.tmod_nonneg b ha
      rw [if_pos ha, if_pos (show 0 ≤ b by omega), if_neg (fun h => by have := h.2; omega)]; omega
     ·have := hs2 (by omega)
      rw [if_neg ha, if_pos (show 0 ≤ b by omega), if_pos ⟨h0, by omega⟩]
  rw [key]
  by_cases h0 : Int.tmod a b = 0
  ·rw [if_neg (fun h => h.1 h0)]; simp [h0, grdT]
  ·by_cases h1 : (Int.tmod a b < 0 ↔ ¬ b < 0)
   ·rw [if_pos ⟨h0, h1⟩]
    have : (decide (Int.tmod a b < 0) == decide (b < 0)) = false := by
     by_cases h2 : b < 0 <;> simp [h2] at h1 ⊢ <;> omega
    simp only [h0, decide_false, Bool.not_false, cond_true, this, Option.bind_some]
    rw [w64_subL]
   ·rw [if_neg (fun h => h1 h.2)]
    have : (decide (Int.tmod a b < 0) == decide (b < 0)) = true := by
     by_cases h2 : b < 0 <;> simp [h2] at h1 ⊢ <;> omega
    simp only [h0, decide_false, Bool.not_false, cond_true, this, Bool.not_true, cond_false, Option.bind_some]
theorem fmod_bound {a b : Int} (hb : b ≠ 0) : (0 < b → 0 ≤ Int.fmod a b ∧ Int.fmod a b < b) ∧ (b < 0 → Int.fmod a b ≤ 0 ∧ b < Int.fmod a b) := by
 refine ⟨fun h => ⟨Int.fmod_nonneg_of_pos a h, Int.fmod_lt_of_pos a h⟩, fun h => ?_⟩
 have h1 := Int.fmod_nonneg_of_pos (-a) (b := -b) (by omega)
 have h2 := Int.fmod_lt_of_pos (-a) (b := -b) (by omega)
 rw [Int.neg_fmod_neg] at h1 h2
 omega
def bitI (b : Bool) : Int := bif b then 1 else 0
theorem bit_is (b : Bool) : s_expr_bit b = some (bitI b) := by cases b <;> rfl
def binI (op a b : Int) : Int :=
 if op = 4 then w64 (a + b) else if op = 5 then w64 (a - b) else if op = 6 then w64 (a * b) else if op = 7 then w64 (Int.fdiv a b) else if op = 8 then (if b = 0 then 0 else w64 (Int.fmod a b)) else if op = 10 then bitI (decide (a = b)) else if op = 11 then bitI (decide (a < b)) else if op = 12 then bitI (decide (a ≤ b)) else if op = 13 then bitI (!decide (a = 0) && !decide (b = 0)) else bitI (!decide (a = 0) || !decide (b = 0))
theorem binary_is (op a b : Int) : s_expr_binary op a b = some (binI op a b) := by
 unfold s_expr_binary binI
 simp only [quotient_is, bit_is, Option.bind_some]
 by_cases h4 : op = 4
 ·simp [h4]
 by_cases h5 : op = 5
 ·simp [h5]
 by_cases h6 : op = 6
 ·simp [h6]
 by_cases h7 : op = 7
 ·simp [h7]
 by_cases h8 : op = 8
 ·by_cases hb : b = 0
  ·simp [h8, hb]
  ·simp only [h8, hb]
   have : w64 (a - w64 (w64 (Int.fdiv a b) * b)) = w64 (Int.fmod a b) := by
    rw [w64_subR]
    obtain ⟨k, hk⟩ := w64_ex (Int.fdiv a b)
    have h := Int.mul_fdiv_add_fmod a b
    rw [hk, Int.add_mul, show a - (Int.fdiv a b * b + 18446744073709551616 * k * b) = Int.fmod a b + 18446744073709551616 * (-(k * b)) by
     rw [Int.mul_comm (Int.fdiv a b) b, Int.mul_assoc]; omega, w64_shift]
   simp [this]
 by_cases h10 : op = 10
 ·simp [h10]
 by_cases h11 : op = 11
 ·simp [h11]
 by_cases h12 : op = 12
 ·simp [h12]
 by_cases h13 : op = 13
 ·by_cases ha : a = 0 <;> simp [h13, ha]
 ·by_cases ha : a = 0 <;> simp [h4, h5, h6, h7, h8, h10, h11, h12, h13, ha]
section
variable (m : Nat) (hb : 18446744073709551616 ≤ m + 100)
abbrev P0 : Plan := Plan.mk [] [] [] [] [] [] [] 0
theorem order_0 : @s_define_Order (FF m hb) P0 = some ([], [], 0) := rfl
theorem prep_0 : @s_expr_prepare (FF m hb) P0 [] [] = some (P0, [], [], []) := by
 rw [@prep_of (FF m hb) _ _ _ _ (order_0 m hb)]; rfl
theorem eval_0 {e : Expr} {v : Int} (hr : @s_expr_Right (FF m hb) e = some true) (hv : @s_expr_context_value (FF m hb) (m + 100) P0 [] [] e = some v) : @s_expr_Eval_2 (FF m hb) P0 [] [] e = some v := by
 show (@s_expr_Right (FF m hb) e).bind (fun y1 => (bif (!y1) then some 0 else (@s_expr_prepare (FF m hb) P0 [] []).bind fun y2 => (@s_expr_context_value (FF m hb) (m + 100) y2.1 y2.2.2.2 y2.2.1 e).bind fun y3 => some y3)) = _
 rw [hr, prep_0]
 show (@s_expr_context_value (FF m hb) (m + 100) P0 [] [] e).bind _ = _
 rw [hv]; rfl
abbrev numE (n : Int) : Expr := Expr.mk 0 n [] [] []
theorem eval_4 (a b : Int) : @s_expr_Eval_2 (FF m hb) P0 [] [] (Expr.mk 4 0 [] [] [numE a, numE b]) = some (binI 4 a b) := eval_0 m hb rfl (by
 show (s_expr_binary 4 a b).bind (fun y6 => some y6) = _
 rw [binary_is]; rfl)
theorem eval_5 (a b : Int) : @s_expr_Eval_2 (FF m hb) P0 [] [] (Expr.mk 5 0 [] [] [numE a, numE b]) = some (binI 5 a b) := eval_0 m hb rfl (by
 show (s_expr_binary 5 a b).bind (fun y6 => some y6) = _
 rw [binary_is]; rfl)
theorem eval_6 (a b : Int) : @s_expr_Eval_2 (FF m hb) P0 [] [] (Expr.mk 6 0 [] [] [numE a, numE b]) = some (binI 6 a b) := eval_0 m hb rfl (by
 show (s_expr_binary 6 a b).bind (fun y6 => some y6) = _
 rw [binary_is]; rfl)
theorem eval_7 (a b : Int) : @s_expr_Eval_2 (FF m hb) P0 [] [] (Expr.mk 7 0 [] [] [numE a, numE b]) = some (binI 7 a b) := eval_0 m hb rfl (by
 show (s_expr_binary 7 a b).bind (fun y6 => some y6) = _
 rw [binary_is]; rfl)
theorem eval_8 (a b : Int) : @s_expr_Eval_2 (FF m hb) P0 [] [] (Expr.mk 8 0 [] [] [numE a, numE b]) = some (binI 8 a b) := eval_0 m hb rfl (by
 show (s_expr_binary 8 a b).bind (fun y6 => some y6) = _
 rw [binary_is]; rfl)
theorem eval_10 (a b : Int) : @s_expr_Eval_2 (FF m hb) P0 [] [] (Expr.mk 10 0 [] [] [numE a, numE b]) = some (binI 10 a b) := eval_0 m hb rfl (by
 show (s_expr_binary 10 a b).bind (fun y6 => some y6) = _
 rw [binary_is]; rfl)
theorem eval_11 (a b : Int) : @s_expr_Eval_2 (FF m hb) P0 [] [] (Expr.mk 11 0 [] [] [numE a, numE b]) = some (binI 11 a b) := eval_0 m hb rfl (by
 show (s_expr_binary 11 a b).bind (fun y6 => some y6) = _
 rw [binary_is]; rfl)
theorem eval_12 (a b : Int) : @s_expr_Eval_2 (FF m hb) P0 [] [] (Expr.mk 12 0 [] [] [numE a, numE b]) = some (binI 12 a b) := eval_0 m hb rfl (by
 show (s_expr_binary 12 a b).bind (fun y6 => some y6) = _
 rw [binary_is]; rfl)
theorem eval_13 (a b : Int) : @s_expr_Eval_2 (FF m hb) P0 [] [] (Expr.mk 13 0 [] [] [numE a, numE b]) = some (binI 13 a b) := eval_0 m hb rfl (by
 show (s_expr_binary 13 a b).bind (fun y6 => some y6) = _
 rw [binary_is]; rfl)
theorem eval_14 (a b : Int) : @s_expr_Eval_2 (FF m hb) P0 [] [] (Expr.mk 14 0 [] [] [numE a, numE b]) = some (binI 14 a b) := eval_0 m hb rfl (by
 show (s_expr_binary 14 a b).bind (fun y6 => some y6) = _
 rw [binary_is]; rfl)
theorem eval_9 (a : Int) : @s_expr_Eval_2 (FF m hb) P0 [] [] (Expr.mk 9 0 [] [] [numE a]) = some (w64 (0 - a)) := eval_0 m hb rfl rfl
theorem eval_15 (a : Int) : @s_expr_Eval_2 (FF m hb) P0 [] [] (Expr.mk 15 0 [] [] [numE a]) = some (bitI (decide (a = 0))) := eval_0 m hb rfl (by
 show (s_expr_bit (decide (a = 0))).bind (fun y6 => some y6) = _
 rw [bit_is]; rfl)
theorem eval_16 (a b c : Int) : @s_expr_Eval_2 (FF m hb) P0 [] [] (Expr.mk 16 0 [] [] [numE a, numE b, numE c]) = some (if a = 0 then c else b) := eval_0 m hb rfl (by
 by_cases ha : a = 0
 ·subst ha; rfl
 ·rw [if_neg ha]
  have h : decide (a = 0) = false := decide_eq_false ha
  have hv : ∀ n, @s_expr_context_value (FF m hb) (m + 99) P0 [] [] (numE n) = some n := fun n => rfl
  have e1 : @s_expr_context_value_L1 (@s_expr_context_value (FF m hb) (m + 99)) P0 [] [] (Expr.mk 16 0 [] [] [numE a, numE b, numE c]) (m + 96 + 1 + 1 + 1 + 1) (0, []) = some [a, b, 0] := by
   have h0 : idx [numE a, numE b, numE c] 0 = some (numE a) := rfl
   have h1 : idx [numE a, numE b, numE c] 1 = some (numE b) := rfl
   have h2 : idx [numE a, numE b, numE c] 2 = some (numE c) := rfl
   have w0 : w64 1 = 1 := by decide
   have w1 : w64 2 = 2 := by decide
   have w2 : w64 3 = 3 := by decide
   simp [s_expr_context_value_L1, h0, h1, h2, hv, w0, w1, w2, h, ha, grdT]
  show (Option.bind (@s_expr_context_value_L1 (@s_expr_context_value (FF m hb) (m + 99)) P0 [] [] (Expr.mk 16 0 [] [] [numE a, numE b, numE c]) (m + 96 + 1 + 1 + 1 + 1) (0, [])) fun v1 => (grd (0 ≤ (0 : Int) ∧ (0 : Int) < ((v1).length : Nat))).bind fun _ => (some (v1.getD (Int.toNat 0) default)).bind fun e4 => (bif (!(decide (e4 = 0))) then (grd (0 ≤ (1 : Int) ∧ (1 : Int) < ((v1).length : Nat))).bind fun _ => (some (v1.getD (Int.toNat 1) default)).bind fun e5 => some e5 else (grd (0 ≤ (2 : Int) ∧ (2 : Int) < ((v1).length : Nat))).bind fun _ => (some (v1.getD (Int.toNat 2) default)).bind fun e6 => some e6)) = _
  rw [e1]
  simp [ha, grdT])
theorem bitI_one (p : Bool) : decide (bitI p = 1) = p := by cases p <;> rfl
theorem computes_at (a b c : Int) (ha : i64 a) (hb' : i64 b) (hc : i64 c) : @s_greenbeltlaw17_ExprComputes (FF m hb) a b c = some true := by
 unfold s_greenbeltlaw17_ExprComputes
 simp only [s_greenbeltlaw17_num, s_greenbeltlaw17_op, Option.bind_some, small_true]
 rw [eval_7, eval_8, eval_4, eval_5, eval_6, eval_9, eval_10, eval_11, eval_12, eval_11, eval_13, eval_14, eval_15, eval_16]
 simp only [Option.bind_some, show ∀ x y, binI 4 x y = w64 (x + y) from fun _ _ => rfl, show ∀ x y, binI 5 x y = w64 (x - y) from fun _ _ => rfl, show ∀ x y, binI 6 x y = w64 (x * y) from fun _ _ => rfl, show ∀ x y, binI 7 x y = w64 (Int.fdiv x y) from fun _ _ => rfl, show ∀ x y, binI 8 x y = if y = 0 then 0 else w64 (Int.fmod x y) from fun _ _ => rfl, show ∀ x y, binI 10 x y = bitI (decide (x = y)) from fun _ _ => rfl, show ∀ x y, binI 11 x y = bitI (decide (x < y)) from fun _ _ => rfl, show ∀ x y, binI 12 x y = bitI (decide (x ≤ y)) from fun _ _ => rfl, show ∀ x y, binI 13 x y = bitI (!decide (x = 0) && !decide (y = 0)) from fun _ _ => rfl, show ∀ x y, binI 14 x y = bitI (!decide (x = 0) || !decide (y = 0)) from fun _ _ => rfl]
 generalize hq : w64 (Int.fdiv a b) = q
 generalize hr : (if b = 0 then 0 else w64 (Int.fmod a b)) = r
 have f1 : b = 0 → q = 0 ∧ r = 0 := fun h => by
  subst h
  rw [if_pos rfl] at hr
  rw [Int.fdiv_zero] at hq
  exact ⟨hq.symm.trans (by decide), hr.symm⟩
 have f2 : b ≠ 0 → w64 (w64 (b * q) + r) = a ∧ (0 < b → 0 ≤ r ∧ r < b) ∧ (b < 0 → r ≤ 0 ∧ b < r) := fun h => by
  rw [if_neg h] at hr
  obtain ⟨b1, b2⟩ := fmod_bound (a := a) h
  have hm : w64 (Int.fmod a b) = Int.fmod a b := by
   refine w64_id ?_ ?_ <;> unfold i64 at hb' <;> rcases Int.lt_or_gt_of_ne h with h' | h'
   ·have := b2 h'; omega
   ·have := b1 h'; omega
   ·have := b2 h'; omega
   ·have := b1 h'; omega
  rw [hm] at hr
  subst hr
  refine ⟨?_, b1, b2⟩
  rw [← hq, w64_mulR, w64_addL, Int.mul_fdiv_add_fmod, w64_of ha]
 have v1 : ((bif (decide (b = 0)) then (bif (!(decide (q = 0))) then some true else some (!(decide (r = 0)))) else some false) : Option Bool) = some false := by
  by_cases h : b = 0
  ·obtain ⟨h1, h2⟩ := f1 h; subst h h1 h2; rfl
  ·simp [h]
 rw [v1]
 simp only [Option.bind_some, cond_false]
 have v2 : ((bif (!(decide (b = 0))) then (bif (!(decide ((w64 ((w64 (b * q)) + r)) = a))) then some true else (bif (!(decide (r = 0))) then (bif (!((decide (r < 0)) == (decide (b < 0)))) then some true else (bif (decide (b > 0)) then (bif (decide (r ≥ b)) then some true else (bif (decide (b < 0)) then some (decide (r ≤ b)) else some false)) else (bif (decide (b < 0)) then some (decide (r ≤ b)) else some false))) else (bif (decide (b > 0)) then (bif (decide (r ≥ b)) then some true else (bif (decide (b < 0)) then some (decide (r ≤ b)) else some false)) else (bif (decide (b < 0)) then some (decide (r ≤ b)) else some false)))) else some false) : Option Bool) = some false := by
  by_cases h : b = 0
  ·simp [h]
  ·obtain ⟨h1, h2, h3⟩ := f2 h
   rw [decide_eq_true h1]
   rcases Int.lt_or_gt_of_ne h with h' | h'
   ·have h4 := h3 h'
    have g1 : ¬ b > 0 := by omega
    have g2 : ¬ r ≤ b := by omega
    have g3 : r ≠ 0 → r < 0 := fun _ => by omega
    by_cases hr0 : r = 0
    ·simp [h, h1, hr0, h', g1, show ¬ (0:Int) ≤ b by omega]
    ·simp [h, h1, hr0, h', g1, g2, g3 hr0]
   ·have h4 := h2 h'
    have g1 : ¬ b < 0 := by omega
    have g2 : ¬ b ≤ r := by omega
    have g3 : ¬ r < 0 := by omega
    by_cases hr0 : r = 0
    ·simp [h, h1, hr0, h', g1, show ¬ b ≤ (0:Int) by omega]
    ·simp [h, h1, hr0, h', g1, g2, g3]
 rw [v2]
 simp only [Option.bind_some, cond_false, decide_true, cond_true]
 have t1 : ((bif ((decide (bitI (decide (a = b)) = 1)) == (decide (a = b))) then (bif ((decide (bitI (decide (a < b)) = 1)) == (decide (a < b))) then (bif (decide ((w64 ((w64 (bitI (decide (a = b)) + bitI (decide (a < b)))) + bitI (decide (b < a)))) = 1)) then some (decide (bitI (decide (a ≤ b)) = (w64 (bitI (decide (a = b)) + bitI (decide (a < b)))))) else some false) else some false) else some false) : Option Bool) = some true := by
  rw [bitI_one, bitI_one]
  rcases Int.lt_trichotomy a b with h | h | h
  ·simp [h, show a ≠ b by omega, show ¬ b < a by omega, show a ≤ b by omega, bitI]; decide
  ·subst h; simp [bitI]; decide
  ·simp [h, show a ≠ b by omega, show ¬ a < b by omega, show ¬ a ≤ b by omega, bitI]; decide
 rw [t1]
 simp only [Option.bind_some]
 by_cases h0 : a = 0 <;> by_cases h1 : b = 0 <;> simp [h0, h1, bitI]
end
theorem computes_true : ∀ (i : Fuel) (a b c : Int), i64 a → i64 b → i64 c → @s_greenbeltlaw17_ExprComputes i a b c = some true := by
 rintro ⟨n, hb⟩ a b c ha hb' hc
 obtain ⟨m, rfl⟩ : ∃ m, n = m + 100 := ⟨n - 100, by omega⟩
 exact computes_at m hb a b c ha hb' hc
end Go.Proofs.Ytconjkgifdfhdab
