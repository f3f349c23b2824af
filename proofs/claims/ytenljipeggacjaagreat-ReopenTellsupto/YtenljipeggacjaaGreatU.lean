/- Right expressions have a value. -/
import Derived.Test.YtenljipeggacjaaGreatR
set_option linter.all false
set_option maxRecDepth 100000
namespace Go.Proofs.YtenljipeggacjaaGreat
open Go Go.RowKit Go.Eng Go.EV
variable [Fuel]
theorem KK_succ : ∃ k, KK = k + 10 := ⟨KK - 10, by have := KK_big; omega⟩
theorem value_L1 (rc : Plan → List (List UInt8 × Int) → List (List UInt8) → Expr → Option Int) (p : Plan) (known : List (List UInt8 × Int)) (z : List (List UInt8)) (e : Expr) (hx : ∀ x ∈ e.Args, ∃ y, rc p known z x = some y) (hl : e.Args.length ≤ 3) :
  ∀ (n K : Nat) (v : List Int), v.length + n = e.Args.length → n < K → ∃ v', s_expr_context_value_L1 rc p known z e K ((v.length : Int), v) = some v' ∧ v'.length = e.Args.length
 | 0, K, v, h, hK => by
  obtain ⟨K, rfl⟩ : ∃ K', K = K' + 1 := ⟨K - 1, by omega⟩
  rw [s_expr_context_value_L1, decide_eq_false (by simp; omega)]
  exact ⟨v, rfl, by omega⟩
 | n + 1, K, v, h, hK => by
  obtain ⟨K, rfl⟩ : ∃ K', K = K' + 1 := ⟨K - 1, by omega⟩
  have hi : v.length < e.Args.length := by omega
  have step : ∀ y : Int, ∃ v', (s_expr_context_value_L1 rc p known z e) K ((w64 ((v.length : Int) + 1)), v ++ [y]) = some v' ∧ v'.length = e.Args.length := fun y => by
   rw [w64_id (by omega) (by omega)]
   have := value_L1 rc p known z e hx hl n K (v ++ [y]) (by simp; omega) (by omega)
   simpa using this
  have hg : ∀ y : Int, grd ((v ++ [y]).length * 8 ≤ 140737488355328) = some () := fun y => grd_of (by simp; omega)
  obtain ⟨y, hy⟩ := hx (e.Args.getD v.length default) (by rw [List.getD_eq_getElem?_getD, List.getElem?_eq_getElem hi]; exact List.getElem_mem _)
  have hc : ∃ b, (bif decide (e.Op = 16) then bif decide ((v.length : Int) > 0) then (grd (0 ≤ (0 : Int) ∧ (0 : Int) < ((v).length : Nat))).bind fun _ => (some (v.getD (Int.toNat 0) default)).bind fun e1 => some (!((!(decide (e1 = 0))) == (decide ((v.length : Int) = 1)))) else some false else some false) = some b := by
   cases decide (e.Op = 16) with
   | false => exact ⟨_, rfl⟩
   | true =>
    by_cases h0 : (v.length : Int) > 0
    ·rw [decide_eq_true h0, grd_of ⟨by omega, by omega⟩]; exact ⟨_, rfl⟩
    ·rw [decide_eq_false h0]; exact ⟨_, rfl⟩
  obtain ⟨b, hb⟩ := hc
  rw [s_expr_context_value_L1, decide_eq_true (by omega), cond_true, idx_of hi, Option.bind_some]
  simp only
  rw [hb, Option.bind_some]
  cases b with
  | true => rw [cond_true, hg, Option.bind_some, Option.bind_some]; exact step 0
  | false => rw [cond_false, hy, Option.bind_some, hg, Option.bind_some, Option.bind_some]; exact step y
def plan0 : Plan := Plan.mk [] [] [] [] [] [] [] 0
theorem row_total (known : List (List UInt8 × Int)) (e : Expr) : ∃ r, s_expr_context_row plan0 known [] e = some r := by
 obtain ⟨k, hk⟩ := KK_succ
 refine ⟨0, ?_⟩
 unfold s_expr_context_row s_slices_IndexFunc_2
 rw [hk]; rfl
theorem contains_total (v : List UInt8) : ∃ r, s_slices_Contains [] v = some r := by
 obtain ⟨k, hk⟩ := KK_succ
 refine ⟨false, ?_⟩
 unfold s_slices_Contains s_slices_Index
 rw [hk]; rfl
theorem bit_total (b : Bool) : s_expr_bit b = some (bif b then 1 else 0) := by cases b <;> rfl
theorem quo_total (a b : Int) : ∃ r, s_expr_quotient a b = some r := by
 unfold s_expr_quotient
 by_cases hb : b = 0
 ·rw [decide_eq_true hb]; exact ⟨_, rfl⟩
 ·rw [decide_eq_false hb, grd_of hb, cond_false, Option.bind_some, Option.bind_some]
  cases decide (Int.tmod a b = 0) with
  | true => exact ⟨_, rfl⟩
  | false =>
   simp only [Bool.not_false, cond_true, Option.bind_some]
   cases (decide (Int.tmod a b < 0) == decide (b < 0)) <;> exact ⟨_, rfl⟩
theorem ex_bif {α : Type} {c : Bool} {x y : Option α} (hx : ∃ r, x = some r) (hy : ∃ r, y = some r) : ∃ r, (bif c then x else y) = some r := by cases c <;> assumption
theorem ex_bind {α β : Type} {o : Option α} {f : α → Option β} (ho : ∃ r, o = some r) (hf : ∀ a, ∃ r, f a = some r) : ∃ r, o.bind f = some r := by
 obtain ⟨r, rfl⟩ := ho; exact hf r
theorem binary_total (op a b : Int) : ∃ r, s_expr_binary op a b = some r := by
 obtain ⟨q, hq⟩ := quo_total a b
 unfold s_expr_binary
 simp only [hq, bit_total, Option.bind_some]
 repeat' (first | exact ⟨_, rfl⟩ | apply ex_bif | refine ex_bind ?_ fun _ => ?_)
theorem value_total (known : List (List UInt8 × Int)) : ∀ (n : Nat) (e : Expr) (K : Nat), n ≤ 12 → n < K → levV n e ≤ n → ∃ v, s_expr_context_value K plan0 known [] e = some v
 | 0, e, K, _, _, h => by simp [levV] at h
 | n + 1, e, K, hn, hK, h => by
  obtain ⟨K, rfl⟩ : ∃ K', K = K' + 1 := ⟨K - 1, by omega⟩
  obtain ⟨h1, h2, h3⟩ := lev_args (by omega) h
  have h4 := (arV_le e.Op).2
  obtain ⟨v, hv, hl⟩ := value_L1 (s_expr_context_value K) plan0 known [] e (fun x hx => value_total known n x K (by omega) (by omega) (h3 x hx)) (by omega) e.Args.length KK [] (by simp) (by have := KK_big; omega)
  rw [show (([] : List Int).length : Int) = 0 from rfl] at hv
  obtain ⟨r, hr⟩ := row_total known e
  obtain ⟨c, hc⟩ := contains_total e.S
  rw [s_expr_context_value, hv, Option.bind_some, hr, hc]
  by_cases o0 : e.Op = 0
  ·rw [decide_eq_true o0]; exact ⟨_, rfl⟩
  by_cases o1 : e.Op = 1
  ·rw [decide_eq_false o0, decide_eq_true o1]; exact ⟨_, rfl⟩
  by_cases o2 : e.Op = 2
  ·rw [decide_eq_false o0, decide_eq_false o1, decide_eq_true o2]; exact ⟨_, rfl⟩
  by_cases o3 : e.Op = 3
  ·rw [decide_eq_false o0, decide_eq_false o1, decide_eq_false o2, decide_eq_true o3]
   simp only [bit_total, Option.bind_some, cond_true, cond_false]; exact ⟨_, rfl⟩
  have g0 : (arV e.Op).1 ≥ 1 → grd (0 ≤ (0 : Int) ∧ (0 : Int) < ((v).length : Nat)) = some () := fun h => grd_of ⟨by omega, by omega⟩
  have g1 : (arV e.Op).1 ≥ 2 → grd (0 ≤ (1 : Int) ∧ (1 : Int) < ((v).length : Nat)) = some () := fun h => grd_of ⟨by omega, by omega⟩
  have g2 : (arV e.Op).1 ≥ 3 → grd (0 ≤ (2 : Int) ∧ (2 : Int) < ((v).length : Nat)) = some () := fun h => grd_of ⟨by omega, by omega⟩
  rw [decide_eq_false o0, decide_eq_false o1, decide_eq_false o2, decide_eq_false o3]
  by_cases o9 : e.Op = 9
  ·have ha : (arV e.Op).1 = 1 := by rw [o9]; rfl
   rw [decide_eq_true o9, g0 (by omega)]; exact ⟨_, rfl⟩
  by_cases o15 : e.Op = 15
  ·have ha : (arV e.Op).1 = 1 := by rw [o15]; rfl
   rw [decide_eq_false o9, decide_eq_true o15, g0 (by omega)]
   simp only [bit_total, Option.bind_some, cond_true, cond_false]; exact ⟨_, rfl⟩
  by_cases o16 : e.Op = 16
  ·have ha : (arV e.Op).1 = 3 := by rw [o16]; rfl
   rw [decide_eq_false o9, decide_eq_false o15, decide_eq_true o16, g0 (by omega), g1 (by omega), g2 (by omega)]
   simp only [Option.bind_some, cond_true, cond_false]
   cases decide (v.getD (Int.toNat 0) default = 0) <;> exact ⟨_, rfl⟩
  have ha : (arV e.Op).1 = 2 := by
   unfold arV
   rw [if_neg (by omega), if_neg (by omega), if_neg o16]
  obtain ⟨b, hb⟩ := binary_total e.Op (v.getD (Int.toNat 0) default) (v.getD (Int.toNat 1) default)
  rw [decide_eq_false o9, decide_eq_false o15, decide_eq_false o16, g0 (by omega), g1 (by omega)]
  simp only [Option.bind_some, cond_true, cond_false]
  rw [hb]; exact ⟨_, rfl⟩
end Go.Proofs.YtenljipeggacjaaGreat
