/- The reference evaluates to the same. -/
import Derived.Test.YtenljipeggacjaaGreatV
set_option linter.all false
set_option maxRecDepth 100000
namespace Go.Proofs.YtenljipeggacjaaGreat
open Go Go.RowKit Go.Eng Go.EV
variable [Fuel]
section
variable {rc : Plan → List (List UInt8 × Int) → List (List UInt8) → Expr → Option Int} {p : Plan} {known : List (List UInt8 × Int)} {z : List (List UInt8)} {e : Expr}
theorem L1_end {K : Nat} {v : List Int} (h : v.length = e.Args.length) : s_expr_context_value_L1 rc p known z e (K + 1) ((v.length : Int), v) = some v := by
  rw [s_expr_context_value_L1, decide_eq_false (by simp only; omega), cond_false]
theorem L1_next {K : Nat} {v : List Int} {y : Int} (hop : e.Op ≠ 16 ∨ v.length = 0) (hi : v.length < e.Args.length) (hl : e.Args.length ≤ 3) (hy : rc p known z (e.Args.getD v.length default) = some y) :
    s_expr_context_value_L1 rc p known z e (K + 1) ((v.length : Int), v) = s_expr_context_value_L1 rc p known z e K (((v ++ [y]).length : Nat), v ++ [y]) := by
  have hg : grd ((v ++ [y]).length * 8 ≤ 140737488355328) = some () := grd_of (by simp; omega)
  rw [s_expr_context_value_L1, decide_eq_true (by simp only; omega), cond_true]
  simp only
  rw [idx_of hi]
  simp only [Option.bind_some]
  have hc : (bif decide (e.Op = 16) then bif decide ((v.length : Int) > 0) then (grd (0 ≤ (0 : Int) ∧ (0 : Int) < ((v).length : Nat))).bind fun _ => some (!((!(decide (v.getD (Int.toNat 0) default = 0))) == (decide ((v.length : Int) = 1)))) else some false else some false) = some false := by
    rcases hop with h | h
    · rw [decide_eq_false h]; rfl
    · rw [decide_eq_false (show ¬ (v.length : Int) > 0 by omega)]; cases decide (e.Op = 16) <;> rfl
  rw [hc, Option.bind_some, cond_false, hy, Option.bind_some, hg, Option.bind_some, Option.bind_some, w64_id (by omega) (by omega), show (v.length : Int) + 1 = ((v ++ [y]).length : Nat) by simp]
theorem L1_if {K : Nat} {v : List Int} {y v0 : Int} (hop : e.Op = 16) (h0 : v.getD 0 default = v0) (hp : 0 < v.length) (hi : v.length < e.Args.length) (hl : e.Args.length ≤ 3) (hy : (!decide (v0 = 0)) = decide (v.length = 1) → rc p known z (e.Args.getD v.length default) = some y)
    (hn : (!decide (v0 = 0)) ≠ decide (v.length = 1) → y = 0) :
    s_expr_context_value_L1 rc p known z e (K + 1) ((v.length : Int), v) = s_expr_context_value_L1 rc p known z e K (((v ++ [y]).length : Nat), v ++ [y]) := by
  have hg : ∀ y : Int, grd ((v ++ [y]).length * 8 ≤ 140737488355328) = some () := fun y => grd_of (by simp; omega)
  rw [s_expr_context_value_L1, decide_eq_true (by simp only; omega), cond_true]
  simp only
  rw [idx_of hi]
  simp only [Option.bind_some]
  rw [decide_eq_true hop, decide_eq_true (show (v.length : Int) > 0 by omega), grd_of ⟨by omega, by omega⟩, show Int.toNat 0 = 0 from rfl, h0, show decide ((v.length : Int) = 1) = decide (v.length = 1) from decide_eq_decide.2 (by omega)]
  simp only [cond_true, Option.bind_some]
  by_cases hb : (!decide (v0 = 0)) = decide (v.length = 1)
  · rw [hb, beq_self_eq_true, Bool.not_true, cond_false, hy hb, Option.bind_some, hg, Option.bind_some, Option.bind_some, w64_id (by omega) (by omega), show (v.length : Int) + 1 = ((v ++ [y]).length : Nat) by simp]
  · have hy0 := hn hb
    subst hy0
    have : ((!decide (v0 = 0)) == decide (v.length = 1)) = false := by
      cases h : ((!decide (v0 = 0)) == decide (v.length = 1)) with
      | false => rfl
      | true => exact absurd (eq_of_beq h) hb
    rw [this, Bool.not_false, cond_true, hg, Option.bind_some, Option.bind_some, w64_id (by omega) (by omega), show (v.length : Int) + 1 = ((v ++ [0]).length : Nat) by simp]
end
theorem value_eq {known : List (List UInt8 × Int)} {m : List Entry} (hm : m.length < 2 ^ 62) (hk : ∀ k, mfind k known = firstE m k) : ∀ (n : Nat) (e : Expr) (K K' : Nat), n ≤ 12 → n < K → n < K' → levV n e ≤ n →
    ∃ v, s_expr_context_value K plan0 known [] e = some v ∧ s_greenbeltref17_value K' plan0 m [] [] e = some v
  | 0, e, K, K', _, _, _, h => by simp [levV] at h
  | n + 1, e, K, K', hn, hK, hK', h => by
    obtain ⟨K, rfl⟩ : ∃ K0, K = K0 + 1 := ⟨K - 1, by omega⟩
    obtain ⟨K', rfl⟩ : ∃ K0, K' = K0 + 1 := ⟨K' - 1, by omega⟩
    obtain ⟨h1, h2, h3⟩ := lev_args (by omega) h
    have h4 := (arV_le e.Op).2
    obtain ⟨kk, hkk⟩ := KK_succ
    have ih : ∀ i, i < e.Args.length → ∃ v, s_expr_context_value K plan0 known [] (e.Args.getD i default) = some v ∧ s_greenbeltref17_value K' plan0 m [] [] (e.Args.getD i default) = some v := fun i hi => value_eq hm hk n _ K K' (by omega) (by omega) (by omega) (h3 _ (getD_mem hi))
    rw [s_expr_context_value, s_greenbeltref17_value, s_named hm, row17, has17, row0, contains0, hk]
    by_cases o0 : e.Op = 0 ∨ e.Op = 1 ∨ e.Op = 2 ∨ e.Op = 3
    · have ha : (arV e.Op).1 = 0 := by unfold arV; rw [if_pos o0]
      have hl : s_expr_context_value_L1 (s_expr_context_value K) plan0 known [] e KK (0, []) = some [] := by
        rw [hkk]; exact L1_end (v := []) (by simp; omega)
      rw [hl, Option.bind_some]
      rcases o0 with o | o | o | o <;> rw [o]
      · exact ⟨_, rfl, rfl⟩
      · exact ⟨_, rfl, rfl⟩
      · exact ⟨_, rfl, rfl⟩
      · exact ⟨_, rfl, rfl⟩
    have o0' : e.Op ≠ 0 ∧ e.Op ≠ 1 ∧ e.Op ≠ 2 ∧ e.Op ≠ 3 := by simp only [not_or] at o0; exact o0
    rw [decide_eq_false o0'.1, decide_eq_false o0'.2.1, decide_eq_false o0'.2.2.1, decide_eq_false o0'.2.2.2]
    have hpos : 0 < e.Args.length := by
      have : 1 ≤ (arV e.Op).1 := by
        unfold arV; rw [if_neg o0]
        split
        · simp
        · split <;> simp
      omega
    obtain ⟨y0, a0, b0⟩ := ih 0 hpos
    have i0 : idx e.Args 0 = some (e.Args.getD 0 default) := idx_of hpos
    rw [i0]
    simp only [cond_false, Option.bind_some]
    rw [b0, Option.bind_some]
    have n0 : s_expr_context_value_L1 (s_expr_context_value K) plan0 known [] e KK (0, []) = s_expr_context_value_L1 (s_expr_context_value K) plan0 known [] e (kk + 9) (1, [y0]) := by
      rw [hkk]; exact L1_next (v := []) (y := y0) (.inr rfl) hpos (by omega) a0
    by_cases o9 : e.Op = 9
    · have ha : (arV e.Op).1 = 1 := by rw [o9]; rfl
      have hl : s_expr_context_value_L1 (s_expr_context_value K) plan0 known [] e KK (0, []) = some [y0] := by rw [n0]; exact L1_end (v := [y0]) (by simp; omega)
      rw [hl, o9]; exact ⟨_, rfl, rfl⟩
    by_cases o15 : e.Op = 15
    · have ha : (arV e.Op).1 = 1 := by rw [o15]; rfl
      have hl : s_expr_context_value_L1 (s_expr_context_value K) plan0 known [] e KK (0, []) = some [y0] := by rw [n0]; exact L1_end (v := [y0]) (by simp; omega)
      rw [hl, o15]
      simp only [bit17, bit_total]
      exact ⟨_, rfl, rfl⟩
    rw [decide_eq_false o9, decide_eq_false o15]
    by_cases o16 : e.Op = 16
    · have ha : (arV e.Op).1 = 3 := by rw [o16]; rfl
      obtain ⟨y1, a1, b1⟩ := ih 1 (by omega)
      obtain ⟨y2, a2, b2⟩ := ih 2 (by omega)
      have i1 : idx e.Args 1 = some (e.Args.getD 1 default) := idx_of (i := 1) (by omega)
      have i2 : idx e.Args 2 = some (e.Args.getD 2 default) := idx_of (i := 2) (by omega)
      rw [decide_eq_true o16]
      by_cases hz : y0 = 0
      · have hl : s_expr_context_value_L1 (s_expr_context_value K) plan0 known [] e KK (0, []) = some [y0, 0, y2] := by
          rw [n0]
          refine (L1_if (v := [y0]) (y := 0) (v0 := y0) o16 rfl (by simp) (by simp; omega) (by omega) (fun hh => by rw [decide_eq_true hz] at hh; simp at hh) (fun _ => rfl)).trans ?_
          refine (L1_if (v := [y0, 0]) (y := y2) (v0 := y0) o16 rfl (by simp) (by simp; omega) (by omega) (fun _ => a2) (fun hh => by rw [decide_eq_true hz] at hh; simp at hh)).trans ?_
          exact L1_end (v := [y0, 0, y2]) (by simp; omega)
        rw [hl, decide_eq_true hz]
        simp only [Bool.not_true, cond_false, cond_true, Option.bind_some]
        rw [i2, Option.bind_some, b2]
        refine ⟨y2, ?_, rfl⟩
        simp [grd, hz]
      · have hl : s_expr_context_value_L1 (s_expr_context_value K) plan0 known [] e KK (0, []) = some [y0, y1, 0] := by
          rw [n0]
          refine (L1_if (v := [y0]) (y := y1) (v0 := y0) o16 rfl (by simp) (by simp; omega) (by omega) (fun _ => a1) (fun hh => by rw [decide_eq_false hz] at hh; simp at hh)).trans ?_
          refine (L1_if (v := [y0, y1]) (y := 0) (v0 := y0) o16 rfl (by simp) (by simp; omega) (by omega) (fun hh => by rw [decide_eq_false hz] at hh; simp at hh) (fun _ => rfl)).trans ?_
          exact L1_end (v := [y0, y1, 0]) (by simp; omega)
        rw [hl, decide_eq_false hz]
        simp only [Bool.not_false, cond_false, cond_true, Option.bind_some]
        rw [i1, Option.bind_some, b1]
        refine ⟨y1, ?_, rfl⟩
        simp [grd, hz]
    · have ha : (arV e.Op).1 = 2 := by
        unfold arV
        rw [if_neg o0, if_neg (by omega), if_neg o16]
      obtain ⟨y1, a1, b1⟩ := ih 1 (by omega)
      have i1 : idx e.Args 1 = some (e.Args.getD 1 default) := idx_of (i := 1) (by omega)
      have hl : s_expr_context_value_L1 (s_expr_context_value K) plan0 known [] e KK (0, []) = some [y0, y1] := by
        rw [n0]
        refine (L1_next (v := [y0]) (y := y1) (.inl o16) (by simp; omega) (by omega) a1).trans ?_
        exact L1_end (v := [y0, y1]) (by simp; omega)
      obtain ⟨b, hb⟩ := binary_total e.Op y0 y1
      rw [decide_eq_false o16, hl]
      simp only [cond_false, Option.bind_some]
      rw [i1, Option.bind_some, b1, Option.bind_some, two17, hb]
      refine ⟨b, ?_, rfl⟩
      simp [grd, hb]
theorem All17 (m : List Entry) : s_greenbeltref17_All plan0 m [] = some [] := by
  obtain ⟨k, hk⟩ := KK_succ
  unfold s_greenbeltref17_All s_greenbeltref16_Order s_greenbeltref16_twice s_greenbeltref16_uses s_greenbeltref16_circle
  rw [hk]; rfl
theorem eval17 {m : List Entry} (h : m.length < 2 ^ 62) (e : Expr) : s_greenbeltref17_Eval plan0 m [] e = s_expr_Eval plan0 m [] e := by
  unfold s_greenbeltref17_Eval s_expr_Eval
  rw [s_exRight, s_Right17, Option.bind_some, Option.bind_some]
  by_cases hr : exRight e
  · obtain ⟨known, hp, hk⟩ := prepare_known h
    obtain ⟨v, h1, h2⟩ := value_eq h hk 12 e KK KK (by omega) (by have := KK_big; omega) (by have := KK_big; omega) hr
    rw [decide_eq_true hr, hp, All17]
    simp only [Bool.not_true, cond_false, Option.bind_some]
    rw [h1, h2]
  · rw [decide_eq_false hr]; rfl
end Go.Proofs.YtenljipeggacjaaGreat
