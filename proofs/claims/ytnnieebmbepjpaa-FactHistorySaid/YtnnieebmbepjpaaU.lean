/- chapter 44: FactCorrects answers true, plainly -/
import Derived.Test.YtnnieebmbepjpaaS
set_option linter.all false
namespace Go.Proofs.Ytnnieebmbepjpaa
open Go Go.Eng
section
theorem w64_id {n : Int} (h1 : -9223372036854775808 ≤ n) (h2 : n ≤ 9223372036854775807) : EV.w64 n = n := wrap64_id h1 h2
theorem idx_ok {α : Type} [Inhabited α] {l : List α} {i : Int} (h0 : 0 ≤ i) (h1 : i < l.length) : EV.idx l i = some (l.getD i.toNat default) := by
  unfold EV.idx; rw [if_pos ⟨h0, h1⟩]
theorem idx_nat {α : Type} [Inhabited α] {l : List α} {i : Nat} (h1 : i < l.length) : EV.idx l (i : Int) = some (l.getD i default) := idx_ok (by omega) (by omega)
theorem cor_loop (day : Int) (l : List Stay) (hl : l.length ≤ 1000)
    (hc : ∀ i, i < l.length → 0 ≤ (l.getD i default).from_ ∧ (l.getD i default).from_ ≤ (l.getD i default).to ∧ (l.getD i default).to ≤ 1073741824 ∧ (0 < i → (l.getD (i - 1) default).to < (l.getD i default).from_ - 1)) :
    ∀ m i n, i + m = l.length → m < n → s_greenbeltlaw44_FactCorrects_L1 day l n (inTo l day i, (i : Int)) = some (.inr (inTo l day l.length))
  | m, i, 0, _, h => by omega
  | 0, i, n + 1, h, _ => by
    rw [s_greenbeltlaw44_FactCorrects_L1]
    obtain rfl : i = l.length := by omega
    simp
  | m + 1, i, n + 1, h, hn => by
    have hi : i < l.length := by omega
    have ih := cor_loop day l hl hc m (i + 1) n (by omega) (by omega)
    obtain ⟨a1, a2, a3, a4⟩ := hc i hi
    rw [s_greenbeltlaw44_FactCorrects_L1]
    have e1 : ((i : Int) < l.length) = True := by simp; omega
    have e2 : EV.w64 ((i : Int) + 1) = ((i + 1 : Nat) : Int) := by rw [w64_id (by omega) (by omega)]; omega
    simp only [idx_nat hi, e1, decide_true, cond_true, Option.bind_some, e2]
    have c1 : decide ((l.getD i default).from_ < 0) = false := decide_eq_false (by omega)
    have c2 : decide ((l.getD i default).to < (l.getD i default).from_) = false := decide_eq_false (by omega)
    have c3 : decide ((l.getD i default).to > 1073741824) = false := decide_eq_false (by omega)
    have c4 : (bif decide ((i : Int) > 0) then (EV.idx l (EV.w64 ((i : Int) - 1))).bind fun x5 => some (decide (x5.to ≥ EV.w64 ((l.getD i default).from_ - 1))) else some false) = some false := by
      by_cases h0 : (i : Int) > 0
      · have := a4 (by omega)
        rw [decide_eq_true h0, cond_true, w64_id (by omega) (by omega), idx_ok (by omega) (by omega), Option.bind_some, show ((i : Int) - 1).toNat = i - 1 by omega, w64_id (by omega) (by omega), decide_eq_false (by omega)]
      · rw [decide_eq_false h0, cond_false]
    rw [c1, c2, c3]
    simp only [cond_false]
    rw [c4]
    simp only [Option.bind_some, cond_false]
    have c5 : (bif inTo l day i then some true else bif decide ((l.getD i default).from_ ≤ day) then some (decide (day ≤ (l.getD i default).to)) else some false) = some (inTo l day (i + 1)) := by
      rw [inTo]
      cases inTo l day i <;> cases decide ((l.getD i default).from_ ≤ day) <;> rfl
    rw [c5, Option.bind_some]
    exact ih
theorem corrects_true (base : List Fact) (key : List UInt8) (day k n : Int) : s_greenbeltlaw44_FactCorrects base key day k n = some true := by
  unfold s_greenbeltlaw44_FactCorrects s_small s_few s_right s_cor s_at s_stays
  simp only [Option.bind_some]
  cases hf : fewB base with
  | false => rfl
  | true =>
    simp only [Bool.not_true, cond_false]
    cases hr : rightB base with
    | false => rfl
    | true =>
      simp only [Bool.not_true, cond_false]
      by_cases h0 : day < 0
      · rw [decide_eq_true h0]; rfl
      rw [decide_eq_false h0, cond_false, Option.bind_some]
      by_cases hd : day > 1073741824
      · rw [decide_eq_true hd]; rfl
      rw [decide_eq_false hd, cond_false]
      have hlen := corOf_len base key k n
      have hb := few_len base hf
      obtain ⟨i1, i2, i3⟩ := cor_inv (key := key) (a := k) (b := n) hr
      have hloop := cor_loop day (corOf base key k n) (by omega) (fun i hi => by
        have hx := i1 _ (getD_mem hi)
        refine ⟨hx.1, hx.2.1, by omega, fun h => pair_getD i2 (show i - 1 < i by omega) hi⟩) (corOf base key k n).length 0 EV.KK (by omega) (by unfold EV.KK; omega)
      have e0 : inTo (corOf base key k n) day 0 = false := rfl
      rw [e0] at hloop
      have hloop' : s_greenbeltlaw44_FactCorrects_L1 day (corOf base key k n) EV.KK (false, 0) = some (.inr (inTo (corOf base key k n) day (corOf base key k n).length)) := hloop
      rw [hloop']
      simp only [Option.bind_some, cond_true]
      have hfound := cor_found base key k n day hr (by omega) (by omega) _ rfl
      rw [Bool.and_eq_true] at hfound
      obtain ⟨f1, f2⟩ := hfound
      rw [f2]
      cases hx : decide ((atOf base key day k).1 = (atOf base key day n).1) with
      | false => rw [hx] at f1; simp at f1; simp [f1]
      | true => rw [hx] at f1; simp at f1; simp [f1]
end
end Go.Proofs.Ytnnieebmbepjpaa
