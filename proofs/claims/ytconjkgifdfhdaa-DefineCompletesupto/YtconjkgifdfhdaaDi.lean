/- The reference of define: names, what uses what. -/
import Derived.Test.YtconjkgifdfhdaaDh
set_option linter.all false
set_option maxRecDepth 100000
namespace Go.Proofs.Ytconjkgifdfhdaa
open Go Go.RowKit Go.Eng Go.EV Go.Grf
theorem toNat_nat' (n : Nat) : Int.toNat (n : Int) = n := by simp
theorem cut_of {α : Type} {l : List α} {a b : Nat} (h1 : a ≤ b) (h2 : b ≤ l.length) : cut l (a : Int) (b : Int) = some ((l.drop a).take (b - a)) := by
 unfold cut
 rw [if_pos ⟨by omega, by omega, by omega⟩, toNat_nat', toNat_nat', List.drop_take]
variable [Fuel]
theorem has_is {l : List (List UInt8)} {s : List UInt8} (hl : l.length < 2 ^ 62) : s_greenbeltref16_Has l s = some (decide (s ∈ l)) := by
 have key := for_all (L := s_greenbeltref16_Has_L1 l s) (s := (0 : Int)) (fun i a => a = (i : Int) ∧ ∀ j, j < i → l.getD j default ≠ s)
  (fun t => match t with | .inl r => r = true ∧ s ∈ l | .inr _ => s ∉ l) l.length (by omega) ⟨rfl, fun j hj => by omega⟩ (fun K i a h hi => ?_) (fun K a h => ?_)
 ·obtain ⟨t, h1, h2⟩ := key
  unfold s_greenbeltref16_Has
  rw [h1, Option.bind_some]
  cases t with
  | inl r => dsimp only at h2 ⊢; rw [h2.1, decide_eq_true h2.2]
  | inr u => dsimp only at h2 ⊢; rw [decide_eq_false h2]
 ·obtain ⟨rfl, h⟩ := h
  rw [s_greenbeltref16_Has_L1, decide_eq_true (by omega), cond_true, idx_of hi, Option.bind_some, w64_succ hi (by omega)]
  by_cases e : l.getD i default = s
  ·rw [decide_eq_true e, cond_true]
   refine .inl ⟨.inl true, rfl, ?_⟩
   dsimp only
   exact ⟨rfl, by rw [← e]; exact getD_mem hi⟩
  ·rw [decide_eq_false e, cond_false]
   refine .inr ⟨_, ⟨rfl, fun j hj => ?_⟩, rfl⟩
   by_cases hji : j = i
   ·subst hji; exact e
   ·exact h j (by omega)
 ·obtain ⟨rfl, h⟩ := h
  refine ⟨.inr (), by rw [s_greenbeltref16_Has_L1, decide_eq_false (by omega), cond_false], ?_⟩
  dsimp only
  exact fun hm => by obtain ⟨j, hj, e⟩ := mem_getD hm; exact h j hj e.symm
structure Gb (N : Nat) (U : Nat → Nat → Prop) (use : List (List Bool)) : Prop where
 len : use.length = N
 row : ∀ i, i < N → (use.getD i default).length = N
 mem : ∀ i k, i < N → k < N → ((use.getD i default).getD k default = true ↔ U i k)
 dom : ∀ i k, U i k → i < N ∧ k < N
end Go.Proofs.Ytconjkgifdfhdaa
