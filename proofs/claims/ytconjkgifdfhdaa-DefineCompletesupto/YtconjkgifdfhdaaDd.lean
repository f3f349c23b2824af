/- define.Order. -/
import Derived.Test.YtconjkgifdfhdaaDg
set_option linter.all false
set_option maxRecDepth 100000
namespace Go.Grf
theorem all_le : ∀ (N : Nat) (l : List Nat), (∀ k, k < N → k ∈ l) → N ≤ l.length
 | 0, _, _ => Nat.zero_le _
 | N + 1, l, h => by
  have h1 : N ∈ l := h N (by omega)
  have h2 := all_le N (l.erase N) fun k hk => (List.mem_erase_of_ne (by omega)).2 (h k (by omega))
  rw [List.length_erase_of_mem h1] at h2
  have := List.length_pos_of_mem h1
  omega
theorem ready_ex {N : Nat} {U : Nat → Nat → Prop} (hU : ∀ i k, U i k → i < N ∧ k < N) (hac : ∀ i, i < N → ¬ Cyc U i) {o : List Nat} (hl : o.length < N) : ∃ x, x < N ∧ x ∉ o ∧ ∀ k, U x k → k ∈ o := by
 refine Classical.byContradiction fun hno => ?_
 have hs : ∃ s, s < N ∧ s ∉ o := Classical.byContradiction fun h => by
  have := all_le N o fun k hk => Classical.byContradiction fun hk' => h ⟨k, hk, hk'⟩
  omega
 obtain ⟨s, hs⟩ := hs
 obtain ⟨i, hi, hc⟩ := cyc_of_next (N := N) (U := U) (P := fun i => i < N ∧ i ∉ o) (s := s) hs (fun i h => h.1) fun i hi => Classical.byContradiction fun h => hno ⟨i, hi.1, hi.2, fun k hu => Classical.byContradiction fun hk => h ⟨k, hu, (hU _ _ hu).2, hk⟩⟩
 exact hac i hi.1 hc
def nInts (o : List Nat) : List Int := o.map fun (k : Nat) => (k : Int)
end Go.Grf
namespace Go.Proofs.Ytconjkgifdfhdaa
abbrev FF (m : Nat) (hb : 18446744073709551616 ≤ m + 100) : Fuel := ⟨m + 100, hb⟩
open Go Go.RowKit Go.Eng Go.EV Go.Grf
variable [Fuel]
theorem cf_is {s : List Int} {done : List Bool} (hs : s.length < 2 ^ 62) (hx : ∀ x ∈ s, ∃ k : Nat, x = k ∧ k < done.length) :
  ∃ b, s_slices_ContainsFunc s done = some (b, done) ∧ (b = true ↔ ∃ k : Nat, (k : Int) ∈ s ∧ done.getD k default = false) := by
 have key := for_all (L := s_slices_IndexFunc_L1 s) (s := ((0 : Int), done)) (fun i q => q.1 = (i : Int) ∧ q.2 = done ∧ ∀ j, j < i → ∀ k : Nat, s.getD j default = k → done.getD k default = true)
  (fun t => match t with | .inl r => 0 ≤ r.1 ∧ r.2 = done ∧ ∃ k : Nat, (k : Int) ∈ s ∧ done.getD k default = false | .inr d => d = done ∧ ∀ k : Nat, (k : Int) ∈ s → done.getD k default = true) s.length (by omega) ⟨rfl, rfl, fun j hj => by omega⟩ (fun K i q h hi => ?_) (fun K q h => ?_)
 ·obtain ⟨t, h1, h2⟩ := key
  unfold s_slices_ContainsFunc s_slices_IndexFunc
  rw [h1, Option.bind_some]
  cases t with
  | inl r =>
   obtain ⟨r, d⟩ := r
   dsimp only at h2
   obtain ⟨h2, rfl, h3⟩ := h2
   dsimp only
   rw [Option.bind_some]
   exact ⟨_, rfl, by simp only [decide_eq_true_eq]; exact ⟨fun _ => h3, fun _ => h2⟩⟩
  | inr d =>
   dsimp only at h2
   obtain ⟨rfl, h3⟩ := h2
   dsimp only
   rw [Option.bind_some]
   refine ⟨_, rfl, by simp only [decide_eq_true_eq]; exact ⟨fun h => by omega, fun ⟨k, hk, hf⟩ => by rw [h3 k hk] at hf; cases hf⟩⟩
 ·obtain ⟨a, d⟩ := q
  obtain ⟨e1, e2, h⟩ := h
  dsimp only at e1 e2 h; subst e1 e2
  obtain ⟨k, hk, hkd⟩ := hx _ (getD_mem hi)
  rw [s_slices_IndexFunc_L1, decide_eq_true (by dsimp only; omega), cond_true, idx_of hi, Option.bind_some]
  unfold s_define_graph_order_1
  dsimp only
  rw [hk, grd_of ⟨by omega, by omega⟩, Option.bind_some, Option.bind_some, toNat_nat, Option.bind_some, w64_succ hi (by omega)]
  dsimp only
  cases hb : d.getD k default with
  | false =>
   rw [Bool.not_false, cond_true]
   refine .inl ⟨.inl ((i : Int), d), rfl, ?_⟩
   dsimp only
   exact ⟨by omega, rfl, k, by rw [← hk]; exact getD_mem hi, hb⟩
  | true =>
   rw [Bool.not_true, cond_false]
   refine .inr ⟨_, ⟨rfl, rfl, fun j hj k' e => ?_⟩, rfl⟩
   by_cases hji : j = i
   ·subst hji
    obtain rfl : k = k' := by rw [hk] at e; omega
    exact hb
   ·exact h j (by omega) k' e
 ·obtain ⟨a, d⟩ := q
  obtain ⟨e1, e2, h⟩ := h
  dsimp only at e1 e2 h; subst e1 e2
  refine ⟨.inr d, by rw [s_slices_IndexFunc_L1, decide_eq_false (by simp), cond_false], ?_⟩
  dsimp only
  exact ⟨rfl, fun k hk => by obtain ⟨j, hj, e⟩ := mem_getD hk; exact h j hj k e.symm⟩
def measL : List (List UInt8) := [[97, 114, 101, 97], [99, 111, 118, 101, 114], [102, 108, 111, 111, 114], [102, 108, 111, 111, 114, 115], [104, 101, 105, 103, 104, 116], [104, 111, 109, 101, 115], [114, 117, 110, 111, 102, 102], [115, 101, 116, 98, 97, 99, 107], [116, 114, 97, 102, 102, 105, 99]]
def Proper (l : List Def) : Prop := ∀ j, j < l.length → nameAt l j ∉ measL ∧ ∀ j', j' < j → nameAt l j' ≠ nameAt l j
theorem Proper.dis {l : List Def} (h : Proper l) : Dis l := fun i k hi hk e => by
 rcases Nat.lt_trichotomy i k with h1 | h1 | h1
 ·exact absurd e ((h k hk).2 i h1)
 ·exact h1
 ·exact absurd e.symm ((h i hi).2 k h1)
omit [Fuel] in
theorem meas_at (m : Nat) (hb : 18446744073709551616 ≤ m + 100) : @s_define_Order_L1 measL (@KK (FF m hb)) (0, []) = some (measL.map fun s => (s, true)) := rfl
omit [Fuel] in
theorem meas_is : ∀ i : Fuel, @s_define_Order_L1 measL (@KK i) (0, []) = some (measL.map fun s => (s, true)) := by
 rintro ⟨n, hb⟩
 obtain ⟨m, rfl⟩ : ∃ m, n = m + 100 := ⟨n - 100, by omega⟩
 exact meas_at m hb
omit [Fuel] in
theorem find_true (s : List UInt8) : ∀ l : List (List UInt8), (mfind s (l.map fun s => (s, true))).getD false = true ↔ s ∈ l
 | [] => by simp [mfind]
 | a :: l => by
  rw [List.map_cons, mfind]
  by_cases h : s = a
  ·simp [h]
  ·rw [if_neg h, find_true s l]; simp [h]
end Go.Proofs.Ytconjkgifdfhdaa
