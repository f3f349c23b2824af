/- define.graph: distances, circles. -/
import Derived.Test.YtconjkgifdfhdabGreatQ
set_option linter.all false
set_option maxRecDepth 100000
namespace Go.Proofs.YtconjkgifdfhdabGreat
open Go Go.RowKit Go.Eng Go.EV Go.Grf
theorem repeat_at (m : Nat) (hb : 18446744073709551616 ≤ m + 100) : ∀ N : Nat, N ≤ 20 → @s_slices_Repeat (FF m hb) [-1] (N : Int) = some (List.replicate N (-1))
 | 0, _ => rfl
 | 1, _ => rfl
 | 2, _ => rfl
 | 3, _ => rfl
 | 4, _ => rfl
 | 5, _ => rfl
 | 6, _ => rfl
 | 7, _ => rfl
 | 8, _ => rfl
 | 9, _ => rfl
 | 10, _ => rfl
 | 11, _ => rfl
 | 12, _ => rfl
 | 13, _ => rfl
 | 14, _ => rfl
 | 15, _ => rfl
 | 16, _ => rfl
 | 17, _ => rfl
 | 18, _ => rfl
 | 19, _ => rfl
 | 20, _ => rfl
 | n + 21, h => by omega
theorem repeat_is : ∀ (i : Fuel) (N : Nat), N ≤ 20 → @s_slices_Repeat i [-1] (N : Int) = some (List.replicate N (-1)) := by
 rintro ⟨n, hb⟩
 obtain ⟨m, rfl⟩ : ∃ m, n = m + 100 := ⟨n - 100, by omega⟩
 exact repeat_at m hb
variable [Fuel]
theorem dv_def (out : List Int) (k : Nat) : out.getD k default = dv out k := rfl
theorem dist_L2 {N : Nat} {U : Nat → Nat → Prop} {us : List (List Int)} (hg : Gr N U us) (hN : N ≤ 1000) {t e : Nat} {q0 out0 : List Int} {n : Nat} (hB : Bfs N U t ((e : Int) :: q0) out0) (hc : unv out0 + q0.length ≤ N) :
  ∃ r : List Int × Nat × List Int, s_define_graph_distances_L2 us (e : Int) KK (0, q0, n, out0) = some r ∧ Mid N U e q0 out0 N r.1 r.2.2 := by
 obtain ⟨e', he, e2, hde⟩ := hB.mem _ (List.mem_cons_self ..)
 obtain rfl : e = e' := by omega
 have hbd := hB.bound e he hde
 have key := for_all (L := s_define_graph_distances_L2 us (e : Int)) (s := ((0 : Int), q0, n, out0)) (fun i q => q.1 = (i : Int) ∧ Mid N U e q0 out0 i q.2.1 q.2.2.2)
  (fun r => Mid N U e q0 out0 N r.1 r.2.2) N (by omega) ⟨rfl, Mid.start hB.len⟩ (fun K i q h hi => .inr ?_) (fun K q h => ?_)
 ·exact key
 ·obtain ⟨a, q, m, out⟩ := q
  obtain ⟨e1, hM⟩ := h
  dsimp only at e1 hM; subst e1
  have hio : i < out.length := by rw [hM.len]; exact hi
  have heo : e < out.length := by rw [hM.len]; exact he
  have hcq := hM.cnt
  have hiu : i < us.length := by rw [hg.len]; exact hi
  rw [s_define_graph_distances_L2, dT (by dsimp only; rw [hg.len]; omega), cT, idx_of hiu, oB]
  dsimp only
  rw [grd_of ⟨by omega, by omega⟩, oB, oB, toNat_nat, dv_def, w64_succ hi (by omega)]
  by_cases hd : dv out i < 0
  ·rw [dT hd, cT, contains_is (by have := hg.few i hi; omega), oB, oB]
   by_cases hu : U i e
   ·rw [dT ((hg.mem i hi _).2 ⟨e, rfl, hu⟩)]
    dsimp only
    obtain ⟨h1, h2⟩ := hM.push hi hd hu hde he
    rw [cT, grd_of ⟨by omega, by omega⟩, oB, oB, grd_of (by rw [List.length_append, List.length_singleton]; omega), oB, oB]
    rw [toNat_nat, dv_def, h1, w64_id (by omega) (by omega)]
    exact ⟨_, ⟨rfl, h2⟩, rfl⟩
   ·rw [dF (fun h => by obtain ⟨k, hk, hu'⟩ := (hg.mem i hi _).1 h; obtain rfl : e = k := (by omega); exact hu hu')]
    dsimp only
    rw [cF, oB]
    exact ⟨_, ⟨rfl, hM.skip hi (.inr hu)⟩, rfl⟩
  ·rw [dF hd, cF, oB]
   dsimp only
   rw [cF, oB]
   exact ⟨_, ⟨rfl, hM.skip hi (.inl (by omega))⟩, rfl⟩
 ·obtain ⟨a, q, m, out⟩ := q
  obtain ⟨e1, hM⟩ := h
  dsimp only at e1 hM; subst e1
  exact ⟨_, by rw [s_define_graph_distances_L2, dF (by dsimp only; rw [hg.len]; omega), cF], hM⟩
theorem dist_L1 {N : Nat} {U : Nat → Nat → Prop} {us : List (List Int)} (hg : Gr N U us) (hN : N ≤ 1000) {t : Nat} (ht : t < N) :
  ∃ d : List Int, s_define_graph_distances_L1 us KK ([(t : Int)], 1, (List.replicate N (-1 : Int)).set t 0) = some d ∧ d.length = N ∧ Dist N U t (dv d) := by
 have hs := Bfs.start (N := N) (U := U) ht
 refine loop_inv (L := s_define_graph_distances_L1 us) (fun q => Bfs N U t q.1 q.2.2 ∧ unv q.2.2 + q.1.length ≤ N) (fun q => unv q.2.2 + q.1.length) (fun d => d.length = N ∧ Dist N U t (dv d)) (fun K q h => ?_) N KK _ ⟨hs, ?_⟩ ?_ (by have := KK_big; omega)
 ·obtain ⟨q, n, out⟩ := q
  obtain ⟨hB, hc⟩ := h
  dsimp only at hB hc
  cases q with
  | nil =>
   refine .inl ⟨out, ?_, hB.len, hB.done⟩
   rw [s_define_graph_distances_L1, dF (by simp), cF]
  | cons x q =>
   obtain ⟨e, he, rfl, hde⟩ := hB.mem _ (List.mem_cons_self ..)
   rw [List.length_cons] at hc
   obtain ⟨⟨q', n', out'⟩, h1, h2⟩ := dist_L2 (n := n + 1) hg hN hB (by omega)
   have hcnt := h2.cnt
   dsimp only at hcnt h2
   refine .inr ⟨(q', n', out'), ⟨hB.round h2, by dsimp only; omega⟩, by dsimp only; rw [List.length_cons]; omega, ?_⟩
   rw [s_define_graph_distances_L1, dT (by simp), cT]
   dsimp only
   rw [grd_of ⟨by omega, by rw [List.length_cons]; omega⟩, oB, oB, grd_of (by rw [List.length_cons]; omega), oB]
   show ((s_define_graph_distances_L2 us (e : Int)) KK (0, q, n + 1, out)).bind _ = _
   rw [h1, oB]
 ·have h1 := unv_set (out := List.replicate N (-1 : Int)) (i := t) (v := 0) (by simpa using ht) (by show (List.replicate N (-1 : Int)).getD t default < 0; rw [getD_rep ht]; omega) (by omega)
  have h2 : unv (List.replicate N (-1 : Int)) ≤ N := by unfold unv; exact Nat.le_trans List.countP_le_length (by simp)
  dsimp only; simp only [List.length_singleton]; omega
 ·have h1 := unv_set (out := List.replicate N (-1 : Int)) (i := t) (v := 0) (by simpa using ht) (by show (List.replicate N (-1 : Int)).getD t default < 0; rw [getD_rep ht]; omega) (by omega)
  have h2 : unv (List.replicate N (-1 : Int)) ≤ N := by unfold unv; exact Nat.le_trans List.countP_le_length (by simp)
  dsimp only; simp only [List.length_singleton]; omega
theorem distances_is {l : List Def} {U : Nat → Nat → Prop} {us : List (List Int)} (hg : Gr l.length U us) (hN : l.length ≤ 20) {t : Nat} (ht : t < l.length) :
  ∃ d : List Int, s_define_graph_distances l us (t : Int) = some (d, l, us) ∧ d.length = l.length ∧ Dist l.length U t (dv d) := by
 obtain ⟨d, h1, h2⟩ := dist_L1 hg (by omega) ht
 refine ⟨d, ?_, h2⟩
 unfold s_define_graph_distances
 rw [repeat_is _ _ hN, oB, grd_of ⟨by omega, by simpa using ht⟩, oB, oB, toNat_nat, h1, oB]
theorem next_is {l : List Def} {U : Nat → Nat → Prop} {us : List (List Int)} (hg : Gr l.length U us) {d : List Int} (hd : d.length = l.length) {at_ : Nat} (ha : at_ < l.length) :
  ∃ r, s_define_graph_circle_L2 (d, l, us) (us.getD at_ default) KK (-1, 0) = some r ∧ ((r = -1 ∧ ∀ k, U at_ k → dv d k < 0) ∨ ∃ k : Nat, r = k ∧ U at_ k ∧ 0 ≤ dv d k ∧ ∀ k', U at_ k' → 0 ≤ dv d k' → dv d k ≤ dv d k') := by
 have hf := hg.few at_ ha
 have hx : ∀ j, j < (us.getD at_ default).length → ∃ k : Nat, (us.getD at_ default).getD j default = k ∧ U at_ k ∧ k < l.length := fun j hj => by
  obtain ⟨k, e, hu⟩ := (hg.mem at_ ha _).1 (getD_mem hj)
  exact ⟨k, e, hu, (hg.dom _ _ hu).2⟩
 have key := for_all (L := s_define_graph_circle_L2 (d, l, us) (us.getD at_ default)) (s := ((-1 : Int), (0 : Int)))
  (fun j q => q.2 = (j : Int) ∧ ((q.1 = -1 ∧ ∀ j', j' < j → ∀ k : Nat, (us.getD at_ default).getD j' default = k → dv d k < 0) ∨ ∃ k : Nat, q.1 = k ∧ U at_ k ∧ 0 ≤ dv d k ∧ ∀ j', j' < j → ∀ k' : Nat, (us.getD at_ default).getD j' default = k' → 0 ≤ dv d k' → dv d k ≤ dv d k'))
  (fun r => (r = -1 ∧ ∀ k, U at_ k → dv d k < 0) ∨ ∃ k : Nat, r = k ∧ U at_ k ∧ 0 ≤ dv d k ∧ ∀ k', U at_ k' → 0 ≤ dv d k' → dv d k ≤ dv d k') (us.getD at_ default).length (by omega) ⟨rfl, .inl ⟨rfl, fun j hj => by omega⟩⟩ (fun K i q h hi => .inr ?_) (fun K q h => ?_)
 ·exact key
 ·obtain ⟨r, a⟩ := q
  obtain ⟨e1, h⟩ := h
  dsimp only at e1 h; subst e1
  obtain ⟨k, hk, hu, hkl⟩ := hx i hi
  have hkd : k < d.length := by omega
  rw [s_define_graph_circle_L2, dT (by dsimp only; omega), cT, idx_of hi, oB]
  dsimp only
  rw [hk, idx_of hkd, oB, dv_def, w64_succ hi (by omega)]
  have ext : ∀ {P : Nat → Prop}, (∀ j', j' < i → ∀ k' : Nat, (us.getD at_ default).getD j' default = k' → P k') → P k → ∀ j', j' < i + 1 → ∀ k' : Nat, (us.getD at_ default).getD j' default = k' → P k' := fun h1 h2 j' hj' k' e => by
   by_cases hji : j' = i
   ·subst hji
    obtain rfl : k = k' := by rw [hk] at e; omega
    exact h2
   ·exact h1 j' (by omega) k' e
  by_cases h0 : 0 ≤ dv d k
  ·rw [dT (show dv d k ≥ 0 from h0), cT]
   rcases h with ⟨rfl, h⟩ | ⟨k0, rfl, hu0, hk0, h⟩
   ·rw [dT (by omega), cT, oB, cT, oB]
    exact ⟨_, ⟨rfl, .inr ⟨k, rfl, hu, h0, ext (fun j' hj' k' e h3 => by have := h j' hj' k' e; omega) fun _ => Int.le_refl _⟩⟩, rfl⟩
   ·rw [dF (by omega), cF, oB, idx_of (i := k0) (by have := (hg.dom _ _ hu0).2; omega), oB, dv_def, oB]
    by_cases hlt : dv d k < dv d k0
    ·rw [dT hlt, cT, oB]
     exact ⟨_, ⟨rfl, .inr ⟨k, rfl, hu, h0, ext (fun j' hj' k' e h3 => by have := h j' hj' k' e h3; omega) fun _ => Int.le_refl _⟩⟩, rfl⟩
    ·rw [dF hlt, cF, oB]
     exact ⟨_, ⟨rfl, .inr ⟨k0, rfl, hu0, hk0, ext h fun _ => by omega⟩⟩, rfl⟩
  ·rw [dF (show ¬ dv d k ≥ 0 from h0), cF, oB, cF, oB]
   rcases h with ⟨rfl, h⟩ | ⟨k0, rfl, hu0, hk0, h⟩
   ·exact ⟨_, ⟨rfl, .inl ⟨rfl, ext h (by omega)⟩⟩, rfl⟩
   ·exact ⟨_, ⟨rfl, .inr ⟨k0, rfl, hu0, hk0, ext h fun h3 => absurd h3 h0⟩⟩, rfl⟩
 ·obtain ⟨r, a⟩ := q
  obtain ⟨e1, h⟩ := h
  dsimp only at e1 h; subst e1
  refine ⟨r, by rw [s_define_graph_circle_L2, dF (by simp), cF], ?_⟩
  have fnd : ∀ k, U at_ k → ∃ j, j < (us.getD at_ default).length ∧ (us.getD at_ default).getD j default = (k : Int) := fun k hu => by
   obtain ⟨j, hj, e⟩ := mem_getD ((hg.mem at_ ha _).2 ⟨k, rfl, hu⟩)
   exact ⟨j, hj, e.symm⟩
  rcases h with ⟨rfl, h⟩ | ⟨k0, rfl, hu0, hk0, h⟩
  ·exact .inl ⟨rfl, fun k hu => by obtain ⟨j, hj, e⟩ := fnd k hu; exact h j hj k e⟩
  ·exact .inr ⟨k0, rfl, hu0, hk0, fun k hu h3 => by obtain ⟨j, hj, e⟩ := fnd k hu; exact h j hj k e h3⟩
end Go.Proofs.YtconjkgifdfhdabGreat
