/- define.graph: distances, circles. -/
import Derived.Test.YtconjkgifdfhdaaDf
set_option linter.all false
set_option maxRecDepth 100000
namespace Go.Proofs.Ytconjkgifdfhdaa
open Go Go.RowKit Go.Eng Go.EV Go.Grf
variable [Fuel]
theorem dv_def (out : List Int) (k : Nat) : out.getD k default = dv out k := rfl
theorem dist_L2 {N : Nat} {U : Nat → Nat → Prop} {us : List (List Int)} (hg : Gr N U us) (hN : N ≤ 5000) {t e : Nat} {q0 out0 : List Int} {n : Nat} (hB : Bfs N U t ((e : Int) :: q0) out0) (hc : unv out0 + q0.length ≤ N) :
  ∃ r : List Int × Nat × List Int, s_define_graph_distances_L2 us (e : Int) KK (0, q0, n, out0) = some r ∧ Mid N U e q0 out0 N r.1 r.2.2 := by
 obtain ⟨e', he, e2, hde⟩ := hB.mem _ (List.mem_cons_self ..)
 obtain rfl : e = e' := by omega
 have hbd := hB.bound e he hde
 have key := for_all (L := s_define_graph_distances_L2 us (e : Int)) (s := ((0 : Int), q0, n, out0)) (fun i q => q.1 = (i : Int) ∧ Mid N U e q0 out0 i q.2.1 q.2.2.2)
  (fun r => Mid N U e q0 out0 N r.1 r.2.2) N (by omega) ⟨rfl, Mid.start hB.len⟩ (fun K i q h hi => .inr ?_) (fun K q h => ?_)
 ·exact key
 ·obtain ⟨a, q, m, out⟩ := q
  obtain ⟨e1, hM⟩ := h
  dsimp only at e1 hM; subst e1
  have hio : i < out.length := by rw [hM.len]; exact hi
  have heo : e < out.length := by rw [hM.len]; exact he
  have hcq := hM.cnt
  have hiu : i < us.length := by rw [hg.len]; exact hi
  rw [s_define_graph_distances_L2, decide_eq_true (by dsimp only; rw [hg.len]; omega), cond_true, idx_of hiu, Option.bind_some]
  dsimp only
  rw [grd_of ⟨by omega, by omega⟩, Option.bind_some, Option.bind_some, toNat_nat, dv_def, w64_succ hi (by omega)]
  by_cases hd : dv out i < 0
  ·rw [decide_eq_true hd, cond_true, contains_is (by have := hg.few i hi; omega), Option.bind_some, Option.bind_some]
   by_cases hu : U i e
   ·rw [decide_eq_true ((hg.mem i hi _).2 ⟨e, rfl, hu⟩)]
    dsimp only
    obtain ⟨h1, h2⟩ := hM.push hi hd hu hde he
    rw [cond_true, grd_of ⟨by omega, by omega⟩, Option.bind_some, Option.bind_some, grd_of (by rw [List.length_append, List.length_singleton]; omega), Option.bind_some, Option.bind_some]
    rw [toNat_nat, dv_def, h1, w64_id (by omega) (by omega)]
    exact ⟨_, ⟨rfl, h2⟩, rfl⟩
   ·rw [decide_eq_false (fun h => by obtain ⟨k, hk, hu'⟩ := (hg.mem i hi _).1 h; obtain rfl : e = k := (by omega); exact hu hu')]
    dsimp only
    rw [cond_false, Option.bind_some]
    exact ⟨_, ⟨rfl, hM.skip hi (.inr hu)⟩, rfl⟩
  ·rw [decide_eq_false hd, cond_false, Option.bind_some]
   dsimp only
   rw [cond_false, Option.bind_some]
   exact ⟨_, ⟨rfl, hM.skip hi (.inl (by omega))⟩, rfl⟩
 ·obtain ⟨a, q, m, out⟩ := q
  obtain ⟨e1, hM⟩ := h
  dsimp only at e1 hM; subst e1
  exact ⟨_, by rw [s_define_graph_distances_L2, decide_eq_false (by dsimp only; rw [hg.len]; omega), cond_false], hM⟩
theorem dist_L1 {N : Nat} {U : Nat → Nat → Prop} {us : List (List Int)} (hg : Gr N U us) (hN : N ≤ 5000) {t : Nat} (ht : t < N) :
  ∃ d : List Int, s_define_graph_distances_L1 us KK ([(t : Int)], 1, (List.replicate N (-1 : Int)).set t 0) = some d ∧ d.length = N ∧ Dist N U t (dv d) := by
 have hs := Bfs.start (N := N) (U := U) ht
 refine loop_inv (L := s_define_graph_distances_L1 us) (fun q => Bfs N U t q.1 q.2.2 ∧ unv q.2.2 + q.1.length ≤ N) (fun q => unv q.2.2 + q.1.length) (fun d => d.length = N ∧ Dist N U t (dv d)) (fun K q h => ?_) N KK _ ⟨hs, ?_⟩ ?_ (by have := KK_big; omega)
 ·obtain ⟨q, n, out⟩ := q
  obtain ⟨hB, hc⟩ := h
  dsimp only at hB hc
  cases q with
  | nil =>
   refine .inl ⟨out, ?_, hB.len, hB.done⟩
   rw [s_define_graph_distances_L1, decide_eq_false (by simp), cond_false]
  | cons x q =>
   obtain ⟨e, he, rfl, hde⟩ := hB.mem _ (List.mem_cons_self ..)
   rw [List.length_cons] at hc
   obtain ⟨⟨q', n', out'⟩, h1, h2⟩ := dist_L2 (n := n + 1) hg hN hB (by omega)
   have hcnt := h2.cnt
   dsimp only at hcnt h2
   refine .inr ⟨(q', n', out'), ⟨hB.round h2, by dsimp only; omega⟩, by dsimp only; rw [List.length_cons]; omega, ?_⟩
   rw [s_define_graph_distances_L1, decide_eq_true (by simp), cond_true]
   dsimp only
   rw [grd_of ⟨by omega, by rw [List.length_cons]; omega⟩, Option.bind_some, Option.bind_some, grd_of (by rw [List.length_cons]; omega), Option.bind_some]
   show ((s_define_graph_distances_L2 us (e : Int)) KK (0, q, n + 1, out)).bind _ = _
   rw [h1, Option.bind_some]
 ·have h1 := unv_set (out := List.replicate N (-1 : Int)) (i := t) (v := 0) (by simpa using ht) (by show (List.replicate N (-1 : Int)).getD t default < 0; rw [getD_rep ht]; omega) (by omega)
  have h2 : unv (List.replicate N (-1 : Int)) ≤ N := by unfold unv; exact Nat.le_trans List.countP_le_length (by simp)
  dsimp only; simp only [List.length_singleton]; omega
 ·have h1 := unv_set (out := List.replicate N (-1 : Int)) (i := t) (v := 0) (by simpa using ht) (by show (List.replicate N (-1 : Int)).getD t default < 0; rw [getD_rep ht]; omega) (by omega)
  have h2 : unv (List.replicate N (-1 : Int)) ≤ N := by unfold unv; exact Nat.le_trans List.countP_le_length (by simp)
  dsimp only; simp only [List.length_singleton]; omega
end Go.Proofs.Ytconjkgifdfhdaa
