/- The reference of define: circles, the order. -/
import Derived.Test.YtconjkgifdfhdaaDi
set_option linter.all false
set_option maxRecDepth 100000
namespace Go.Grf
theorem path_zero {U : Nat → Nat → Prop} {i k : Nat} : Path U 0 i k ↔ i = k := ⟨fun h => by cases h; rfl, fun h => by subst h; exact .nil _⟩
theorem path_succ {U : Nat → Nat → Prop} {n i k : Nat} : Path U (n + 1) i k ↔ ∃ j, U i j ∧ Path U n j k := ⟨fun h => by cases h with | cons h p => exact ⟨_, h, p⟩, fun ⟨j, h, p⟩ => .cons h p⟩
end Go.Grf
namespace Go.Proofs.Ytconjkgifdfhdaa
open Go Go.RowKit Go.Eng Go.EV Go.Grf
variable [Fuel]
theorem back_L3 {N : Nat} {U : Nat → Nat → Prop} {use : List (List Bool)} (hg : Gb N U use) (hN : N ≤ 1000) {n i : Nat} {out : List (List Bool)} {row : List Bool} {prev : List Bool} (hn : out.length = n + 1) (hn2 : n ≤ 2000) (hprev : out.getD n default = prev) (hpl : prev.length = N) (hi : i < N) (hrl : row.length = N) (hr0 : row.getD i default = false) :
  ∃ r, s_greenbeltref16_back_L3 use (((n + 1 : Nat) : Int), out) ((i : Int), row) KK (0, row) = some r ∧ (r.length = N ∧ (∀ j, j ≠ i → r.getD j default = row.getD j default) ∧ (r.getD i default = true ↔ ∃ k, U i k ∧ prev.getD k default = true)) := by
 have hiu : i < use.length := by rw [hg.len]; exact hi
 refine for_all (L := s_greenbeltref16_back_L3 use (((n + 1 : Nat) : Int), out) ((i : Int), row)) (s := ((0 : Int), row))
  (fun k q => q.1 = (k : Int) ∧ q.2.length = N ∧ (∀ j, j ≠ i → q.2.getD j default = row.getD j default) ∧ (q.2.getD i default = true ↔ ∃ k', k' < k ∧ U i k' ∧ prev.getD k' default = true))
  (fun r => r.length = N ∧ (∀ j, j ≠ i → r.getD j default = row.getD j default) ∧ (r.getD i default = true ↔ ∃ k, U i k ∧ prev.getD k default = true)) N (by omega) ⟨rfl, hrl, fun _ _ => rfl, by dsimp only; rw [hr0]; exact ⟨fun h => (by cases h), fun ⟨k, h, _⟩ => (by omega)⟩⟩ (fun K k q h hk => .inr ?_) (fun K q h => ?_)
 ·obtain ⟨a, r⟩ := q
  obtain ⟨e1, h1, h2, h3⟩ := h
  dsimp only at e1 h1 h2 h3; subst e1
  have hir : i < r.length := by omega
  have hkp : k < prev.length := by omega
  have hku : k < (use.getD i default).length := by rw [hg.row i hi]; exact hk
  rw [s_greenbeltref16_back_L3, decide_eq_true (by dsimp only; rw [hg.len]; omega), cond_true]
  dsimp only
  have hgr : grd (0 ≤ (i : Int) ∧ (i : Int) < (r.length : Nat)) = some () := grd_of ⟨by omega, by omega⟩
  rw [hgr, Option.bind_some, Option.bind_some, toNat_nat, w64_succ hk (by omega)]
  have fin : ∀ v : Bool, (v = true ↔ r.getD i default = true ∨ U i k ∧ prev.getD k default = true) → (((k + 1 : Nat) : Int) = ((k + 1 : Nat) : Int) ∧ (r.set i v).length = N ∧ (∀ j, j ≠ i → (r.set i v).getD j default = row.getD j default) ∧ ((r.set i v).getD i default = true ↔ ∃ k', k' < k + 1 ∧ U i k' ∧ prev.getD k' default = true)) := fun v hv => ⟨rfl, by rw [List.length_set]; exact h1, fun j hj => by rw [getD_set hir, if_neg hj]; exact h2 j hj, by
   rw [getD_set hir, if_pos rfl, hv, h3]
   constructor
   ·rintro (⟨k', a, b⟩ | b)
    ·exact ⟨k', by omega, b⟩
    ·exact ⟨k, by omega, b⟩
   ·rintro ⟨k', a, b⟩
    by_cases e : k' = k
    ·subst e; exact .inr b
    ·exact .inl ⟨k', by omega, b⟩⟩
  cases hri : r.getD i default with
  | true =>
   rw [cond_true, Option.bind_some, Option.bind_some, Option.bind_some]
   exact ⟨(((k + 1 : Nat) : Int), r.set i true), fin true ⟨fun _ => .inl hri, fun _ => rfl⟩, rfl⟩
  | false =>
   rw [cond_false, idx_of hiu, Option.bind_some, idx_of hku, Option.bind_some]
   cases hu : (use.getD i default).getD k default with
   | true =>
    rw [cond_true, w64_id (by omega) (by omega), show (((n + 1 : Nat) : Int) - 1) = (n : Int) by omega, grd_of ⟨by omega, by omega⟩, Option.bind_some, Option.bind_some, toNat_nat, hprev, idx_of hkp, Option.bind_some, Option.bind_some, Option.bind_some, Option.bind_some]
    exact ⟨(((k + 1 : Nat) : Int), r.set i (prev.getD k default)), fin _ ⟨fun h => .inr ⟨(hg.mem i k hi hk).1 hu, h⟩, fun h => h.elim (fun h => by rw [hri] at h; cases h) fun h => h.2⟩, rfl⟩
   | false =>
    rw [cond_false, Option.bind_some, Option.bind_some, Option.bind_some]
    exact ⟨(((k + 1 : Nat) : Int), r.set i false), fin _ ⟨fun h => (by cases h), fun h => h.elim (fun h => by rw [hri] at h; cases h) fun h => by have := (hg.mem i k hi hk).2 h.1; rw [hu] at this; cases this⟩, rfl⟩
 ·obtain ⟨a, r⟩ := q
  obtain ⟨e1, h1, h2, h3⟩ := h
  dsimp only at e1 h1 h2 h3; subst e1
  refine ⟨r, by rw [s_greenbeltref16_back_L3, decide_eq_false (by dsimp only; rw [hg.len]; omega), cond_false], h1, h2, ?_⟩
  rw [h3]
  exact ⟨fun ⟨k, _, h⟩ => ⟨k, h⟩, fun ⟨k, h⟩ => ⟨k, (hg.dom _ _ h.1).2, h⟩⟩
theorem back_L2 {N : Nat} {U : Nat → Nat → Prop} {use : List (List Bool)} (hg : Gb N U use) (hN : N ≤ 1000) {n : Nat} {out : List (List Bool)} {prev : List Bool} (hn : out.length = n + 1) (hn2 : n ≤ 2000) (hprev : out.getD n default = prev) (hpl : prev.length = N) :
  ∃ r, s_greenbeltref16_back_L2 use (((n + 1 : Nat) : Int), out) KK (0, List.replicate N false) = some r ∧ (r.length = N ∧ ∀ i, i < N → (r.getD i default = true ↔ ∃ k, U i k ∧ prev.getD k default = true)) := by
 refine for_all (L := s_greenbeltref16_back_L2 use (((n + 1 : Nat) : Int), out)) (s := ((0 : Int), List.replicate N false))
  (fun i q => q.1 = (i : Int) ∧ q.2.length = N ∧ (∀ j, j < i → (q.2.getD j default = true ↔ ∃ k, U j k ∧ prev.getD k default = true)) ∧ ∀ j, i ≤ j → j < N → q.2.getD j default = false)
  (fun r => r.length = N ∧ ∀ i, i < N → (r.getD i default = true ↔ ∃ k, U i k ∧ prev.getD k default = true)) N (by omega) ⟨rfl, by simp, fun j hj => by omega, fun j _ hj => by dsimp only; rw [getD_rep hj]⟩ (fun K i q h hi => .inr ?_) (fun K q h => ?_)
 ·obtain ⟨a, row⟩ := q
  obtain ⟨e1, h1, h2, h3⟩ := h
  dsimp only at e1 h1 h2 h3; subst e1
  obtain ⟨r, hr, r1, r2, r3⟩ := back_L3 hg hN hn hn2 hprev hpl hi h1 (h3 i (Nat.le_refl _) hi)
  rw [s_greenbeltref16_back_L2, decide_eq_true (by dsimp only; rw [hg.len]; omega), cond_true]
  dsimp only
  rw [hr, Option.bind_some, w64_succ hi (by omega)]
  refine ⟨(((i + 1 : Nat) : Int), r), ⟨rfl, r1, fun j hj => ?_, fun j hj hjN => ?_⟩, rfl⟩
  ·dsimp only
   by_cases e : j = i
   ·subst e; exact r3
   ·rw [r2 j e]; exact h2 j (by omega)
  ·dsimp only
   rw [r2 j (by omega)]; exact h3 j (by omega) hjN
 ·obtain ⟨a, row⟩ := q
  obtain ⟨e1, h1, h2, h3⟩ := h
  dsimp only at e1 h1 h2 h3; subst e1
  exact ⟨row, by rw [s_greenbeltref16_back_L2, decide_eq_false (by dsimp only; rw [hg.len]; omega), cond_false], h1, h2⟩
structure Back (N : Nat) (U : Nat → Nat → Prop) (t most : Nat) (b : List (List Bool)) : Prop where
 len : b.length = most + 1
 row : ∀ n, n ≤ most → (b.getD n default).length = N
 mem : ∀ n, n ≤ most → ∀ i, i < N → ((b.getD n default).getD i default = true ↔ Path U n i t)
theorem back_is {N : Nat} {U : Nat → Nat → Prop} {use : List (List Bool)} (hg : Gb N U use) (hN : N ≤ 1000) {t : Nat} (ht : t < N) {most : Nat} (hm : most ≤ 1001) :
  ∃ b, s_greenbeltref16_back use (t : Int) (most : Int) = some b ∧ Back N U t most b := by
 have key := for_all (L := s_greenbeltref16_back_L1 use (most : Int)) (s := ((1 : Int), [(List.replicate N false).set t true]))
  (fun n q => q.1 = ((n + 1 : Nat) : Int) ∧ Back N U t n q.2) (fun b => Back N U t most b) most (by omega) ⟨rfl, rfl, fun n hn => ?_, fun n hn i hi => ?_⟩ (fun K n q h hn => .inr ?_) (fun K q h => ?_)
 ·obtain ⟨b, h1, h2⟩ := key
  refine ⟨b, ?_, h2⟩
  unfold s_greenbeltref16_back
  rw [hg.len, grd_of ⟨by omega, by omega, by omega⟩, Option.bind_some, toNat_nat, grd_of ⟨by omega, by simpa using ht⟩, Option.bind_some, Option.bind_some, toNat_nat, h1, Option.bind_some]
 ·obtain rfl : n = 0 := by omega
  show ((List.replicate N false).set t true).length = N
  simp
 ·obtain rfl : n = 0 := by omega
  show ((List.replicate N false).set t true).getD i default = true ↔ _
  rw [getD_set (by simpa using ht), path_zero]
  by_cases e : i = t
  ·rw [if_pos e]; exact ⟨fun _ => e, fun _ => rfl⟩
  ·rw [if_neg e, getD_rep hi]; exact ⟨fun h => (by cases h), fun h => absurd h e⟩
 ·obtain ⟨a, out⟩ := q
  obtain ⟨e1, hB⟩ := h
  dsimp only at e1 hB; subst e1
  obtain ⟨r, hr, r1, r2⟩ := back_L2 hg hN hB.len (by omega) rfl (hB.row n (Nat.le_refl _))
  rw [s_greenbeltref16_back_L1, decide_eq_true (by dsimp only; omega), cond_true, hg.len, grd_of ⟨by omega, by omega, by omega⟩, Option.bind_some, toNat_nat, hr, Option.bind_some]
  dsimp only
  have hol := hB.len
  rw [grd_of (by rw [List.length_append, List.length_singleton]; omega), Option.bind_some, w64_succ' (by omega)]
  refine ⟨(((n + 1 + 1 : Nat) : Int), out ++ [r]), ⟨rfl, by dsimp only; rw [List.length_append, List.length_singleton, hol], fun m hm' => ?_, fun m hm' i hi => ?_⟩, rfl⟩
  ·dsimp only
   rw [getD_snoc]
   by_cases e : m < out.length
   ·rw [if_pos e]; exact hB.row m (by omega)
   ·rw [if_neg e, if_pos (by omega)]; exact r1
  ·dsimp only
   rw [getD_snoc]
   by_cases e : m < out.length
   ·rw [if_pos e]; exact hB.mem m (by omega) i hi
   ·obtain rfl : m = n + 1 := by omega
    rw [if_neg e, if_pos (by omega), r2 i hi, path_succ]
    constructor
    ·rintro ⟨k, hu, h⟩; exact ⟨k, hu, (hB.mem n (Nat.le_refl _) k (hg.dom _ _ hu).2).1 h⟩
    ·rintro ⟨k, hu, h⟩; exact ⟨k, hu, (hB.mem n (Nat.le_refl _) k (hg.dom _ _ hu).2).2 h⟩
 ·obtain ⟨a, out⟩ := q
  obtain ⟨e1, hB⟩ := h
  dsimp only at e1 hB; subst e1
  exact ⟨out, by rw [s_greenbeltref16_back_L1, decide_eq_false (by dsimp only; omega), cond_false], hB⟩
end Go.Proofs.Ytconjkgifdfhdaa
