/- The reference of define: circles, the order. -/
import Derived.Test.YtconjkgifdfhdabGreatL
set_option linter.all false
set_option maxRecDepth 100000
namespace Go.Grf
theorem path_zero {U : Nat → Nat → Prop} {i k : Nat} : Path U 0 i k ↔ i = k := ⟨fun h => by cases h; rfl, fun h => by subst h; exact .nil _⟩
theorem path_succ {U : Nat → Nat → Prop} {n i k : Nat} : Path U (n + 1) i k ↔ ∃ j, U i j ∧ Path U n j k := ⟨fun h => by cases h with | cons h p => exact ⟨_, h, p⟩, fun ⟨j, h, p⟩ => .cons h p⟩
end Go.Grf
namespace Go.Proofs.YtconjkgifdfhdabGreat
open Go Go.RowKit Go.Eng Go.EV Go.Grf
variable [Fuel]
theorem cyc_short {N : Nat} {U : Nat → Nat → Prop} {us : List (List Int)} (hg : Gr N U us) (hN : N ≤ 1000) {i : Nat} (hi : i < N) (h : Cyc U i) : ∃ n, 1 ≤ n ∧ n ≤ N ∧ Path U n i i := by
 obtain ⟨d, _, _, hD⟩ := dist_L1 hg hN hi
 obtain ⟨k, hu, hk⟩ := (hD.cyc hg.dom).1 h
 have hkN := (hg.dom _ _ hu).2
 have hs := hD.small k hkN
 have hp := hD.path (dv d k).toNat k hkN (by omega)
 exact ⟨(dv d k).toNat + 1, by omega, by omega, .cons hu hp⟩
theorem back_L3 {N : Nat} {U : Nat → Nat → Prop} {use : List (List Bool)} (hg : Gb N U use) (hN : N ≤ 1000) {n i : Nat} {out : List (List Bool)} {row : List Bool} {prev : List Bool} (hn : out.length = n + 1) (hn2 : n ≤ 2000) (hprev : out.getD n default = prev) (hpl : prev.length = N) (hi : i < N) (hrl : row.length = N) (hr0 : row.getD i default = false) :
  ∃ r, s_gr16_back_L3 use (((n + 1 : Nat) : Int), out) ((i : Int), row) KK (0, row) = some r ∧ (r.length = N ∧ (∀ j, j ≠ i → r.getD j default = row.getD j default) ∧ (r.getD i default = true ↔ ∃ k, U i k ∧ prev.getD k default = true)) := by
 have hiu : i < use.length := by rw [hg.len]; exact hi
 refine for_all (L := s_gr16_back_L3 use (((n + 1 : Nat) : Int), out) ((i : Int), row)) (s := ((0 : Int), row))
  (fun k q => q.1 = (k : Int) ∧ q.2.length = N ∧ (∀ j, j ≠ i → q.2.getD j default = row.getD j default) ∧ (q.2.getD i default = true ↔ ∃ k', k' < k ∧ U i k' ∧ prev.getD k' default = true))
  (fun r => r.length = N ∧ (∀ j, j ≠ i → r.getD j default = row.getD j default) ∧ (r.getD i default = true ↔ ∃ k, U i k ∧ prev.getD k default = true)) N (by omega) ⟨rfl, hrl, fun _ _ => rfl, by dsimp only; rw [hr0]; exact ⟨fun h => (by cases h), fun ⟨k, h, _⟩ => (by omega)⟩⟩ (fun K k q h hk => .inr ?_) (fun K q h => ?_)
 ·obtain ⟨a, r⟩ := q
  obtain ⟨e1, h1, h2, h3⟩ := h
  dsimp only at e1 h1 h2 h3; subst e1
  have hir : i < r.length := by omega
  have hkp : k < prev.length := by omega
  have hku : k < (use.getD i default).length := by rw [hg.row i hi]; exact hk
  rw [s_gr16_back_L3, dT (by dsimp only; rw [hg.len]; omega), cT]
  dsimp only
  have hgr : grd (0 ≤ (i : Int) ∧ (i : Int) < (r.length : Nat)) = some () := grd_of ⟨by omega, by omega⟩
  rw [hgr, oB, oB, toNat_nat, w64_succ hk (by omega)]
  have fin : ∀ v : Bool, (v = true ↔ r.getD i default = true ∨ U i k ∧ prev.getD k default = true) → (((k + 1 : Nat) : Int) = ((k + 1 : Nat) : Int) ∧ (r.set i v).length = N ∧ (∀ j, j ≠ i → (r.set i v).getD j default = row.getD j default) ∧ ((r.set i v).getD i default = true ↔ ∃ k', k' < k + 1 ∧ U i k' ∧ prev.getD k' default = true)) := fun v hv => ⟨rfl, by rw [List.length_set]; exact h1, fun j hj => by rw [getD_set hir, if_neg hj]; exact h2 j hj, by
   rw [getD_set hir, if_pos rfl, hv, h3]
   constructor
   ·rintro (⟨k', a, b⟩ | b)
    ·exact ⟨k', by omega, b⟩
    ·exact ⟨k, by omega, b⟩
   ·rintro ⟨k', a, b⟩
    by_cases e : k' = k
    ·subst e; exact .inr b
    ·exact .inl ⟨k', by omega, b⟩⟩
  cases hri : r.getD i default with
  | true =>
   rw [cT, oB, oB, oB]
   exact ⟨(((k + 1 : Nat) : Int), r.set i true), fin true ⟨fun _ => .inl hri, fun _ => rfl⟩, rfl⟩
  | false =>
   rw [cF, idx_of hiu, oB, idx_of hku, oB]
   cases hu : (use.getD i default).getD k default with
   | true =>
    rw [cT, w64_id (by omega) (by omega), show (((n + 1 : Nat) : Int) - 1) = (n : Int) by omega, grd_of ⟨by omega, by omega⟩, oB, oB, toNat_nat, hprev, idx_of hkp, oB, oB, oB, oB]
    exact ⟨(((k + 1 : Nat) : Int), r.set i (prev.getD k default)), fin _ ⟨fun h => .inr ⟨(hg.mem i k hi hk).1 hu, h⟩, fun h => h.elim (fun h => by rw [hri] at h; cases h) fun h => h.2⟩, rfl⟩
   | false =>
    rw [cF, oB, oB, oB]
    exact ⟨(((k + 1 : Nat) : Int), r.set i false), fin _ ⟨fun h => (by cases h), fun h => h.elim (fun h => by rw [hri] at h; cases h) fun h => by have := (hg.mem i k hi hk).2 h.1; rw [hu] at this; cases this⟩, rfl⟩
 ·obtain ⟨a, r⟩ := q
  obtain ⟨e1, h1, h2, h3⟩ := h
  dsimp only at e1 h1 h2 h3; subst e1
  refine ⟨r, by rw [s_gr16_back_L3, dF (by dsimp only; rw [hg.len]; omega), cF], h1, h2, ?_⟩
  rw [h3]
  exact ⟨fun ⟨k, _, h⟩ => ⟨k, h⟩, fun ⟨k, h⟩ => ⟨k, (hg.dom _ _ h.1).2, h⟩⟩
theorem back_L2 {N : Nat} {U : Nat → Nat → Prop} {use : List (List Bool)} (hg : Gb N U use) (hN : N ≤ 1000) {n : Nat} {out : List (List Bool)} {prev : List Bool} (hn : out.length = n + 1) (hn2 : n ≤ 2000) (hprev : out.getD n default = prev) (hpl : prev.length = N) :
  ∃ r, s_gr16_back_L2 use (((n + 1 : Nat) : Int), out) KK (0, List.replicate N false) = some r ∧ (r.length = N ∧ ∀ i, i < N → (r.getD i default = true ↔ ∃ k, U i k ∧ prev.getD k default = true)) := by
 refine for_all (L := s_gr16_back_L2 use (((n + 1 : Nat) : Int), out)) (s := ((0 : Int), List.replicate N false))
  (fun i q => q.1 = (i : Int) ∧ q.2.length = N ∧ (∀ j, j < i → (q.2.getD j default = true ↔ ∃ k, U j k ∧ prev.getD k default = true)) ∧ ∀ j, i ≤ j → j < N → q.2.getD j default = false)
  (fun r => r.length = N ∧ ∀ i, i < N → (r.getD i default = true ↔ ∃ k, U i k ∧ prev.getD k default = true)) N (by omega) ⟨rfl, by simp, fun j hj => by omega, fun j _ hj => by dsimp only; rw [getD_rep hj]⟩ (fun K i q h hi => .inr ?_) (fun K q h => ?_)
 ·obtain ⟨a, row⟩ := q
  obtain ⟨e1, h1, h2, h3⟩ := h
  dsimp only at e1 h1 h2 h3; subst e1
  obtain ⟨r, hr, r1, r2, r3⟩ := back_L3 hg hN hn hn2 hprev hpl hi h1 (h3 i (Nat.le_refl _) hi)
  rw [s_gr16_back_L2, dT (by dsimp only; rw [hg.len]; omega), cT]
  dsimp only
  rw [hr, oB, w64_succ hi (by omega)]
  refine ⟨(((i + 1 : Nat) : Int), r), ⟨rfl, r1, fun j hj => ?_, fun j hj hjN => ?_⟩, rfl⟩
  ·dsimp only
   by_cases e : j = i
   ·subst e; exact r3
   ·rw [r2 j e]; exact h2 j (by omega)
  ·dsimp only
   rw [r2 j (by omega)]; exact h3 j (by omega) hjN
 ·obtain ⟨a, row⟩ := q
  obtain ⟨e1, h1, h2, h3⟩ := h
  dsimp only at e1 h1 h2 h3; subst e1
  exact ⟨row, by rw [s_gr16_back_L2, dF (by dsimp only; rw [hg.len]; omega), cF], h1, h2⟩
structure Back (N : Nat) (U : Nat → Nat → Prop) (t most : Nat) (b : List (List Bool)) : Prop where
 len : b.length = most + 1
 row : ∀ n, n ≤ most → (b.getD n default).length = N
 mem : ∀ n, n ≤ most → ∀ i, i < N → ((b.getD n default).getD i default = true ↔ Path U n i t)
theorem back_is {N : Nat} {U : Nat → Nat → Prop} {use : List (List Bool)} (hg : Gb N U use) (hN : N ≤ 1000) {t : Nat} (ht : t < N) {most : Nat} (hm : most ≤ 1001) :
  ∃ b, s_gr16_back use (t : Int) (most : Int) = some b ∧ Back N U t most b := by
 have key := for_all (L := s_gr16_back_L1 use (most : Int)) (s := ((1 : Int), [(List.replicate N false).set t true]))
  (fun n q => q.1 = ((n + 1 : Nat) : Int) ∧ Back N U t n q.2) (fun b => Back N U t most b) most (by omega) ⟨rfl, rfl, fun n hn => ?_, fun n hn i hi => ?_⟩ (fun K n q h hn => .inr ?_) (fun K q h => ?_)
 ·obtain ⟨b, h1, h2⟩ := key
  refine ⟨b, ?_, h2⟩
  unfold s_gr16_back
  rw [hg.len, grd_of ⟨by omega, by omega, by omega⟩, oB, toNat_nat, grd_of ⟨by omega, by simpa using ht⟩, oB, oB, toNat_nat, h1, oB]
 ·obtain rfl : n = 0 := by omega
  show ((List.replicate N false).set t true).length = N
  simp
 ·obtain rfl : n = 0 := by omega
  show ((List.replicate N false).set t true).getD i default = true ↔ _
  rw [getD_set (by simpa using ht), path_zero]
  by_cases e : i = t
  ·rw [if_pos e]; exact ⟨fun _ => e, fun _ => rfl⟩
  ·rw [if_neg e, getD_rep hi]; exact ⟨fun h => (by cases h), fun h => absurd h e⟩
 ·obtain ⟨a, out⟩ := q
  obtain ⟨e1, hB⟩ := h
  dsimp only at e1 hB; subst e1
  obtain ⟨r, hr, r1, r2⟩ := back_L2 hg hN hB.len (by omega) rfl (hB.row n (Nat.le_refl _))
  rw [s_gr16_back_L1, dT (by dsimp only; omega), cT, hg.len, grd_of ⟨by omega, by omega, by omega⟩, oB, toNat_nat, hr, oB]
  dsimp only
  have hol := hB.len
  rw [grd_of (by rw [List.length_append, List.length_singleton]; omega), oB, w64_succ' (by omega)]
  refine ⟨(((n + 1 + 1 : Nat) : Int), out ++ [r]), ⟨rfl, by dsimp only; rw [List.length_append, List.length_singleton, hol], fun m hm' => ?_, fun m hm' i hi => ?_⟩, rfl⟩
  ·dsimp only
   rw [getD_snoc]
   by_cases e : m < out.length
   ·rw [if_pos e]; exact hB.row m (by omega)
   ·rw [if_neg e, if_pos (by omega)]; exact r1
  ·dsimp only
   rw [getD_snoc]
   by_cases e : m < out.length
   ·rw [if_pos e]; exact hB.mem m (by omega) i hi
   ·obtain rfl : m = n + 1 := by omega
    rw [if_neg e, if_pos (by omega), r2 i hi, path_succ]
    constructor
    ·rintro ⟨k, hu, h⟩; exact ⟨k, hu, (hB.mem n (Nat.le_refl _) k (hg.dom _ _ hu).2).1 h⟩
    ·rintro ⟨k, hu, h⟩; exact ⟨k, hu, (hB.mem n (Nat.le_refl _) k (hg.dom _ _ hu).2).2 h⟩
 ·obtain ⟨a, out⟩ := q
  obtain ⟨e1, hB⟩ := h
  dsimp only at e1 hB; subst e1
  exact ⟨out, by rw [s_gr16_back_L1, dF (by dsimp only; omega), cF], hB⟩
def Best (N : Nat) (U : Nat → Nat → Prop) (best from_ : Int) : Prop := (from_ = -1 ∧ best = (N : Int) + 1) ∨ ∃ f n : Nat, from_ = f ∧ best = n ∧ f < N ∧ 1 ≤ n ∧ n ≤ N ∧ Path U n f f
theorem rcircle_L2 {p : Plan} {U : Nat → Nat → Prop} {b : List (List Bool)} {i : Nat} (hN : p.Defs.length ≤ 1000) (hi : i < p.Defs.length) (hB : Back p.Defs.length U i p.Defs.length b) {best from_ : Int} (h0 : Best p.Defs.length U best from_) :
  ∃ r, s_gr16_circle_L2 p b (best, from_, (i : Int)) KK (best, from_, 1) = some r ∧ (Best p.Defs.length U r.1 r.2 ∧ (r.2 = -1 → from_ = -1 ∧ ∀ n, 1 ≤ n → n ≤ p.Defs.length → ¬ Path U n i i)) := by
 refine for_all (L := s_gr16_circle_L2 p b (best, from_, (i : Int))) (s := (best, from_, (1 : Int)))
  (fun n q => q.2.2 = ((n + 1 : Nat) : Int) ∧ Best p.Defs.length U q.1 q.2.1 ∧ (q.2.1 = -1 → from_ = -1 ∧ ∀ m, 1 ≤ m → m ≤ n → ¬ Path U m i i))
  (fun r => Best p.Defs.length U r.1 r.2 ∧ (r.2 = -1 → from_ = -1 ∧ ∀ n, 1 ≤ n → n ≤ p.Defs.length → ¬ Path U n i i)) p.Defs.length (by omega) ⟨rfl, h0, fun h => ⟨h, fun m h1 h2 => by omega⟩⟩ (fun K n q h hn => ?_) (fun K q h => ?_)
 ·obtain ⟨be, fr, a⟩ := q
  obtain ⟨e1, hb, hc⟩ := h
  dsimp only at e1 hb hc; subst e1
  have hbl := hB.len
  have hnb : n + 1 < b.length := by omega
  have hib : i < (b.getD (n + 1) default).length := by rw [hB.row (n + 1) (by omega)]; exact hi
  rw [s_gr16_circle_L2, dT (by dsimp only; omega), cT, oB]
  dsimp only
  by_cases hle : ((n + 1 : Nat) : Int) ≤ be
  ·rw [dT hle, cT, idx_of hnb, oB, idx_of hib, oB, w64_succ' (i := n + 1) (by omega)]
   have hmem := hB.mem (n + 1) (by omega) i hi
   have keep : ¬ Path U (n + 1) i i ∨ fr ≠ -1 → (((n + 1 + 1 : Nat) : Int) = ((n + 1 + 1 : Nat) : Int) ∧ Best p.Defs.length U be fr ∧ (fr = -1 → from_ = -1 ∧ ∀ m, 1 ≤ m → m ≤ n + 1 → ¬ Path U m i i)) := fun hno => ⟨rfl, hb, fun h => by
    rcases hno with hno | hno
    ·obtain ⟨h1, h2⟩ := hc h
     refine ⟨h1, fun m hm1 hm2 => ?_⟩
     by_cases e : m = n + 1
     ·subst e; exact hno
     ·exact h2 m hm1 (by omega)
    ·exact absurd h hno⟩
   have take : Path U (n + 1) i i → (((n + 1 + 1 : Nat) : Int) = ((n + 1 + 1 : Nat) : Int) ∧ Best p.Defs.length U ((n + 1 : Nat) : Int) (i : Int) ∧ ((i : Int) = -1 → from_ = -1 ∧ ∀ m, 1 ≤ m → m ≤ n + 1 → ¬ Path U m i i)) := fun hp => ⟨rfl, .inr ⟨i, n + 1, rfl, rfl, hi, by omega, by omega, hp⟩, fun h => by omega⟩
   cases hbv : (b.getD (n + 1) default).getD i default with
   | false =>
    rw [cF, oB, cF, oB]
    exact .inr ⟨(be, fr, ((n + 1 + 1 : Nat) : Int)), keep (.inl fun hp => by rw [hmem.2 hp] at hbv; cases hbv), rfl⟩
   | true =>
    have hp := hmem.1 hbv
    rw [cT]
    by_cases hlt : ((n + 1 : Nat) : Int) < be
    ·rw [dT hlt, cT, oB, cT, oB]
     exact .inr ⟨(((n + 1 : Nat) : Int), (i : Int), ((n + 1 + 1 : Nat) : Int)), take hp, rfl⟩
    ·have hfr : ∃ f : Nat, fr = f ∧ f < p.Defs.length := by
      rcases hb with ⟨_, rfl⟩ | ⟨f, _, rfl, _, hf, _⟩
      ·omega
      ·exact ⟨f, rfl, hf⟩
     obtain ⟨f, rfl, hf⟩ := hfr
     rw [dF hlt, cF, idx_of hi, oB, show max (f : Int) 0 = (f : Int) by omega, idx_of hf, oB, oB]
     cases Op.bytesLess (p.Defs.getD i default).Name (p.Defs.getD f default).Name with
     | true =>
      rw [cT, oB]
      exact .inr ⟨(((n + 1 : Nat) : Int), (i : Int), ((n + 1 + 1 : Nat) : Int)), take hp, rfl⟩
     | false =>
      rw [cF, oB]
      exact .inr ⟨(be, (f : Int), ((n + 1 + 1 : Nat) : Int)), keep (.inr (by omega)), rfl⟩
  ·rw [dF hle, cF]
   refine .inl ⟨(be, fr), rfl, hb, fun h => ?_⟩
   dsimp only at h
   rcases hb with ⟨_, rfl⟩ | ⟨f, _, rfl, _⟩
   ·omega
   ·omega
 ·obtain ⟨be, fr, a⟩ := q
  obtain ⟨e1, hb, hc⟩ := h
  dsimp only at e1 hb hc; subst e1
  refine ⟨(be, fr), ?_, hb, hc⟩
  rw [s_gr16_circle_L2, dF (by dsimp only; rw [hB.len]; omega), cF, oB, cF]
theorem rcircle_L4 {p : Plan} {U : Nat → Nat → Prop} {use b : List (List Bool)} (hg : Gb p.Defs.length U use) (hN : p.Defs.length ≤ 1000) {t most : Nat} (hB : Back p.Defs.length U t most b) {a n : Nat} (ha : a < p.Defs.length) (hn : n ≤ most) (out : List (List UInt8)) :
  ∃ r, s_gr16_circle_L4 p use b ((a : Int), (n : Int), out) KK (-1, 0) = some r ∧ (r = -1 ∨ ∃ k : Nat, r = k ∧ k < p.Defs.length) := by
 have hau : a < use.length := by rw [hg.len]; exact ha
 have hnb : n < b.length := by rw [hB.len]; omega
 refine for_all (L := s_gr16_circle_L4 p use b ((a : Int), (n : Int), out)) (s := ((-1 : Int), (0 : Int)))
  (fun k q => q.2 = (k : Int) ∧ (q.1 = -1 ∨ ∃ k : Nat, q.1 = k ∧ k < p.Defs.length)) (fun r => r = -1 ∨ ∃ k : Nat, r = k ∧ k < p.Defs.length) p.Defs.length (by omega) ⟨rfl, .inl rfl⟩ (fun K k q h hk => .inr ?_) (fun K q h => ?_)
 ·obtain ⟨r, a'⟩ := q
  obtain ⟨e1, h⟩ := h
  dsimp only at e1 h; subst e1
  have hku : k < (use.getD a default).length := by rw [hg.row a ha]; exact hk
  have hkb : k < (b.getD n default).length := by rw [hB.row n hn]; exact hk
  rw [s_gr16_circle_L4, dT (by dsimp only; rw [hg.len]; omega), cT]
  dsimp only
  rw [idx_of hau, oB, idx_of hku, oB, idx_of hnb, w64_succ hk (by omega)]
  have fin : ∀ v : Bool, ∃ s' : Int × Int, (s'.2 = ((k + 1 : Nat) : Int) ∧ (s'.1 = -1 ∨ ∃ k : Nat, s'.1 = k ∧ k < p.Defs.length)) ∧ (((bif v then some (k : Int) else some r)).bind fun v9 => (s_gr16_circle_L4 p use b ((a : Int), (n : Int), out)) K (v9, ((k + 1 : Nat) : Int))) = (s_gr16_circle_L4 p use b ((a : Int), (n : Int), out)) K s' := fun v => by
   cases v with
   | true => exact ⟨((k : Int), ((k + 1 : Nat) : Int)), ⟨rfl, .inr ⟨k, rfl, hk⟩⟩, rfl⟩
   | false => exact ⟨(r, ((k + 1 : Nat) : Int)), ⟨rfl, h⟩, rfl⟩
  cases (use.getD a default).getD k default with
  | false => rw [cF, oB]; exact fin false
  | true =>
   rw [cT, oB, idx_of hkb, oB]
   cases (b.getD n default).getD k default with
   | false => rw [cF, oB]; exact fin false
   | true =>
    rw [cT]
    rcases h with rfl | ⟨k0, rfl, hk0⟩
    ·rw [dT (by omega), cT, oB]; exact fin true
    ·rw [dF (by omega), cF, idx_of hk, oB, show max (k0 : Int) 0 = (k0 : Int) by omega, idx_of hk0, oB, oB]; exact fin _
 ·obtain ⟨r, a'⟩ := q
  obtain ⟨e1, h⟩ := h
  dsimp only at e1 h; subst e1
  exact ⟨r, by rw [s_gr16_circle_L4, dF (by dsimp only; rw [hg.len]; omega), cF], h⟩
theorem rcircle_is {p : Plan} {U : Nat → Nat → Prop} {use : List (List Bool)} (hg : Gb p.Defs.length U use) (hN : p.Defs.length ≤ 1000) (hsh : ∀ i, i < p.Defs.length → Cyc U i → ∃ n, 1 ≤ n ∧ n ≤ p.Defs.length ∧ Path U n i i) :
  ∃ c, s_gr16_circle p use = some c ∧ (c = [] ↔ ∀ i, i < p.Defs.length → ¬ Cyc U i) := by
 have key := for_all (L := s_gr16_circle_L1 p use) (s := (((p.Defs.length : Int) + 1), (-1 : Int), (0 : Int)))
  (fun i q => q.2.2 = (i : Int) ∧ Best p.Defs.length U q.1 q.2.1 ∧ (q.2.1 = -1 → ∀ j, j < i → ∀ n, 1 ≤ n → n ≤ p.Defs.length → ¬ Path U n j j))
  (fun r => Best p.Defs.length U r.1 r.2 ∧ (r.2 = -1 → ∀ j, j < p.Defs.length → ∀ n, 1 ≤ n → n ≤ p.Defs.length → ¬ Path U n j j)) p.Defs.length (by omega) ⟨rfl, .inl ⟨rfl, rfl⟩, fun _ j hj => by omega⟩ (fun K i q h hi => .inr ?_) (fun K q h => ?_)
 ·obtain ⟨⟨be, fr⟩, h1, hb, hc⟩ := key
  dsimp only at hb hc
  unfold s_gr16_circle
  rw [hg.len, w64_id (by omega) (by omega), h1, oB]
  dsimp only
  rcases hb with ⟨rfl, _⟩ | ⟨f, n, rfl, rfl, hf, hn1, hn2, hp⟩
  ·rw [dT (by omega), cT]
   refine ⟨[], rfl, fun _ i hi hcy => ?_, fun _ => rfl⟩
   obtain ⟨n, h2, h3, h4⟩ := hsh i hi hcy
   exact hc rfl i hi n h2 h3 h4
  ·rw [dF (by omega), cF]
   obtain ⟨b, hb, hB⟩ := back_is hg hN hf (most := n) (by omega)
   rw [hb, oB, w64_id (by omega) (by omega)]
   have hcyc : Cyc U f := by
    obtain ⟨n, rfl⟩ : ∃ m, n = m + 1 := ⟨n - 1, by omega⟩
    exact ⟨n, hp⟩
   have key2 := for_all (L := s_gr16_circle_L3 p use b) (s := ((f : Int), (n : Int) - 1, ([] : List (List UInt8))))
    (fun j q => q.2.1 = (n : Int) - 1 - j ∧ (∃ a : Nat, q.1 = a ∧ a < p.Defs.length) ∧ q.2.2.length = j) (fun c => c.length = n) n (by omega) ⟨by simp, ⟨f, rfl, hf⟩, rfl⟩ (fun K j q h hj => .inr ?_) (fun K q h => ?_)
   ·obtain ⟨c, h2, h3⟩ := key2
    rw [h2, oB]
    exact ⟨c, rfl, fun h => by rw [h] at h3; simp at h3; omega, fun h => absurd hcyc (h f hf)⟩
   ·obtain ⟨a', m, out⟩ := q
    obtain ⟨e1, ⟨a, e2, ha⟩, e3⟩ := h
    dsimp only at e1 e2 e3; subst e1 e2
    rw [s_gr16_circle_L3, dT (by dsimp only; omega), cT, idx_of ha, oB]
    dsimp only
    rw [grd_of (by rw [List.length_append, List.length_singleton]; omega), oB]
    obtain ⟨r, hr, hrs⟩ := rcircle_L4 hg hN hB ha (n := n - 1 - j) (by omega) out
    rw [show (((n - 1 - j : Nat) : Int)) = (n : Int) - 1 - j by omega] at hr
    rw [hr, oB, w64_id (by omega) (by omega)]
    refine ⟨(max r 0, (n : Int) - 1 - j - 1, out ++ [(p.Defs.getD a default).Name]), ⟨by dsimp only; omega, ?_, by dsimp only; rw [List.length_append, List.length_singleton, e3]⟩, rfl⟩
    dsimp only
    rcases hrs with rfl | ⟨k, rfl, hk⟩
    ·exact ⟨0, by omega, by omega⟩
    ·exact ⟨k, by omega, hk⟩
   ·obtain ⟨a', m, out⟩ := q
    obtain ⟨e1, _, e3⟩ := h
    dsimp only at e1 e3; subst e1
    exact ⟨out, by rw [s_gr16_circle_L3, dF (by dsimp only; omega), cF], e3⟩
 ·obtain ⟨be, fr, a⟩ := q
  obtain ⟨e1, hb, hc⟩ := h
  dsimp only at e1 hb hc; subst e1
  obtain ⟨b, hb', hB⟩ := back_is hg hN hi (most := p.Defs.length) (by omega)
  obtain ⟨r, hr, r1, r2⟩ := rcircle_L2 hN hi hB hb
  rw [s_gr16_circle_L1, hg.len, dT (by dsimp only; omega), cT]
  dsimp only
  rw [hb', oB, hr, oB, w64_succ hi (by omega)]
  refine ⟨(r.1, r.2, ((i + 1 : Nat) : Int)), ⟨rfl, r1, fun h j hj => ?_⟩, rfl⟩
  obtain ⟨h2, h3⟩ := r2 h
  by_cases e : j = i
  ·subst e; exact h3
  ·exact hc h2 j (by omega)
 ·obtain ⟨be, fr, a⟩ := q
  obtain ⟨e1, hb, hc⟩ := h
  dsimp only at e1 hb hc; subst e1
  exact ⟨(be, fr), by rw [s_gr16_circle_L1, hg.len, dF (by dsimp only; omega), cF], hb, hc⟩
theorem ready_is {p : Plan} {U : Nat → Nat → Prop} {use : List (List Bool)} (hg : Gb p.Defs.length U use) (hN : p.Defs.length ≤ 1000) {done : List Bool} (hd : done.length = p.Defs.length) :
  ∃ r, s_gr16_ready p use done = some r ∧ ((r = -1 ∧ ∀ j, j < p.Defs.length → ¬ Ready U done j) ∨ ∃ k : Nat, r = k ∧ k < p.Defs.length ∧ Ready U done k) := by
 have inner : ∀ (r : Int) (i : Nat), i < p.Defs.length → ∃ b, s_gr16_ready_L2 use done (r, (i : Int)) KK (!(done.getD i default), 0) = some b ∧ (b = true ↔ Ready U done i) := fun r i hi => by
  have hiu : i < use.length := by rw [hg.len]; exact hi
  refine for_all (L := s_gr16_ready_L2 use done (r, (i : Int))) (s := (!(done.getD i default), (0 : Int))) (fun k q => q.2 = (k : Int) ∧ (q.1 = true ↔ done.getD i default = false ∧ ∀ k', k' < k → U i k' → done.getD k' default = true)) (fun b => b = true ↔ Ready U done i) p.Defs.length (by omega) ⟨rfl, by dsimp only; cases done.getD i default <;> simp⟩ (fun K k q h hk => .inr ?_) (fun K q h => ?_)
  ·obtain ⟨b, a⟩ := q
   obtain ⟨e1, h⟩ := h
   dsimp only at e1 h; subst e1
   have hkd : k < done.length := by omega
   have hku : k < (use.getD i default).length := by rw [hg.row i hi]; exact hk
   have hm := hg.mem i k hi hk
   rw [s_gr16_ready_L2, dT (by dsimp only; rw [hg.len]; omega), cT]
   dsimp only
   rw [idx_of hkd, oB, idx_of hiu, oB, idx_of hku, oB, w64_succ hk (by omega)]
   have fin : ∀ v : Bool, (v = true ↔ b = true ∧ (U i k → done.getD k default = true)) → (((k + 1 : Nat) : Int) = ((k + 1 : Nat) : Int) ∧ (v = true ↔ done.getD i default = false ∧ ∀ k', k' < k + 1 → U i k' → done.getD k' default = true)) := fun v hv => ⟨rfl, by
    rw [hv, h]
    constructor
    ·rintro ⟨⟨h1, h2⟩, h3⟩
     refine ⟨h1, fun k' hk' hu => ?_⟩
     by_cases e : k' = k
     ·subst e; exact h3 hu
     ·exact h2 k' (by omega) hu
    ·rintro ⟨h1, h2⟩
     exact ⟨⟨h1, fun k' hk' hu => h2 k' (by omega) hu⟩, h2 k (by omega)⟩⟩
   cases b with
   | false =>
    rw [cF, oB]
    exact ⟨(false, ((k + 1 : Nat) : Int)), fin false ⟨fun h => (by cases h), fun h => (by cases h.1)⟩, rfl⟩
   | true =>
    rw [cT]
    cases hdk : done.getD k default with
    | true =>
     rw [cT, oB]
     exact ⟨(true, ((k + 1 : Nat) : Int)), fin true ⟨fun _ => ⟨rfl, fun _ => hdk⟩, fun _ => rfl⟩, rfl⟩
    | false =>
     rw [cF, oB]
     exact ⟨(!((use.getD i default).getD k default), ((k + 1 : Nat) : Int)), fin _ (by
      rw [hdk]
      cases huk : (use.getD i default).getD k default with
      | true => exact ⟨fun h => (by cases h), fun h => (by have := h.2 (hm.1 huk); cases this)⟩
      | false => exact ⟨fun _ => ⟨rfl, fun hu => by rw [hm.2 hu] at huk; cases huk⟩, fun _ => rfl⟩), rfl⟩
  ·obtain ⟨b, a⟩ := q
   obtain ⟨e1, h⟩ := h
   dsimp only at e1 h; subst e1
   refine ⟨b, by rw [s_gr16_ready_L2, dF (by dsimp only; rw [hg.len]; omega), cF], ?_⟩
   rw [h]
   exact ⟨fun ⟨h1, h2⟩ => ⟨h1, fun k hu => h2 k (hg.dom _ _ hu).2 hu⟩, fun ⟨h1, h2⟩ => ⟨h1, fun k _ hu => h2 k hu⟩⟩
 have key := for_all (L := s_gr16_ready_L1 p use done) (s := ((-1 : Int), (0 : Int)))
  (fun i q => q.2 = (i : Int) ∧ ((q.1 = -1 ∧ ∀ j, j < i → ¬ Ready U done j) ∨ ∃ k : Nat, q.1 = k ∧ k < p.Defs.length ∧ Ready U done k))
  (fun r => (r = -1 ∧ ∀ j, j < p.Defs.length → ¬ Ready U done j) ∨ ∃ k : Nat, r = k ∧ k < p.Defs.length ∧ Ready U done k) p.Defs.length (by omega) ⟨rfl, .inl ⟨rfl, fun j hj => by omega⟩⟩ (fun K i q h hi => .inr ?_) (fun K q h => ?_)
 ·obtain ⟨r, h1, h2⟩ := key
  refine ⟨r, ?_, h2⟩
  unfold s_gr16_ready
  rw [h1, oB]
 ·obtain ⟨r, a⟩ := q
  obtain ⟨e1, h⟩ := h
  dsimp only at e1 h; subst e1
  have hid : i < done.length := by omega
  obtain ⟨b, hb, hbs⟩ := inner r i hi
  rw [s_gr16_ready_L1, hg.len, dT (by dsimp only; omega), cT, idx_of hid, oB, hb, oB]
  dsimp only
  rw [w64_succ hi (by omega)]
  cases hbv : b with
  | false =>
   rw [cF, oB, cF, oB]
   refine ⟨(r, ((i + 1 : Nat) : Int)), ⟨rfl, ?_⟩, rfl⟩
   rcases h with ⟨h1, h2⟩ | h
   ·refine .inl ⟨h1, fun j hj => ?_⟩
    by_cases e : j = i
    ·subst e; exact fun hr => by rw [hbs.2 hr] at hbv; cases hbv
    ·exact h2 j (by omega)
   ·exact .inr h
  | true =>
   have hri := hbs.1 hbv
   rw [cT]
   rcases h with ⟨rfl, h2⟩ | ⟨k, rfl, hk, hkr⟩
   ·rw [dT (by omega), cT, oB, cT, oB]
    exact ⟨((i : Int), ((i + 1 : Nat) : Int)), ⟨rfl, .inr ⟨i, rfl, hi, hri⟩⟩, rfl⟩
   ·rw [dF (by omega), cF, idx_of hi, oB, show max (k : Int) 0 = (k : Int) by omega, idx_of hk, oB, oB]
    cases Op.bytesLess (p.Defs.getD i default).Name (p.Defs.getD k default).Name with
    | true =>
     rw [cT, oB]
     exact ⟨((i : Int), ((i + 1 : Nat) : Int)), ⟨rfl, .inr ⟨i, rfl, hi, hri⟩⟩, rfl⟩
    | false =>
     rw [cF, oB]
     exact ⟨((k : Int), ((i + 1 : Nat) : Int)), ⟨rfl, .inr ⟨k, rfl, hk, hkr⟩⟩, rfl⟩
 ·obtain ⟨r, a⟩ := q
  obtain ⟨e1, h⟩ := h
  dsimp only at e1 h; subst e1
  exact ⟨r, by rw [s_gr16_ready_L1, hg.len, dF (by dsimp only; omega), cF], h⟩
theorem refOrder_is {p : Plan} (hN : p.Defs.length ≤ 20) (hok : okD p.Defs) (hl : ∀ d ∈ p.Defs, ∃ n, n ≤ 1000 ∧ lvl n d.Body ∧ cnt d.Body ≤ 1000) : ∃ r, s_gr16_Order p = some r ∧ (r.2.2 = 0 ↔ Okay p.Defs) ∧ (Okay p.Defs → ∃ o : List Nat, r.1 = nInts o ∧ Topo p.Defs.length (Uses p.Defs) o ∧ o.length = p.Defs.length) := by
 obtain ⟨b, hb, hbs⟩ := twice_is (p := p) (by omega)
 unfold s_gr16_Order
 rw [hb, oB]
 cases hbv : b with
 | true =>
  have hnp : ¬ Proper p.Defs := fun h => by have := hbs.2 h; rw [hbv] at this; cases this
  rw [cT]
  exact ⟨_, rfl, ⟨fun h => by simp at h, fun h => absurd h.1 hnp⟩, fun h => absurd h.1 hnp⟩
 | false =>
  have hp := hbs.1 hbv
  obtain ⟨us, _, hgr⟩ := newGraph_is (by omega) hp.dis hok
  obtain ⟨use, hu, hg⟩ := uses_is (by omega) hl
  obtain ⟨c, hc, hcs⟩ := rcircle_is hg (by omega) fun i hi h => cyc_short hgr (by omega) hi h
  rw [cF, hu, oB, hc, oB]
  by_cases hce : c = []
  ·have hac := hcs.1 hce
   rw [dF (by rw [hce]; simp), cF, hg.len, grd_of ⟨by omega, by omega, by omega⟩, oB, toNat_nat]
   have key := for_all (L := s_gr16_Order_L1 p use) (s := ((0 : Int), List.replicate p.Defs.length false, ([] : List Int)))
    (fun i q => q.1 = (i : Int) ∧ q.2.1.length = p.Defs.length ∧ ∃ o : List Nat, q.2.2 = nInts o ∧ o.length = i ∧ Topo p.Defs.length (Uses p.Defs) o ∧ ∀ k, k < p.Defs.length → (q.2.1.getD k default = true ↔ k ∈ o))
    (fun t => ∃ o : List Nat, t = nInts o ∧ Topo p.Defs.length (Uses p.Defs) o ∧ o.length = p.Defs.length) p.Defs.length (by omega) ⟨rfl, by simp, [], rfl, rfl, Topo.nil, fun k hk => by dsimp only; rw [getD_rep hk]; simp⟩ (fun K i q h hi => .inr ?_) (fun K q h => ?_)
   ·obtain ⟨t, h1, o, rfl, h2⟩ := key
    rw [h1, oB]
    exact ⟨_, rfl, ⟨fun _ => ⟨hp, hac⟩, fun _ => rfl⟩, fun _ => ⟨o, rfl, h2⟩⟩
   ·obtain ⟨a, d, out⟩ := q
    obtain ⟨e1, hd, o, e2, hol, ht, hdo⟩ := h
    dsimp only at e1 e2 hd hdo; subst e1 e2
    obtain ⟨r, hr, hrs⟩ := ready_is hg (by omega) hd
    have hrdy : ∀ x, x < p.Defs.length → (Ready (Uses p.Defs) d x ↔ x ∉ o ∧ ∀ k, Uses p.Defs x k → k ∈ o) := fun x hx => by
     unfold Ready
     rw [← Bool.not_eq_true, hdo x hx]
     constructor
     ·rintro ⟨a, b⟩; exact ⟨a, fun k hu => (hdo k (hg.dom _ _ hu).2).1 (b k hu)⟩
     ·rintro ⟨a, b⟩; exact ⟨a, fun k hu => (hdo k (hg.dom _ _ hu).2).2 (b k hu)⟩
    rcases hrs with ⟨_, hno⟩ | ⟨k, rfl, hk, hkr⟩
    ·obtain ⟨x, hx, hxo, hxd⟩ := ready_ex hg.dom hac (o := o) (by omega)
     exact absurd ((hrdy x hx).2 ⟨hxo, hxd⟩) (hno x hx)
    ·obtain ⟨hko, hkd⟩ := (hrdy k hk).1 hkr
     have hkl : k < d.length := by omega
     rw [s_gr16_Order_L1, hg.len, dT (by dsimp only; omega), cT]
     dsimp only
     rw [hr, oB, show max (k : Int) 0 = (k : Int) by omega, grd_of ⟨by omega, by omega⟩, oB, oB, toNat_nat, grd_of (by unfold nInts; rw [List.length_append, List.length_map, List.length_singleton]; omega), oB, w64_succ hi (by omega)]
     refine ⟨(((i + 1 : Nat) : Int), d.set k true, nInts o ++ [(k : Int)]), ⟨rfl, by dsimp only; rw [List.length_set]; exact hd, o ++ [k], by simp [nInts], by simp [hol], ht.snoc hk hko hkd, fun x hx => ?_⟩, rfl⟩
     dsimp only
     rw [getD_set hkl]
     by_cases e : x = k
     ·subst e; simp
     ·rw [if_neg e, hdo x hx]; simp [e]
   ·obtain ⟨a, d, out⟩ := q
    obtain ⟨e1, hd, o, e2, hol, ht, hdo⟩ := h
    dsimp only at e1 e2 hd hdo; subst e1 e2
    exact ⟨_, by rw [s_gr16_Order_L1, hg.len, dF (by dsimp only; omega), cF], o, rfl, ht, hol⟩
  ·have hn : ¬ Okay p.Defs := fun h => hce (hcs.2 h.2)
   rw [dT (by have := List.length_pos_iff.2 hce; omega), cT]
   exact ⟨_, rfl, ⟨fun h => by simp at h, fun h => absurd h hn⟩, fun h => absurd h hn⟩
end Go.Proofs.YtconjkgifdfhdabGreat
