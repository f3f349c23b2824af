/- define.graph: circles, the order. -/
import Derived.Test.YtconjkgifdfhdabGreatR
set_option linter.all false
set_option maxRecDepth 100000
namespace Go.Proofs.YtconjkgifdfhdabGreat
open Go Go.RowKit Go.Eng Go.EV Go.Grf
variable [Fuel]
theorem circle_is {l : List Def} {U : Nat → Nat → Prop} {us : List (List Int)} (hg : Gr l.length U us) (hN : l.length ≤ 20) {t : Nat} (ht : t < l.length) :
  ∃ c, s_define_graph_circle l us (t : Int) = some (c, l, us) ∧ (c = [] ↔ ¬ Cyc U t) ∧ c.length ≤ 21 := by
 obtain ⟨d, h1, hdl, hD⟩ := distances_is hg hN ht
 have hcyc := hD.cyc hg.dom
 have key := loop_inv (L := s_define_graph_circle_L1 (t : Int) (d, l, us))
  (fun q => ∃ a : Nat, q.1 = a ∧ a < l.length ∧ ((a = t ∧ q.2 = []) ∨ (Cyc U t ∧ q.2 ≠ [] ∧ 0 < dv d a ∧ dv d a + q.2.length ≤ l.length)))
  (fun q => l.length + 1 - q.2.length) (fun r => ∃ c, r = .inl (c, l, us) ∧ (c = [] ↔ ¬ Cyc U t) ∧ c.length ≤ 21) (fun K q h => ?_) (l.length + 1) KK ((t : Int), []) ⟨t, rfl, ht, .inl ⟨rfl, rfl⟩⟩ (by simp) (by have := KK_big; omega)
 ·obtain ⟨r, h2, c, rfl, h3⟩ := key
  refine ⟨c, ?_, h3⟩
  unfold s_define_graph_circle
  rw [h1, oB, h2]; rfl
 ·obtain ⟨a', out⟩ := q
  obtain ⟨a, e1, ha, h⟩ := h
  dsimp only at e1 h; subst e1
  have hol : out.length ≤ l.length := by
   rcases h with ⟨_, rfl⟩ | ⟨_, _, h3, h4⟩
   ·simp
   ·omega
  obtain ⟨r, hr, hrs⟩ := next_is hg hdl ha
  have hau : a < us.length := by rw [hg.len]; exact ha
  rw [s_define_graph_circle_L1]
  dsimp only
  rw [idx_of ha, oB, grd_of (by rw [List.length_append, List.length_singleton]; omega), oB, idx_of hau, oB, hr, oB]
  rcases hrs with ⟨rfl, hno⟩ | ⟨k, rfl, hu, hk0, hmin⟩
  ·rw [dT (by omega), cT]
   refine .inl ⟨_, rfl, [], rfl, ⟨fun _ hc => ?_, fun _ => rfl⟩, by simp⟩
   rcases h with ⟨rfl, _⟩ | ⟨_, _, h3, h4⟩
   ·obtain ⟨k, hu, hk⟩ := hcyc.1 hc
    have := hno k hu; omega
   ·have hat : a ≠ t := fun e => by rw [e, hD.zero] at h3; omega
    obtain ⟨j, hj, hu, hj0, _⟩ := hD.back a ha hat (by omega)
    have := hno j hu; omega
  ·have hkN := (hg.dom _ _ hu).2
   have hc : Cyc U t := by
    rcases h with ⟨rfl, _⟩ | ⟨h, _⟩
    ·exact hcyc.2 ⟨k, hu, hk0⟩
    ·exact h
   rw [dF (by omega), cF]
   by_cases hkt : k = t
   ·subst hkt
    rw [dT rfl, cT, grd_of (by cases out <;> rfl), oB]
    exact .inl ⟨_, rfl, _, rfl, ⟨fun h => by simp at h, fun h => absurd hc h⟩, by rw [List.length_append, List.length_singleton]; omega⟩
   ·rw [dF (by omega), cF]
    have hkp : 0 < dv d k := by
     rcases Int.lt_or_eq_of_le hk0 with h | h
     ·exact h
     ·exact absurd (hD.only k hkN h.symm) hkt
    have hks := hD.small k hkN
    refine .inr ⟨((k : Int), out ++ [(l.getD a default).Name]), ⟨k, rfl, hkN, .inr ⟨hc, by simp, hkp, ?_⟩⟩, by dsimp only; rw [List.length_append, List.length_singleton]; omega, rfl⟩
    dsimp only
    rw [List.length_append, List.length_singleton]
    rcases h with ⟨rfl, rfl⟩ | ⟨_, _, h3, h4⟩
    ·simp only [List.length_nil]; omega
    ·have hat : a ≠ t := fun e => by rw [e, hD.zero] at h3; omega
     obtain ⟨j, hj, hu', hj0, hj1⟩ := hD.back a ha hat (by omega)
     have := hmin j hu' hj0; omega
theorem cmp_total (x y : List UInt8) : ∃ r, s_cmp_Compare x y = some r := by
 have h : ∀ z : List UInt8, s_cmp_isNaN z = some false := fun z => by unfold s_cmp_isNaN; rw [dT rfl]; rfl
 unfold s_cmp_Compare
 rw [h, h, oB, oB, cF, cF]
 cases Op.bytesLess x y with
 | true => exact ⟨_, rfl⟩
 | false =>
  rw [cF]
  cases (!(false || decide (x = y))) with
  | true => exact ⟨_, rfl⟩
  | false => exact ⟨_, rfl⟩
theorem compare_total {s1 s2 : List (List UInt8)} (hs : s1.length < 2 ^ 62) : ∃ r, s_slices_Compare s1 s2 = some r := by
 have key := for_all (L := s_slices_Compare_L1 s1 s2) (s := (0 : Int)) (fun i a => a = (i : Int)) (fun _ => True) s1.length (by omega) rfl (fun K i a h hi => ?_) (fun K a h => ?_)
 ·obtain ⟨t, h1, _⟩ := key
  unfold s_slices_Compare
  rw [h1, oB]
  cases t with
  | inl r => exact ⟨_, rfl⟩
  | inr u =>
   dsimp only
   cases decide ((s1.length : Int) < (s2.length : Int)) with
   | true => exact ⟨_, rfl⟩
   | false => exact ⟨_, rfl⟩
 ·subst h
  rw [s_slices_Compare_L1, dT (by omega), cT, idx_of hi, oB, w64_succ hi (by omega)]
  by_cases h2 : i < s2.length
  ·obtain ⟨r, hr⟩ := cmp_total (s1.getD i default) (s2.getD i default)
   rw [dF (by omega), cF, idx_of h2, oB, hr, oB]
   cases decide (r = 0) with
   | true => exact .inr ⟨_, rfl, rfl⟩
   | false => exact .inl ⟨_, rfl, trivial⟩
  ·rw [dT (by omega), cT]
   exact .inl ⟨_, rfl, trivial⟩
 ·subst h
  rw [s_slices_Compare_L1, dF (by omega), cF]
  exact ⟨_, rfl, trivial⟩
theorem smallest_is {l : List Def} {U : Nat → Nat → Prop} {us : List (List Int)} (hg : Gr l.length U us) (hN : l.length ≤ 20) :
  ∃ c, s_define_graph_smallest l us = some (c, l, us) ∧ (c = [] ↔ ∀ i, i < l.length → ¬ Cyc U i) := by
 have key := for_all (L := s_define_graph_smallest_L1 l) (s := (([] : List (List UInt8)), (0 : Int), l, us))
  (fun i q => q.2.1 = (i : Int) ∧ q.2.2.1 = l ∧ q.2.2.2 = us ∧ (q.1 = [] ↔ ∀ j, j < i → ¬ Cyc U j) ∧ q.1.length ≤ 21)
  (fun r => ∃ c, r = (c, l, us) ∧ (c = [] ↔ ∀ i, i < l.length → ¬ Cyc U i)) l.length (by omega) ⟨rfl, rfl, rfl, by simp, by simp⟩ (fun K i q h hi => .inr ?_) (fun K q h => ?_)
 ·obtain ⟨r, h1, c, rfl, h2⟩ := key
  refine ⟨c, ?_, h2⟩
  unfold s_define_graph_smallest
  rw [h1, oB]
 ·obtain ⟨b, a, l', us'⟩ := q
  obtain ⟨e1, e2, e3, h, hb⟩ := h
  dsimp only at e1 e2 e3 h hb; subst e1 e2 e3
  obtain ⟨c, hc, hcs, hcl⟩ := circle_is hg hN hi
  rw [s_define_graph_smallest_L1, dT (by dsimp only; omega), cT]
  dsimp only
  rw [hc, oB]
  dsimp only
  have fin : ∀ x : List (List UInt8), (x = [] ↔ b = [] ∧ c = []) → x.length ≤ 21 → (((i + 1 : Nat) : Int) = ((i + 1 : Nat) : Int) ∧ l' = l' ∧ us' = us' ∧ (x = [] ↔ ∀ j, j < i + 1 → ¬ Cyc U j) ∧ x.length ≤ 21) := fun x hx hl => ⟨rfl, rfl, rfl, by
   rw [hx, h, hcs]
   constructor
   ·rintro ⟨h1, h2⟩ j hj
    by_cases e : j = i
    ·subst e; exact h2
    ·exact h1 j (by omega)
   ·intro h1
    exact ⟨fun j hj => h1 j (by omega), h1 i (by omega)⟩, hl⟩
  cases hce : c with
  | nil =>
   rw [List.isEmpty_nil, cT, oB, w64_succ hi (by omega)]
   exact ⟨(b, ((i + 1 : Nat) : Int), l', us'), fin b ⟨fun h => ⟨h, hce⟩, fun h => h.1⟩ hb, rfl⟩
  | cons x c' =>
   rw [← hce]
   have hne : c ≠ [] := by rw [hce]; simp
   have hce' : List.isEmpty c = false := by rw [hce]; rfl
   rw [hce', cF]
   have hB : ∃ v : Bool, ((bif (List.isEmpty b) then some (b, c, true) else (bif (decide ((List.length c : Int) < (List.length b : Int))) then some (b, c, true) else (bif (decide ((List.length c : Int) = (List.length b : Int))) then (s_slices_Compare c b).bind fun y2 => some (b, c, (decide (y2 < 0))) else some (b, c, false)))) : Option (List (List UInt8) × List (List UInt8) × Bool)) = some (b, c, v) ∧ (b = [] → v = true) := by
    cases hbe : b with
    | nil => exact ⟨true, rfl, fun _ => rfl⟩
    | cons y b' =>
     rw [← hbe]
     have : List.isEmpty b = false := by rw [hbe]; rfl
     rw [this, cF]
     obtain ⟨z, hz⟩ := compare_total (s1 := c) (s2 := b) (by omega)
     rw [hz, oB]
     cases decide ((List.length c : Int) < (List.length b : Int)) with
     | true => exact ⟨_, rfl, fun _ => rfl⟩
     | false =>
      cases decide ((List.length c : Int) = (List.length b : Int)) with
      | true => exact ⟨_, rfl, fun h => by rw [hbe] at h; cases h⟩
      | false => exact ⟨_, rfl, fun h => by rw [hbe] at h; cases h⟩
   obtain ⟨v, hv, hv2⟩ := hB
   rw [hv, oB]
   dsimp only
   cases v with
   | true =>
    rw [cT, oB, oB, w64_succ hi (by omega)]
    exact ⟨(c, ((i + 1 : Nat) : Int), l', us'), fin c ⟨fun h => absurd h hne, fun h => absurd h.2 hne⟩ hcl, rfl⟩
   | false =>
    have hbn : b ≠ [] := fun e => by have := hv2 e; cases this
    rw [cF, oB, oB, w64_succ hi (by omega)]
    exact ⟨(b, ((i + 1 : Nat) : Int), l', us'), fin b ⟨fun h => absurd h hbn, fun h => absurd h.1 hbn⟩ hb, rfl⟩
 ·obtain ⟨b, a, l', us'⟩ := q
  obtain ⟨e1, e2, e3, h, hb⟩ := h
  dsimp only at e1 e2 e3 h hb; subst e1 e2 e3
  exact ⟨_, by rw [s_define_graph_smallest_L1, dF (by simp), cF], b, rfl, h⟩
end Go.Proofs.YtconjkgifdfhdabGreat
