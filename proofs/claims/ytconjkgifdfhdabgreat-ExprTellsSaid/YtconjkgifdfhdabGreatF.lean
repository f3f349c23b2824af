/- define.Order. -/
import Derived.Test.YtconjkgifdfhdabGreatG
set_option linter.all false
set_option maxRecDepth 100000
namespace Go.Grf
structure Topo (N : Nat) (U : Nat → Nat → Prop) (o : List Nat) : Prop where
 nodup : o.Nodup
 lt : ∀ x ∈ o, x < N
 dep : ∀ i, i < o.length → ∀ k, U (o.getD i default) k → k ∈ o.take i
theorem Topo.nil {N : Nat} {U : Nat → Nat → Prop} : Topo N U [] := ⟨List.nodup_nil, fun x h => (by cases h), fun i h => (by simp at h)⟩
theorem Topo.snoc {N : Nat} {U : Nat → Nat → Prop} {o : List Nat} {x : Nat} (h : Topo N U o) (hx : x < N) (hn : x ∉ o) (hd : ∀ k, U x k → k ∈ o) : Topo N U (o ++ [x]) := by
 refine ⟨List.nodup_append.2 ⟨h.nodup, by simp, fun a ha b hb => by simp at hb; subst hb; intro e; subst e; exact hn ha⟩, fun y hy => ?_, fun i hi k hu => ?_⟩
 ·rcases List.mem_append.1 hy with hy | hy
  ·exact h.lt y hy
  ·rw [List.mem_singleton.1 hy]; exact hx
 ·rw [List.length_append, List.length_singleton] at hi
  by_cases hil : i < o.length
  ·have e : (o ++ [x]).getD i default = o.getD i default := by
    rw [List.getD_eq_getElem?_getD, List.getD_eq_getElem?_getD, List.getElem?_append_left hil]
   rw [e] at hu
   rw [List.take_append_of_le_length (by omega)]
   exact h.dep i hil k hu
  ·obtain rfl : i = o.length := by omega
   have e : (o ++ [x]).getD o.length default = x := by
    rw [List.getD_eq_getElem?_getD, List.getElem?_append_right (Nat.le_refl _)]; simp
   rw [e] at hu
   rw [List.take_append_of_le_length (Nat.le_refl _), List.take_length]
   exact hd k hu
theorem all_le : ∀ (N : Nat) (l : List Nat), (∀ k, k < N → k ∈ l) → N ≤ l.length
 | 0, _, _ => Nat.zero_le _
 | N + 1, l, h => by
  have h1 : N ∈ l := h N (by omega)
  have h2 := all_le N (l.erase N) fun k hk => (List.mem_erase_of_ne (by omega)).2 (h k (by omega))
  rw [List.length_erase_of_mem h1] at h2
  have := List.length_pos_of_mem h1
  omega
theorem ready_ex {N : Nat} {U : Nat → Nat → Prop} (hU : ∀ i k, U i k → i < N ∧ k < N) (hac : ∀ i, i < N → ¬ Cyc U i) {o : List Nat} (hl : o.length < N) : ∃ x, x < N ∧ x ∉ o ∧ ∀ k, U x k → k ∈ o := by
 refine Classical.byContradiction fun hno => ?_
 have hs : ∃ s, s < N ∧ s ∉ o := Classical.byContradiction fun h => by
  have := all_le N o fun k hk => Classical.byContradiction fun hk' => h ⟨k, hk, hk'⟩
  omega
 obtain ⟨s, hs⟩ := hs
 obtain ⟨i, hi, hc⟩ := cyc_of_next (N := N) (U := U) (P := fun i => i < N ∧ i ∉ o) (s := s) hs (fun i h => h.1) fun i hi => Classical.byContradiction fun h => hno ⟨i, hi.1, hi.2, fun k hu => Classical.byContradiction fun hk => h ⟨k, hu, (hU _ _ hu).2, hk⟩⟩
 exact hac i hi.1 hc
def nInts (o : List Nat) : List Int := o.map fun (k : Nat) => (k : Int)
end Go.Grf
namespace Go.Proofs.YtconjkgifdfhdabGreat
open Go Go.RowKit Go.Eng Go.EV Go.Grf
variable [Fuel]
theorem cf_is {s : List Int} {done : List Bool} (hs : s.length < 2 ^ 62) (hx : ∀ x ∈ s, ∃ k : Nat, x = k ∧ k < done.length) :
  ∃ b, s_slices_ContainsFunc s done = some (b, done) ∧ (b = true ↔ ∃ k : Nat, (k : Int) ∈ s ∧ done.getD k default = false) := by
 have key := for_all (L := s_slices_IndexFunc_L1 s) (s := ((0 : Int), done)) (fun i q => q.1 = (i : Int) ∧ q.2 = done ∧ ∀ j, j < i → ∀ k : Nat, s.getD j default = k → done.getD k default = true)
  (fun t => match t with | .inl r => 0 ≤ r.1 ∧ r.2 = done ∧ ∃ k : Nat, (k : Int) ∈ s ∧ done.getD k default = false | .inr d => d = done ∧ ∀ k : Nat, (k : Int) ∈ s → done.getD k default = true) s.length (by omega) ⟨rfl, rfl, fun j hj => by omega⟩ (fun K i q h hi => ?_) (fun K q h => ?_)
 ·obtain ⟨t, h1, h2⟩ := key
  unfold s_slices_ContainsFunc s_slices_IndexFunc
  rw [h1, oB]
  cases t with
  | inl r =>
   obtain ⟨r, d⟩ := r
   dsimp only at h2
   obtain ⟨h2, rfl, h3⟩ := h2
   dsimp only
   rw [oB]
   exact ⟨_, rfl, by simp only [decide_eq_true_eq]; exact ⟨fun _ => h3, fun _ => h2⟩⟩
  | inr d =>
   dsimp only at h2
   obtain ⟨rfl, h3⟩ := h2
   dsimp only
   rw [oB]
   refine ⟨_, rfl, by simp only [decide_eq_true_eq]; exact ⟨fun h => by omega, fun ⟨k, hk, hf⟩ => by rw [h3 k hk] at hf; cases hf⟩⟩
 ·obtain ⟨a, d⟩ := q
  obtain ⟨e1, e2, h⟩ := h
  dsimp only at e1 e2 h; subst e1 e2
  obtain ⟨k, hk, hkd⟩ := hx _ (getD_mem hi)
  rw [s_slices_IndexFunc_L1, dT (by dsimp only; omega), cT, idx_of hi, oB]
  unfold s_define_graph_order_1
  dsimp only
  rw [hk, grd_of ⟨by omega, by omega⟩, oB, oB, toNat_nat, oB, w64_succ hi (by omega)]
  dsimp only
  cases hb : d.getD k default with
  | false =>
   rw [Bool.not_false, cT]
   refine .inl ⟨.inl ((i : Int), d), rfl, ?_⟩
   dsimp only
   exact ⟨by omega, rfl, k, by rw [← hk]; exact getD_mem hi, hb⟩
  | true =>
   rw [Bool.not_true, cF]
   refine .inr ⟨_, ⟨rfl, rfl, fun j hj k' e => ?_⟩, rfl⟩
   by_cases hji : j = i
   ·subst hji
    obtain rfl : k = k' := by rw [hk] at e; omega
    exact hb
   ·exact h j (by omega) k' e
 ·obtain ⟨a, d⟩ := q
  obtain ⟨e1, e2, h⟩ := h
  dsimp only at e1 e2 h; subst e1 e2
  refine ⟨.inr d, by rw [s_slices_IndexFunc_L1, dF (by simp), cF], ?_⟩
  dsimp only
  exact ⟨rfl, fun k hk => by obtain ⟨j, hj, e⟩ := mem_getD hk; exact h j hj k e.symm⟩
def Ready (U : Nat → Nat → Prop) (done : List Bool) (i : Nat) : Prop := done.getD i default = false ∧ ∀ k, U i k → done.getD k default = true
theorem order_L2 {l : List Def} {U : Nat → Nat → Prop} {us : List (List Int)} (hg : Gr l.length U us) (hN : l.length ≤ 1000) {done : List Bool} (hd : done.length = l.length) :
  ∃ r, s_define_graph_order_L2 l us KK (-1, 0, done) = some (r, done) ∧ ((r = -1 ∧ ∀ j, j < l.length → ¬ Ready U done j) ∨ ∃ k : Nat, r = k ∧ k < l.length ∧ Ready U done k) := by
 have key := for_all (L := s_define_graph_order_L2 l us) (s := ((-1 : Int), (0 : Int), done))
  (fun i q => q.2.1 = (i : Int) ∧ q.2.2 = done ∧ ((q.1 = -1 ∧ ∀ j, j < i → ¬ Ready U done j) ∨ ∃ k : Nat, q.1 = k ∧ k < l.length ∧ Ready U done k))
  (fun t => ∃ r, t = (r, done) ∧ ((r = -1 ∧ ∀ j, j < l.length → ¬ Ready U done j) ∨ ∃ k : Nat, r = k ∧ k < l.length ∧ Ready U done k)) l.length (by omega) ⟨rfl, rfl, .inl ⟨rfl, fun j hj => by omega⟩⟩ (fun K i q h hi => .inr ?_) (fun K q h => ?_)
 ·obtain ⟨t, h1, r, rfl, h2⟩ := key
  exact ⟨r, h1, h2⟩
 ·obtain ⟨r, a, d⟩ := q
  obtain ⟨e1, e2, h⟩ := h
  dsimp only at e1 e2 h; subst e1 e2
  have hiu : i < us.length := by rw [hg.len]; exact hi
  obtain ⟨b, hb, hbs⟩ := cf_is (s := us.getD i default) (done := d) (by have := hg.few i hi; omega) fun x hx => by
   obtain ⟨k, e, hu⟩ := (hg.mem i hi x).1 hx
   exact ⟨k, e, by rw [hd]; exact (hg.dom _ _ hu).2⟩
  have hrd : (b = false ∧ d.getD i default = false) ↔ Ready U d i := by
   unfold Ready
   constructor
   ·rintro ⟨hb0, hd0⟩
    refine ⟨hd0, fun k hu => ?_⟩
    cases hk : d.getD k default with
    | true => rfl
    | false => exact absurd (hbs.2 ⟨k, (hg.mem i hi _).2 ⟨k, rfl, hu⟩, hk⟩) (by rw [hb0]; simp)
   ·rintro ⟨hd0, hk⟩
    refine ⟨?_, hd0⟩
    cases hbv : b with
    | false => rfl
    | true =>
     obtain ⟨k, hm, hf⟩ := hbs.1 hbv
     obtain ⟨k', e, hu⟩ := (hg.mem i hi _).1 hm
     obtain rfl : k = k' := by omega
     rw [hk k hu] at hf; cases hf
  rw [s_define_graph_order_L2, dT (by dsimp only; rw [hg.len]; omega), cT, idx_of hiu, oB]
  dsimp only
  rw [hb, oB]
  dsimp only
  rw [grd_of ⟨by omega, by omega⟩, oB, oB, toNat_nat, w64_succ hi (by omega)]
  have stay : ¬ Ready U d i → (((i + 1 : Nat) : Int) = ((i + 1 : Nat) : Int) ∧ d = d ∧ ((r = -1 ∧ ∀ j, j < i + 1 → ¬ Ready U d j) ∨ ∃ k : Nat, r = k ∧ k < l.length ∧ Ready U d k)) := fun hn => ⟨rfl, rfl, by
   rcases h with ⟨h1, h2⟩ | h
   ·refine .inl ⟨h1, fun j hj => ?_⟩
    by_cases e : j = i
    ·subst e; exact hn
    ·exact h2 j (by omega)
   ·exact .inr h⟩
  cases hd0 : d.getD i default with
  | true =>
   rw [Bool.not_true, cF, oB, cF, oB]
   exact ⟨(r, ((i + 1 : Nat) : Int), d), stay (fun hr => by rw [hr.1] at hd0; cases hd0), rfl⟩
  | false =>
   rw [Bool.not_false, cT]
   cases hbv : b with
   | true =>
    rw [Bool.not_true, cF, oB, cF, oB]
    exact ⟨(r, ((i + 1 : Nat) : Int), d), stay (fun hr => by rw [(hrd.2 hr).1] at hbv; cases hbv), rfl⟩
   | false =>
    have hri := hrd.1 ⟨hbv, hd0⟩
    rw [Bool.not_false, cT]
    have take : (((i + 1 : Nat) : Int) = ((i + 1 : Nat) : Int) ∧ d = d ∧ (((i : Int) = -1 ∧ ∀ j, j < i + 1 → ¬ Ready U d j) ∨ ∃ k : Nat, (i : Int) = k ∧ k < l.length ∧ Ready U d k)) := ⟨rfl, rfl, .inr ⟨i, rfl, hi, hri⟩⟩
    rcases h with ⟨rfl, h2⟩ | ⟨k, rfl, hk, hkr⟩
    ·rw [dT (by omega), cT, oB, cT, oB]
     exact ⟨((i : Int), ((i + 1 : Nat) : Int), d), take, rfl⟩
    ·rw [dF (by omega), cF, idx_of hi, oB, idx_of hk, oB, oB]
     cases Op.bytesLess (l.getD i default).Name (l.getD k default).Name with
     | true =>
      rw [cT, oB]
      exact ⟨((i : Int), ((i + 1 : Nat) : Int), d), take, rfl⟩
     | false =>
      rw [cF, oB]
      exact ⟨((k : Int), ((i + 1 : Nat) : Int), d), ⟨rfl, rfl, .inr ⟨k, rfl, hk, hkr⟩⟩, rfl⟩
 ·obtain ⟨r, a, d⟩ := q
  obtain ⟨e1, e2, h⟩ := h
  dsimp only at e1 e2 h; subst e1 e2
  exact ⟨_, by rw [s_define_graph_order_L2, dF (by dsimp only; rw [hg.len]; omega), cF], r, rfl, h⟩
theorem order_is {l : List Def} {U : Nat → Nat → Prop} {us : List (List Int)} (hg : Gr l.length U us) (hN : l.length ≤ 1000) (hac : ∀ i, i < l.length → ¬ Cyc U i) :
  ∃ o : List Nat, s_define_graph_order l us = some (nInts o, l, us) ∧ Topo l.length U o ∧ o.length = l.length := by
 have key := for_all (L := s_define_graph_order_L1 l us) (s := ((0 : Int), List.replicate l.length false, ([] : List Int)))
  (fun i q => q.1 = (i : Int) ∧ q.2.1.length = l.length ∧ ∃ o : List Nat, q.2.2 = nInts o ∧ o.length = i ∧ Topo l.length U o ∧ ∀ k, k < l.length → (q.2.1.getD k default = true ↔ k ∈ o))
  (fun t => ∃ o : List Nat, t = nInts o ∧ Topo l.length U o ∧ o.length = l.length) l.length (by omega) ⟨rfl, by simp, [], rfl, rfl, Topo.nil, fun k hk => by dsimp only; rw [getD_rep hk]; simp⟩ (fun K i q h hi => .inr ?_) (fun K q h => ?_)
 ·obtain ⟨t, h1, o, rfl, h2⟩ := key
  refine ⟨o, ?_, h2⟩
  unfold s_define_graph_order
  rw [grd_of ⟨by omega, by omega, by omega⟩, oB, toNat_nat, h1, oB]
 ·obtain ⟨a, d, out⟩ := q
  obtain ⟨e1, hd, o, e2, hol, ht, hdo⟩ := h
  dsimp only at e1 e2 hd hdo; subst e1 e2
  obtain ⟨r, hr, hrs⟩ := order_L2 hg hN hd
  have hrdy : ∀ x, x < l.length → (Ready U d x ↔ x ∉ o ∧ ∀ k, U x k → k ∈ o) := fun x hx => by
   unfold Ready
   rw [← Bool.not_eq_true, hdo x hx]
   constructor
   ·rintro ⟨a, b⟩; exact ⟨a, fun k hu => (hdo k (hg.dom _ _ hu).2).1 (b k hu)⟩
   ·rintro ⟨a, b⟩; exact ⟨a, fun k hu => (hdo k (hg.dom _ _ hu).2).2 (b k hu)⟩
  rcases hrs with ⟨_, hno⟩ | ⟨k, rfl, hk, hkr⟩
  ·obtain ⟨x, hx, hxo, hxd⟩ := ready_ex hg.dom hac (o := o) (by omega)
   exact absurd ((hrdy x hx).2 ⟨hxo, hxd⟩) (hno x hx)
  ·obtain ⟨hko, hkd⟩ := (hrdy k hk).1 hkr
   have hkl : k < d.length := by omega
   rw [s_define_graph_order_L1, dT (by dsimp only; omega), cT]
   dsimp only
   rw [hr, oB]
   dsimp only
   rw [grd_of ⟨by omega, by omega⟩, oB, oB, toNat_nat, grd_of (by unfold nInts; rw [List.length_append, List.length_map, List.length_singleton]; omega), oB, w64_succ hi (by omega)]
   refine ⟨(((i + 1 : Nat) : Int), d.set k true, nInts o ++ [(k : Int)]), ⟨rfl, by dsimp only; rw [List.length_set]; exact hd, o ++ [k], by simp [nInts], by simp [hol], ht.snoc hk hko hkd, fun x hx => ?_⟩, rfl⟩
   dsimp only
   rw [getD_set hkl]
   by_cases e : x = k
   ·subst e; simp
   ·rw [if_neg e, hdo x hx]; simp [e]
 ·obtain ⟨a, d, out⟩ := q
  obtain ⟨e1, hd, o, e2, hol, ht, hdo⟩ := h
  dsimp only at e1 e2 hd hdo; subst e1 e2
  exact ⟨_, by rw [s_define_graph_order_L1, dF (by simp), cF], o, rfl, ht, hol⟩
def measL : List (List UInt8) := [[97, 114, 101, 97], [99, 111, 118, 101, 114], [102, 108, 111, 111, 114], [102, 108, 111, 111, 114, 115], [104, 101, 105, 103, 104, 116], [104, 111, 109, 101, 115], [114, 117, 110, 111, 102, 102], [115, 101, 116, 98, 97, 99, 107], [116, 114, 97, 102, 102, 105, 99]]
def Proper (l : List Def) : Prop := ∀ j, j < l.length → nameAt l j ∉ measL ∧ ∀ j', j' < j → nameAt l j' ≠ nameAt l j
theorem Proper.dis {l : List Def} (h : Proper l) : Dis l := fun i k hi hk e => by
 rcases Nat.lt_trichotomy i k with h1 | h1 | h1
 ·exact absurd e ((h k hk).2 i h1)
 ·exact h1
 ·exact absurd e.symm ((h i hi).2 k h1)
omit [Fuel] in
theorem meas_at (m : Nat) (hb : 18446744073709551616 ≤ m + 100) : @s_define_Order_L1 measL (@KK (FF m hb)) (0, []) = some (measL.map fun s => (s, true)) := rfl
omit [Fuel] in
theorem meas_is : ∀ i : Fuel, @s_define_Order_L1 measL (@KK i) (0, []) = some (measL.map fun s => (s, true)) := by
 rintro ⟨n, hb⟩
 obtain ⟨m, rfl⟩ : ∃ m, n = m + 100 := ⟨n - 100, by omega⟩
 exact meas_at m hb
omit [Fuel] in
theorem find_true (s : List UInt8) : ∀ l : List (List UInt8), (mfind s (l.map fun s => (s, true))).getD false = true ↔ s ∈ l
 | [] => by simp [mfind]
 | a :: l => by
  rw [List.map_cons, mfind]
  by_cases h : s = a
  ·simp [h]
  ·rw [if_neg h, find_true s l]; simp [h]
def Okay (l : List Def) : Prop := Proper l ∧ ∀ i, i < l.length → ¬ Cyc (Uses l) i
theorem Order_is {p : Plan} (hN : p.Defs.length ≤ 20) (hok : okD p.Defs) : ∃ r, s_define_Order p = some r ∧ (r.2.2 = 0 ↔ Okay p.Defs) ∧ (Okay p.Defs → ∃ o : List Nat, r.1 = nInts o ∧ Topo p.Defs.length (Uses p.Defs) o ∧ o.length = p.Defs.length) := by
 have key := for_all (L := s_define_Order_L2 p) (s := ((0 : Int), measL.map fun s => (s, true)))
  (fun i q => q.1 = (i : Int) ∧ (∀ s, (mfind s q.2).getD false = true ↔ s ∈ measL ∨ ∃ j, j < i ∧ nameAt p.Defs j = s) ∧ ∀ j, j < i → nameAt p.Defs j ∉ measL ∧ ∀ j', j' < j → nameAt p.Defs j' ≠ nameAt p.Defs j)
  (fun t => match t with | .inl r => r = ([], [], 5) ∧ ¬ Proper p.Defs | .inr _ => Proper p.Defs) p.Defs.length (by omega) ⟨rfl, fun s => by dsimp only; rw [find_true]; exact ⟨.inl, fun h => h.elim id fun ⟨j, hj, _⟩ => by omega⟩, fun j hj => by omega⟩ (fun K i q h hi => ?_) (fun K q h => ?_)
 ·obtain ⟨t, h1, h2⟩ := key
  unfold s_define_Order
  rw [show s_define_Measures = some measL from rfl, oB, meas_is, oB, h1, oB]
  cases t with
  | inl r =>
   dsimp only at h2
   obtain ⟨rfl, hnp⟩ := h2
   exact ⟨_, rfl, ⟨fun h => by simp at h, fun h => absurd h.1 hnp⟩, fun h => absurd h.1 hnp⟩
  | inr u =>
   dsimp only at h2
   dsimp only
   obtain ⟨us, hu, hg⟩ := newGraph_is (by omega) h2.dis hok
   rw [hu, oB]
   dsimp only
   obtain ⟨c, hc, hcs⟩ := smallest_is hg hN
   rw [hc, oB]
   dsimp only
   cases hce : c with
   | cons x y =>
    have hn : ¬ Okay p.Defs := fun h => by have := hcs.2 h.2; rw [hce] at this; cases this
    exact ⟨_, rfl, ⟨fun h => by simp at h, fun h => absurd h hn⟩, fun h => absurd h hn⟩
   | nil =>
    have hac := hcs.1 hce
    obtain ⟨o, ho, ht, hl⟩ := order_is hg (by omega) hac
    rw [List.isEmpty_nil, Bool.not_true, cF, ho, oB]
    exact ⟨_, rfl, ⟨fun _ => ⟨h2, hac⟩, fun _ => rfl⟩, fun _ => ⟨o, rfl, ht, hl⟩⟩
 ·obtain ⟨a, m⟩ := q
  obtain ⟨e1, hm, hp⟩ := h
  dsimp only at e1 hm hp; subst e1
  rw [s_define_Order_L2, dT (by dsimp only; omega), cT, idx_of hi, oB, w64_succ hi (by omega)]
  dsimp only
  cases hf : (mfind (p.Defs.getD i default).Name m).getD false with
  | true =>
   rw [cT]
   refine .inl ⟨_, rfl, rfl, fun hP => ?_⟩
   rcases (hm _).1 hf with h | ⟨j, hj, h⟩
   ·exact (hP i hi).1 h
   ·exact (hP i hi).2 j hj h
  | false =>
   rw [cF]
   have hno : ∀ j, j < i → nameAt p.Defs j ≠ nameAt p.Defs i := fun j hj e => by have := (hm _).2 (.inr ⟨j, hj, e⟩); rw [hf] at this; cases this
   have hnm : nameAt p.Defs i ∉ measL := fun e => by have := (hm _).2 (.inl e); rw [hf] at this; cases this
   refine .inr ⟨_, ⟨rfl, fun s => ?_, fun j hj => ?_⟩, rfl⟩
   ·dsimp only
    rw [mfind_mset]
    by_cases hs : s = nameAt p.Defs i
    ·rw [if_pos hs]; simp only [Option.getD_some, true_iff]
     exact .inr ⟨i, by omega, hs.symm⟩
    ·rw [if_neg hs, hm s]
     constructor
     ·rintro (h | ⟨j, hj, h⟩)
      ·exact .inl h
      ·exact .inr ⟨j, by omega, h⟩
     ·rintro (h | ⟨j, hj, h⟩)
      ·exact .inl h
      ·have : j ≠ i := fun e => hs (by rw [← h, e])
       exact .inr ⟨j, by omega, h⟩
   ·by_cases e : j = i
    ·subst e; exact ⟨hnm, hno⟩
    ·exact hp j (by omega)
 ·obtain ⟨a, m⟩ := q
  obtain ⟨e1, hm, hp⟩ := h
  dsimp only at e1 hm hp; subst e1
  exact ⟨_, by rw [s_define_Order_L2, dF (by simp), cF], hp⟩
end Go.Proofs.YtconjkgifdfhdabGreat
