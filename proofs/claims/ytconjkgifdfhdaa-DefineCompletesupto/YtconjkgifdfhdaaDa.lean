/- define.graph, to the sign: distances, the way on, circles, the smallest one. -/
import Derived.Test.YtconjkgifdfhdaaDd
import Derived.Test.YtconjkgifdfhdaaGrfB
import Derived.Sort.Walk0
set_option linter.all false
set_option maxRecDepth 100000
namespace Go.Proofs.Ytconjkgifdfhdaa
open Go Go.RowKit Go.Eng Go.EV Go.Grf
abbrev asc (l : List (List UInt8)) : Prop := l.Pairwise (· < ·)
theorem asc_ext : ∀ {a b : List (List UInt8)}, asc a → asc b → (∀ x, x ∈ a ↔ x ∈ b) → a = b
 | [], [], _, _, _ => rfl
 | [], y :: b, _, _, h => by have := (h y).2 (List.mem_cons_self ..); cases this
 | x :: a, [], _, _, h => by have := (h x).1 (List.mem_cons_self ..); cases this
 | x :: a, y :: b, ha, hb, h => by
  obtain ⟨ha1, ha2⟩ := List.pairwise_cons.1 ha
  obtain ⟨hb1, hb2⟩ := List.pairwise_cons.1 hb
  have hxy : x = y := by
   rcases List.mem_cons.1 ((h x).1 (List.mem_cons_self ..)) with h1 | h1
   ·exact h1
   ·rcases List.mem_cons.1 ((h y).2 (List.mem_cons_self ..)) with h2 | h2
    ·exact h2.symm
    ·exact absurd (List.lt_trans (hb1 x h1) (ha1 y h2)) (List.lt_irrefl _)
  subst hxy
  rw [asc_ext ha2 hb2 fun z => ⟨fun hz => by
   rcases List.mem_cons.1 ((h z).1 (List.mem_cons_of_mem _ hz)) with rfl | h1
   ·exact absurd (ha1 z hz) (List.lt_irrefl _)
   ·exact h1, fun hz => by
   rcases List.mem_cons.1 ((h z).2 (List.mem_cons_of_mem _ hz)) with rfl | h1
   ·exact absurd (hb1 z hz) (List.lt_irrefl _)
   ·exact h1⟩]
theorem mul_at : ∀ N : Fin 2501, s_bits_Mul (IntKind.u64.wrap 1) (IntKind.u64.wrap ((N : Nat) : Int)) = some (0, ((N : Nat) : Int)) := by decide +kernel
variable [Fuel]
theorem sortKeys_asc {β : Type} {l : List (List UInt8 × β)} (h1 : (l.map (·.1)).Nodup) : asc (sortKeys l) := by
 have tr : ∀ x y z : List UInt8, decide (x ≤ y) = true → decide (y ≤ z) = true → decide (x ≤ z) = true := fun x y z h1 h2 => by
  simp only [decide_eq_true_eq] at *; exact List.le_trans h1 h2
 have to : ∀ x y : List UInt8, (decide (x ≤ y) || decide (y ≤ x)) = true := fun x y => by
  simp only [Bool.or_eq_true, decide_eq_true_eq]; exact List.le_total x y
 have h2 := List.pairwise_mergeSort tr to (l.map (·.1))
 have h3 : ((l.map (·.1)).mergeSort (fun x y => decide (x ≤ y))).Nodup := (List.mergeSort_perm _ _).symm.nodup h1
 unfold sortKeys
 exact (h2.and h3).imp fun h => Std.lt_of_le_of_ne (of_decide_eq_true h.1) h.2
theorem mem_sortKeys {β : Type} {l : List (List UInt8 × β)} {x : List UInt8} : x ∈ sortKeys l ↔ x ∈ l.map (·.1) := by
 unfold sortKeys
 exact (List.mergeSort_perm _ _).mem_iff
theorem namesV_asc (e : Expr) : asc (namesV e) := sortKeys_asc (set_keys (namesL e) [] (by simp)).1
theorem repeat_gen {N : Nat} (h : N ≤ 2500) : s_slices_Repeat [-1] (N : Int) = some (List.replicate N (-1)) := by
 have hm : s_bits_Mul (IntKind.u64.wrap ((List.length [(-1 : Int)] : Int))) (IntKind.u64.wrap (N : Int)) = some (0, (N : Int)) := mul_at ⟨N, by omega⟩
 have step : ∀ n c : Nat, n + c ≤ N → c ≤ n → cpyT (List.replicate n (-1 : Int) ++ List.replicate (N - n) 0) n (List.take c (List.take n (List.drop 0 (List.replicate n (-1 : Int) ++ List.replicate (N - n) 0)))) = List.replicate (n + c) (-1 : Int) ++ List.replicate (N - (n + c)) 0 := fun n c h1 h2 => by
  have e1 : List.take c (List.take n (List.drop 0 (List.replicate n (-1 : Int) ++ List.replicate (N - n) 0))) = List.replicate c (-1 : Int) := by
   rw [List.drop_zero, List.take_left' (by simp), List.take_replicate, Nat.min_eq_left h2]
  rw [e1, cpyT_eq (by simp; omega)]
  unfold cpy
  rw [List.take_left' (by simp), List.drop_append, List.length_replicate, List.length_replicate, List.drop_of_length_le (by simp), List.nil_append, List.drop_replicate, List.replicate_append_replicate]
  congr 2; omega
 unfold s_slices_Repeat
 rw [decide_eq_false (by omega), cond_false, hm, Option.bind_some]
 dsimp only
 rw [decide_eq_false (by omega), cond_false, Option.bind_some, decide_eq_false (by omega), cond_false, w64_id (by omega) (by omega), grd_of ⟨by omega, by omega, by omega⟩, Option.bind_some, toNat_nat]
 have key := loop_inv (L := s_slices_Repeat_L1) (fun q => ∃ n : Nat, q = ((n : Int), List.replicate n (-1 : Int) ++ List.replicate (N - n) 0) ∧ n ≤ N ∧ (N = 0 ∨ 1 ≤ n)) (fun q => N - q.1.toNat) (fun r => r = List.replicate N (-1)) (fun K q hq => ?_) N KK (((min 1 N : Nat) : Int), List.replicate (min 1 N) (-1 : Int) ++ List.replicate (N - min 1 N) 0) ⟨min 1 N, rfl, by omega, by omega⟩ (by dsimp only; omega) (by have := KK_big; omega)
 ·obtain ⟨r, h1, rfl⟩ := key
  have e : ((((min (List.length [(-1 : Int)]) (List.replicate N (0 : Int)).length) : Nat) : Int), cpyT (List.replicate N (0 : Int)) 0 (List.take (min (List.length [(-1 : Int)]) (List.replicate N (0 : Int)).length) [-1])) = (((min 1 N : Nat) : Int), List.replicate (min 1 N) (-1 : Int) ++ List.replicate (N - min 1 N) 0) := by
   simp only [List.length_singleton, List.length_replicate]
   cases N with
   | zero => rfl
   | succ N =>
    rw [Nat.min_eq_left (by omega), cpyT_eq (by simp)]
    simp [cpy, List.replicate_succ]
  rw [e, h1, Option.bind_some]
 ·obtain ⟨n, rfl, hn, hn1⟩ := hq
  rw [s_slices_Repeat_L1]
  dsimp only
  have hlen : (List.replicate n (-1 : Int) ++ List.replicate (N - n) (0 : Int)).length = N := by simp; omega
  rw [hlen]
  by_cases hlt : n < N
  ·rw [decide_eq_true (by omega), cond_true, grd_of ⟨by omega, by omega, by omega⟩, Option.bind_some, grd_of ⟨by omega, by omega, by omega⟩, Option.bind_some]
   have e0 : Int.toNat 0 = 0 := rfl
   rw [toNat_nat, toNat_nat, e0, Nat.sub_zero, step n (min n (N - n)) (by omega) (by omega), w64_id (by omega) (by omega)]
   refine .inr ⟨_, ⟨n + min n (N - n), by rw [Int.natCast_add], by omega, by omega⟩, ?_, rfl⟩
   dsimp only; omega
  ·rw [decide_eq_false (by omega), cond_false]
   exact .inl ⟨_, rfl, by rw [show N - n = 0 by omega, show n = N by omega]; simp⟩
def GrS (l : List Def) (us : List (List Int)) : Prop := ∀ i, i < l.length → (us.getD i default).Pairwise fun (x y : Int) => ∀ k k' : Nat, x = (k : Int) → y = (k' : Int) → nameAt l k < nameAt l k'
theorem newGraph_gen {l : List Def} (hl : l.length ≤ 2500) (hd : Dis l) (hok : okD l) : ∃ us, s_define_newGraph l = some (l, us) ∧ Gr l.length (Uses l) us ∧ GrS l us := by
 obtain ⟨M, hM, hMs⟩ := graph_L1 (by omega) hd
 have hnm : ∀ i, i < l.length → s_define_Names (l.getD i default).Body = some (namesV (l.getD i default).Body) := fun i hi => by
  obtain ⟨h1, h2⟩ := hok _ (getD_mem hi)
  exact s_Names (by omega) h2
 have hnl : ∀ i, i < l.length → (namesV (l.getD i default).Body).length ≤ 1000000 := fun i hi => Nat.le_trans (len_namesV _) (hok _ (getD_mem hi)).1
 have key := for_all (L := s_define_newGraph_L2 l M) (s := (0, List.replicate l.length ([] : List Int)))
  (fun i q => q.1 = (i : Int) ∧ q.2.length = l.length ∧ ∀ k, k < l.length → q.2.getD k default = if k < i then rowOf M (namesV (l.getD k default).Body) else [])
  (fun us => us.length = l.length ∧ ∀ k, k < l.length → us.getD k default = rowOf M (namesV (l.getD k default).Body)) l.length (by omega)
  ⟨rfl, by simp, fun k hk => by rw [getD_rep hk]; simp⟩ (fun K i q h hi => .inr ?_) (fun K q h => ?_)
 ·obtain ⟨us, h1, h2, h3⟩ := key
  refine ⟨us, ?_, ⟨h2, fun i hi => ?_, fun i hi x => ?_, fun i k h => ⟨h.1, h.2.1⟩⟩, fun i hi => ?_⟩
  ·unfold s_define_newGraph
   rw [hM, Option.bind_some, grd_of ⟨by omega, by omega, by omega⟩, Option.bind_some, toNat_nat, h1, Option.bind_some]
  ·rw [h3 i hi]
   exact Nat.le_trans (List.length_filterMap_le _ _) (hnl i hi)
  ·rw [h3 i hi]
   unfold rowOf
   rw [List.mem_filterMap]
   constructor
   ·rintro ⟨s, hs, he⟩
    obtain ⟨j, hj, rfl, hn⟩ := (hMs s x).1 he
    exact ⟨j, rfl, hi, hj, by rw [hn]; exact mem_namesV.1 hs⟩
   ·rintro ⟨k, rfl, _, hk, hm⟩
    exact ⟨nameAt l k, mem_namesV.2 hm, (hMs _ _).2 ⟨k, hk, rfl, rfl⟩⟩
  ·rw [h3 i hi]
   unfold rowOf
   refine List.pairwise_filterMap.2 ((namesV_asc _).imp fun {s s'} hlt x hx y hy k k' e e' => ?_)
   obtain ⟨j, _, rfl, hn⟩ := (hMs s x).1 hx
   obtain ⟨j', _, rfl, hn'⟩ := (hMs s' y).1 hy
   obtain rfl : j = k := by omega
   obtain rfl : j' = k' := by omega
   rw [hn, hn']; exact hlt
 ·obtain ⟨a, us⟩ := q
  obtain ⟨e1, e2, e3⟩ := h
  dsimp only at e1 e2 e3; subst e1
  have hiu : i < us.length := by omega
  refine ⟨(((i + 1 : Nat) : Int), us.set i (rowOf M (namesV (l.getD i default).Body))), ⟨rfl, by dsimp only; rw [List.length_set]; exact e2, fun k hk => ?_⟩, ?_⟩
  ·dsimp only
   rw [getD_set hiu]
   by_cases hki : k = i
   ·subst hki; rw [if_pos rfl, if_pos (by omega)]
   ·rw [if_neg hki, e3 k hk]
    by_cases hlt : k < i
    ·rw [if_pos hlt, if_pos (by omega)]
    ·rw [if_neg hlt, if_neg (by omega)]
  ·rw [s_define_newGraph_L2, decide_eq_true (by dsimp only; omega), cond_true, idx_of hi, Option.bind_some, hnm i hi, Option.bind_some]
   dsimp only
   rw [graph_L3 (hnl i hi) hiu (by rw [e3 i hi, if_neg (by omega)]), Option.bind_some, w64_succ hi (by omega)]
 ·obtain ⟨a, us⟩ := q
  obtain ⟨e1, e2, e3⟩ := h
  dsimp only at e1 e2 e3; subst e1
  exact ⟨us, by rw [s_define_newGraph_L2, decide_eq_false (by simp), cond_false], e2, fun k hk => by rw [e3 k hk, if_pos hk]⟩
theorem distances_gen {l : List Def} {U : Nat → Nat → Prop} {us : List (List Int)} (hg : Gr l.length U us) (hN : l.length ≤ 2500) {t : Nat} (ht : t < l.length) :
  ∃ d : List Int, s_define_graph_distances l us (t : Int) = some (d, l, us) ∧ d.length = l.length ∧ Dist l.length U t (dv d) := by
 obtain ⟨d, h1, h2⟩ := dist_L1 hg (by omega) ht
 refine ⟨d, ?_, h2⟩
 unfold s_define_graph_distances
 rw [repeat_gen hN, Option.bind_some, grd_of ⟨by omega, by simpa using ht⟩, Option.bind_some, Option.bind_some, toNat_nat, h1, Option.bind_some]
def NextP (l : List Def) (U : Nat → Nat → Prop) (d : List Int) (a : Nat) (r : Int) : Prop := (r = -1 ∧ ∀ k, U a k → dv d k < 0) ∨ ∃ k : Nat, r = k ∧ U a k ∧ 0 ≤ dv d k ∧ ∀ k', U a k' → 0 ≤ dv d k' → dv d k < dv d k' ∨ (dv d k = dv d k' ∧ ¬ nameAt l k' < nameAt l k)
theorem next_gen {l : List Def} {U : Nat → Nat → Prop} {us : List (List Int)} (hg : Gr l.length U us) (hS : GrS l us) {d : List Int} (hd : d.length = l.length) {at_ : Nat} (ha : at_ < l.length) :
  ∃ r, s_define_graph_circle_L2 (d, l, us) (us.getD at_ default) KK (-1, 0) = some r ∧ NextP l U d at_ r := by
 have hf := hg.few at_ ha
 have hx : ∀ j, j < (us.getD at_ default).length → ∃ k : Nat, (us.getD at_ default).getD j default = k ∧ U at_ k ∧ k < l.length := fun j hj => by
  obtain ⟨k, e, hu⟩ := (hg.mem at_ ha _).1 (getD_mem hj)
  exact ⟨k, e, hu, (hg.dom _ _ hu).2⟩
 have hsort : ∀ j j', j < j' → j' < (us.getD at_ default).length → ∀ k k' : Nat, (us.getD at_ default).getD j default = k → (us.getD at_ default).getD j' default = k' → nameAt l k < nameAt l k' := fun j j' h1 h2 k k' e e' => by
  have := List.pairwise_iff_getElem.1 (hS at_ ha) j j' (by omega) h2 h1
  rw [getD_of (by omega)] at e
  rw [getD_of h2] at e'
  exact this k k' e e'
 have key := for_all (L := s_define_graph_circle_L2 (d, l, us) (us.getD at_ default)) (s := ((-1 : Int), (0 : Int)))
  (fun j q => q.2 = (j : Int) ∧ ((q.1 = -1 ∧ ∀ j', j' < j → ∀ k : Nat, (us.getD at_ default).getD j' default = k → dv d k < 0) ∨ ∃ (k jk : Nat), q.1 = k ∧ jk < j ∧ (us.getD at_ default).getD jk default = k ∧ U at_ k ∧ 0 ≤ dv d k ∧ ∀ j', j' < j → ∀ k' : Nat, (us.getD at_ default).getD j' default = k' → 0 ≤ dv d k' → dv d k < dv d k' ∨ (dv d k = dv d k' ∧ jk ≤ j')))
  (fun r => NextP l U d at_ r) (us.getD at_ default).length (by omega) ⟨rfl, .inl ⟨rfl, fun j hj => by omega⟩⟩ (fun K i q h hi => .inr ?_) (fun K q h => ?_)
 ·exact key
 ·obtain ⟨r, a⟩ := q
  obtain ⟨e1, h⟩ := h
  dsimp only at e1 h; subst e1
  obtain ⟨k, hk, hu, hkl⟩ := hx i hi
  have hkd : k < d.length := by omega
  rw [s_define_graph_circle_L2, decide_eq_true (by dsimp only; omega), cond_true, idx_of hi, Option.bind_some]
  dsimp only
  rw [hk, idx_of hkd, Option.bind_some, dv_def, w64_succ hi (by omega)]
  have ext : ∀ {P : Nat → Nat → Prop}, (∀ j', j' < i → ∀ k' : Nat, (us.getD at_ default).getD j' default = k' → P j' k') → P i k → ∀ j', j' < i + 1 → ∀ k' : Nat, (us.getD at_ default).getD j' default = k' → P j' k' := fun h1 h2 j' hj' k' e => by
   by_cases hji : j' = i
   ·subst hji
    obtain rfl : k = k' := by rw [hk] at e; omega
    exact h2
   ·exact h1 j' (by omega) k' e
  by_cases h0 : 0 ≤ dv d k
  ·rw [decide_eq_true (show dv d k ≥ 0 from h0), cond_true]
   rcases h with ⟨rfl, h⟩ | ⟨k0, j0, rfl, hj0, hg0, hu0, hk0, h⟩
   ·rw [decide_eq_true (by omega), cond_true, Option.bind_some, cond_true, Option.bind_some]
    refine ⟨_, ⟨rfl, .inr ⟨k, i, rfl, by omega, hk, hu, h0, ?_⟩⟩, rfl⟩
    exact ext (P := fun j' k' => 0 ≤ dv d k' → dv d k < dv d k' ∨ (dv d k = dv d k' ∧ i ≤ j')) (fun j' hj' k' e h3 => by have := h j' hj' k' e; omega) fun _ => .inr ⟨rfl, Nat.le_refl _⟩
   ·rw [decide_eq_false (by omega), cond_false, Option.bind_some, idx_of (i := k0) (by have := (hg.dom _ _ hu0).2; omega), Option.bind_some, dv_def, Option.bind_some]
    by_cases hlt : dv d k < dv d k0
    ·rw [decide_eq_true hlt, cond_true, Option.bind_some]
     refine ⟨_, ⟨rfl, .inr ⟨k, i, rfl, by omega, hk, hu, h0, ?_⟩⟩, rfl⟩
     exact ext (P := fun j' k' => 0 ≤ dv d k' → dv d k < dv d k' ∨ (dv d k = dv d k' ∧ i ≤ j')) (fun j' hj' k' e h3 => by have := h j' hj' k' e h3; omega) fun _ => .inr ⟨rfl, Nat.le_refl _⟩
    ·rw [decide_eq_false hlt, cond_false, Option.bind_some]
     refine ⟨_, ⟨rfl, .inr ⟨k0, j0, rfl, by omega, hg0, hu0, hk0, ?_⟩⟩, rfl⟩
     exact ext (P := fun j' k' => 0 ≤ dv d k' → dv d k0 < dv d k' ∨ (dv d k0 = dv d k' ∧ j0 ≤ j')) h fun _ => by omega
  ·rw [decide_eq_false (show ¬ dv d k ≥ 0 from h0), cond_false, Option.bind_some, cond_false, Option.bind_some]
   rcases h with ⟨rfl, h⟩ | ⟨k0, j0, rfl, hj0, hg0, hu0, hk0, h⟩
   ·exact ⟨_, ⟨rfl, .inl ⟨rfl, ext (P := fun _ k => dv d k < 0) h (by omega)⟩⟩, rfl⟩
   ·refine ⟨_, ⟨rfl, .inr ⟨k0, j0, rfl, by omega, hg0, hu0, hk0, ?_⟩⟩, rfl⟩
    exact ext (P := fun j' k' => 0 ≤ dv d k' → dv d k0 < dv d k' ∨ (dv d k0 = dv d k' ∧ j0 ≤ j')) h fun h3 => absurd h3 h0
 ·obtain ⟨r, a⟩ := q
  obtain ⟨e1, h⟩ := h
  dsimp only at e1 h; subst e1
  refine ⟨r, by rw [s_define_graph_circle_L2, decide_eq_false (by simp), cond_false], ?_⟩
  have fnd : ∀ k, U at_ k → ∃ j, j < (us.getD at_ default).length ∧ (us.getD at_ default).getD j default = (k : Int) := fun k hu => by
   obtain ⟨j, hj, e⟩ := mem_getD ((hg.mem at_ ha _).2 ⟨k, rfl, hu⟩)
   exact ⟨j, hj, e.symm⟩
  rcases h with ⟨rfl, h⟩ | ⟨k0, j0, rfl, hj0, hg0, hu0, hk0, h⟩
  ·exact .inl ⟨rfl, fun k hu => by obtain ⟨j, hj, e⟩ := fnd k hu; exact h j hj k e⟩
  ·refine .inr ⟨k0, rfl, hu0, hk0, fun k hu h3 => ?_⟩
   obtain ⟨j, hj, e⟩ := fnd k hu
   rcases h j hj k e h3 with h4 | ⟨h4, h5⟩
   ·exact .inl h4
   ·refine .inr ⟨h4, fun hlt => ?_⟩
    rcases Nat.lt_or_eq_of_le h5 with h6 | h6
    ·exact nm_asymm hlt (hsort j0 j h6 hj k0 k hg0 e)
    ·subst h6
     rw [hg0] at e
     obtain rfl : k0 = k := by omega
     exact nm_irrefl _ hlt
theorem circle_gen {l : List Def} {U : Nat → Nat → Prop} {us : List (List Int)} (hg : Gr l.length U us) (hS : GrS l us) (hN : l.length ≤ 2500) {t : Nat} (ht : t < l.length) :
  ∃ c, s_define_graph_circle l us (t : Int) = some (c, l, us) ∧ c.length ≤ 5001 ∧ ((c = [] ∧ ¬ Cyc U t) ∨ ∃ (d : Nat → Int) (w : List Nat), Dist l.length U t d ∧ Gre U (nameAt l) d t t w ∧ c = cnm (nameAt l) t w) := by
 obtain ⟨d, h1, hdl, hD⟩ := distances_gen hg hN ht
 have hcyc := hD.cyc hg.dom
 have key := loop_inv (L := s_define_graph_circle_L1 (t : Int) (d, l, us))
  (fun q => ∃ a : Nat, q.1 = a ∧ a < l.length ∧ ((a = t ∧ q.2 = []) ∨ (Cyc U t ∧ q.2 ≠ [] ∧ 0 < dv d a ∧ dv d a + q.2.length ≤ l.length)) ∧
   ∃ pre : List Nat, q.2 ++ [nameAt l a] = cnm (nameAt l) t pre ∧ ∀ w, Gre U (nameAt l) (dv d) t a w → Gre U (nameAt l) (dv d) t t (pre ++ w))
  (fun q => l.length + 1 - q.2.length) (fun r => ∃ c, r = .inl (c, l, us) ∧ c.length ≤ 5001 ∧ ((c = [] ∧ ¬ Cyc U t) ∨ ∃ w, Gre U (nameAt l) (dv d) t t w ∧ c = cnm (nameAt l) t w)) (fun K q h => ?_) (l.length + 1) KK ((t : Int), []) ⟨t, rfl, ht, .inl ⟨rfl, rfl⟩, [], rfl, fun w h => h⟩ (by simp) (by have := KK_big; omega)
 ·obtain ⟨r, h2, c, rfl, h3, h4⟩ := key
  refine ⟨c, ?_, h3, h4.imp_right fun ⟨w, h5, h6⟩ => ⟨_, w, hD, h5, h6⟩⟩
  unfold s_define_graph_circle
  rw [h1, Option.bind_some, h2]; rfl
 ·obtain ⟨a', out⟩ := q
  obtain ⟨a, e1, ha, h, pre, hpre, hG⟩ := h
  dsimp only at e1 h hpre hG; subst e1
  have hol : out.length ≤ l.length := by
   rcases h with ⟨_, rfl⟩ | ⟨_, _, h3, h4⟩
   ·simp
   ·omega
  obtain ⟨r, hr, hrs⟩ := next_gen hg hS hdl ha
  have hau : a < us.length := by rw [hg.len]; exact ha
  rw [s_define_graph_circle_L1]
  dsimp only
  rw [idx_of ha, Option.bind_some, grd_of (by rw [List.length_append, List.length_singleton]; omega), Option.bind_some, idx_of hau, Option.bind_some, hr, Option.bind_some]
  rcases hrs with ⟨rfl, hno⟩ | ⟨k, rfl, hu, hk0, hmin⟩
  ·rw [decide_eq_true (by omega), cond_true]
   refine .inl ⟨_, rfl, [], rfl, by simp, .inl ⟨rfl, fun hc => ?_⟩⟩
   rcases h with ⟨rfl, _⟩ | ⟨_, _, h3, h4⟩
   ·obtain ⟨k, hu, hk⟩ := hcyc.1 hc
    have := hno k hu; omega
   ·have hat : a ≠ t := fun e => by rw [e, hD.zero] at h3; omega
    obtain ⟨j, hj, hu, hj0, _⟩ := hD.back a ha hat (by omega)
    have := hno j hu; omega
  ·have hkN := (hg.dom _ _ hu).2
   have hc : Cyc U t := by
    rcases h with ⟨rfl, _⟩ | ⟨h, _⟩
    ·exact hcyc.2 ⟨k, hu, hk0⟩
    ·exact h
   rw [decide_eq_false (by omega), cond_false]
   by_cases hkt : k = t
   ·subst hkt
    rw [decide_eq_true rfl, cond_true, grd_of (by cases out <;> rfl), Option.bind_some]
    exact .inl ⟨_, rfl, _, rfl, by rw [List.length_append, List.length_singleton]; omega, .inr ⟨pre ++ [], hG [] (.stop hu), by rw [List.append_nil]; exact hpre⟩⟩
   ·rw [decide_eq_false (by omega), cond_false]
    have hkp : 0 < dv d k := by
     rcases Int.lt_or_eq_of_le hk0 with h | h
     ·exact h
     ·exact absurd (hD.only k hkN h.symm) hkt
    have hks := hD.small k hkN
    refine .inr ⟨((k : Int), out ++ [(l.getD a default).Name]), ⟨k, rfl, hkN, .inr ⟨hc, by simp, hkp, ?_⟩, pre ++ [k], ?_, fun w hw => ?_⟩, by dsimp only; rw [List.length_append, List.length_singleton]; omega, rfl⟩
    ·dsimp only
     rw [List.length_append, List.length_singleton]
     rcases h with ⟨rfl, rfl⟩ | ⟨_, _, h3, h4⟩
     ·simp only [List.length_nil]; omega
     ·have hat : a ≠ t := fun e => by rw [e, hD.zero] at h3; omega
      obtain ⟨j, hj, hu', hj0, hj1⟩ := hD.back a ha hat (by omega)
      have := hmin j hu' hj0; omega
    ·dsimp only
     rw [hpre]; simp [cnm]
    ·rw [List.append_assoc]
     exact hG _ (.step hu hkt hk0 hmin hw)
theorem cmp_is (x y : List UInt8) : ∃ r, s_cmp_Compare x y = some r ∧ (r = 0 ↔ x = y) ∧ (r < 0 ↔ x < y) := by
 have h : ∀ z : List UInt8, s_cmp_isNaN z = some false := fun z => by unfold s_cmp_isNaN; rw [decide_eq_true rfl]; rfl
 unfold s_cmp_Compare
 rw [h, h, Option.bind_some, Option.bind_some, cond_false, cond_false, bytesLess_eq]
 by_cases hlt : x < y
 ·rw [decide_eq_true hlt]
  exact ⟨_, rfl, ⟨fun h => by omega, fun h => by subst h; exact absurd hlt (nm_irrefl _)⟩, fun _ => hlt, fun _ => by omega⟩
 ·rw [decide_eq_false hlt]
  by_cases he : x = y
  ·rw [decide_eq_true he]
   exact ⟨_, rfl, ⟨fun _ => he, fun _ => rfl⟩, fun h => by omega, fun h => absurd h hlt⟩
  ·rw [decide_eq_false he]
   exact ⟨_, rfl, ⟨fun h => by omega, fun h => absurd h he⟩, fun h => by omega, fun h => absurd h hlt⟩
theorem compare_is {s1 s2 : List (List UInt8)} (hs : s1.length < 2 ^ 62) (hl : s1.length = s2.length) : ∃ r, s_slices_Compare s1 s2 = some r ∧ (r < 0 ↔ ¬ lexle s2 s1) := by
 have hsnoc : ∀ (i : Nat), i < s1.length → s1.drop i = s1.getD i default :: s1.drop (i + 1) ∧ s2.drop i = s2.getD i default :: s2.drop (i + 1) := fun i hi => ⟨drop_cons hi, drop_cons (by omega)⟩
 have key := for_all (L := s_slices_Compare_L1 s1 s2) (s := (0 : Int)) (fun i a => a = (i : Int) ∧ (lexle s2 s1 ↔ lexle (s2.drop i) (s1.drop i))) (fun t => match t with | .inl r => r < 0 ↔ ¬ lexle s2 s1 | .inr _ => lexle s2 s1) s1.length (by omega) ⟨rfl, by simp⟩ (fun K i a h hi => ?_) (fun K a h => ?_)
 ·obtain ⟨t, h1, h2⟩ := key
  unfold s_slices_Compare
  rw [h1, Option.bind_some]
  cases t with
  | inl r => exact ⟨_, rfl, h2⟩
  | inr u =>
   dsimp only at h2 ⊢
   rw [decide_eq_false (by omega), cond_false]
   exact ⟨0, rfl, fun h => by omega, fun h => absurd h2 h⟩
 ·obtain ⟨rfl, h⟩ := h
  obtain ⟨r, hr, hr0, hr1⟩ := cmp_is (s1.getD i default) (s2.getD i default)
  obtain ⟨d1, d2⟩ := hsnoc i hi
  rw [s_slices_Compare_L1, decide_eq_true (by omega), cond_true, idx_of hi, Option.bind_some, w64_succ hi (by omega), decide_eq_false (by omega), cond_false, idx_of (by omega), Option.bind_some, hr, Option.bind_some]
  rw [d1, d2] at h
  by_cases h0 : r = 0
  ·rw [decide_eq_true h0, Bool.not_true, cond_false]
   refine .inr ⟨_, ⟨rfl, ?_⟩, rfl⟩
   rw [h]
   have e := hr0.1 h0
   constructor
   ·rintro (h | ⟨_, h⟩)
    ·rw [e] at h; exact absurd h (nm_irrefl _)
    ·exact h
   ·exact fun h => .inr ⟨e.symm, h⟩
  ·rw [decide_eq_false h0, Bool.not_false, cond_true]
   refine .inl ⟨_, rfl, ?_⟩
   dsimp only
   rw [hr1, h]
   have e : s1.getD i default ≠ s2.getD i default := fun e => h0 (hr0.2 e)
   constructor
   ·rintro h1 (h | ⟨h, _⟩)
    ·exact nm_asymm h1 h
    ·exact e h.symm
   ·intro h1
    rcases nm_le_of (a := s1.getD i default) (b := s2.getD i default) (fun h2 => h1 (.inl h2)) with h3 | h3
    ·exact h3
    ·exact absurd h3 e
 ·obtain ⟨rfl, h⟩ := h
  rw [s_slices_Compare_L1, decide_eq_false (by omega), cond_false]
  refine ⟨_, rfl, ?_⟩
  dsimp only
  rw [h, List.drop_of_length_le (by omega), List.drop_of_length_le (by omega)]
  trivial
def MinC (l : List Def) (U : Nat → Nat → Prop) (n : Nat) (b : List (List UInt8)) : Prop :=
 (b = [] ∧ ∀ j, j < n → ¬ Cyc U j) ∨ (b ≠ [] ∧ (∃ i w, i < n ∧ Wk U i i w ∧ b = cnm (nameAt l) i w) ∧ ∀ j w, j < n → Wk U j j w → Bet b (cnm (nameAt l) j w))
theorem smallest_gen {l : List Def} {U : Nat → Nat → Prop} {us : List (List Int)} (hg : Gr l.length U us) (hS : GrS l us) (hd : Dis l) (hN : l.length ≤ 2500) :
  ∃ c, s_define_graph_smallest l us = some (c, l, us) ∧ c.length ≤ 5001 ∧ ((c = [] ∧ ∀ i, i < l.length → ¬ Cyc U i) ∨ (c ≠ [] ∧ SmallC U (nameAt l) c)) := by
 have key := for_all (L := s_define_graph_smallest_L1 l) (s := (([] : List (List UInt8)), (0 : Int), l, us))
  (fun i q => q.2.1 = (i : Int) ∧ q.2.2.1 = l ∧ q.2.2.2 = us ∧ MinC l U i q.1 ∧ q.1.length ≤ 5001)
  (fun r => ∃ c, r = (c, l, us) ∧ c.length ≤ 5001 ∧ MinC l U l.length c) l.length (by omega) ⟨rfl, rfl, rfl, .inl ⟨rfl, fun j hj => by omega⟩, by simp⟩ (fun K i q h hi => .inr ?_) (fun K q h => ?_)
 ·obtain ⟨r, h1, c, rfl, hcl, h2⟩ := key
  refine ⟨c, ?_, hcl, h2.imp_right fun ⟨h3, ⟨i, w, h4, h5, h6⟩, h7⟩ => ⟨h3, ⟨i, w, h5, h6⟩, fun j w hw => h7 j w ?_ hw⟩⟩
  ·unfold s_define_graph_smallest
   rw [h1, Option.bind_some]
  ·cases w with
   | nil => exact (hg.dom _ _ hw).1
   | cons => exact (hg.dom _ _ hw.1).1
 ·obtain ⟨b, a, l', us'⟩ := q
  obtain ⟨e1, e2, e3, h, hb⟩ := h
  dsimp only at e1 e2 e3 h hb; subst e1 e2 e3
  obtain ⟨c, hc, hcl, hcs⟩ := circle_gen hg hS hN hi
  rw [s_define_graph_smallest_L1, decide_eq_true (by dsimp only; omega), cond_true]
  dsimp only
  rw [hc, Option.bind_some]
  dsimp only
  have fin : ∀ x : List (List UInt8), MinC l' U (i + 1) x → x.length ≤ 5001 → (((i + 1 : Nat) : Int) = ((i + 1 : Nat) : Int) ∧ l' = l' ∧ us' = us' ∧ MinC l' U (i + 1) x ∧ x.length ≤ 5001) := fun x hx hl => ⟨rfl, rfl, rfl, hx, hl⟩
  rcases hcs with ⟨rfl, hno⟩ | ⟨d, w, hD, hG, rfl⟩
  ·rw [List.isEmpty_nil, cond_true, Option.bind_some, w64_succ hi (by omega)]
   refine ⟨(b, ((i + 1 : Nat) : Int), l', us'), fin b ?_ hb, rfl⟩
   rcases h with ⟨h1, h2⟩ | ⟨h1, ⟨j, w, h2, h3⟩, h4⟩
   ·refine .inl ⟨h1, fun j hj => ?_⟩
    by_cases e : j = i
    ·subst e; exact hno
    ·exact h2 j (by omega)
   ·refine .inr ⟨h1, ⟨j, w, by omega, h3⟩, fun j w hj hw => ?_⟩
    by_cases e : j = i
    ·subst e; exact absurd (cyc_wk.2 ⟨w, hw⟩) hno
    ·exact h4 j w (by omega) hw
  ·obtain ⟨hw, hbest⟩ := hG.best hD hg.dom hd
   have hne : cnm (nameAt l') i w ≠ [] := by simp [cnm]
   have hmine : ∀ w', Wk U i i w' → Bet (cnm (nameAt l') i w) (cnm (nameAt l') i w') := fun w' hw' => by
    rcases hbest w' hw' with h1 | ⟨h1, h2⟩
    ·exact .inl (by rw [cnm_len, cnm_len]; omega)
    ·exact .inr ⟨by rw [cnm_len, cnm_len]; omega, .inr ⟨rfl, h2⟩⟩
   have take : (∀ j w', j < i → Wk U j j w' → Bet (cnm (nameAt l') i w) (cnm (nameAt l') j w')) → MinC l' U (i + 1) (cnm (nameAt l') i w) := fun h1 => .inr ⟨hne, ⟨i, w, by omega, hw, rfl⟩, fun j w' hj hw' => by
    by_cases e : j = i
    ·subst e; exact hmine w' hw'
    ·exact h1 j w' (by omega) hw'⟩
   have hce : List.isEmpty (cnm (nameAt l') i w) = false := rfl
   rw [hce, cond_false]
   rcases h with ⟨rfl, h2⟩ | ⟨h1, ⟨j0, w0, h2, h3, h4⟩, h5⟩
   ·rw [List.isEmpty_nil, cond_true, Option.bind_some]
    dsimp only
    rw [cond_true, Option.bind_some, Option.bind_some, w64_succ hi (by omega)]
    exact ⟨(_, ((i + 1 : Nat) : Int), l', us'), fin _ (take fun j w' hj hw' => absurd (cyc_wk.2 ⟨w', hw'⟩) (h2 j hj)) hcl, rfl⟩
   ·have hbe : List.isEmpty b = false := by cases b with | nil => exact absurd rfl h1 | cons => rfl
    have keep : Bet b (cnm (nameAt l') i w) → MinC l' U (i + 1) b := fun hB => .inr ⟨h1, ⟨j0, w0, by omega, h3, h4⟩, fun j w' hj hw' => by
     by_cases e : j = i
     ·subst e; exact hB.trans (hmine w' hw')
     ·exact h5 j w' (by omega) hw'⟩
    have less : Bet (cnm (nameAt l') i w) b → MinC l' U (i + 1) (cnm (nameAt l') i w) := fun hB => take fun j w' hj hw' => hB.trans (h5 j w' hj hw')
    rw [hbe, cond_false]
    by_cases l1 : (cnm (nameAt l') i w).length < b.length
    ·rw [decide_eq_true (by omega), cond_true, Option.bind_some]
     dsimp only
     rw [cond_true, Option.bind_some, Option.bind_some, w64_succ hi (by omega)]
     exact ⟨(_, ((i + 1 : Nat) : Int), l', us'), fin _ (less (.inl l1)) hcl, rfl⟩
    ·rw [decide_eq_false (by omega), cond_false]
     by_cases l2 : (cnm (nameAt l') i w).length = b.length
     ·obtain ⟨z, hz, hzs⟩ := compare_is (s1 := cnm (nameAt l') i w) (s2 := b) (by omega) l2
      rw [decide_eq_true (by omega), cond_true, hz, Option.bind_some, Option.bind_some]
      dsimp only
      by_cases hz0 : z < 0
      ·rw [decide_eq_true hz0, cond_true, Option.bind_some, Option.bind_some, w64_succ hi (by omega)]
       refine ⟨(_, ((i + 1 : Nat) : Int), l', us'), fin _ (less (.inr ⟨l2, ?_⟩)) hcl, rfl⟩
       rcases lexle_total (cnm (nameAt l') i w) b with h | h
       ·exact h
       ·exact absurd h (hzs.1 hz0)
      ·rw [decide_eq_false hz0, cond_false, Option.bind_some, Option.bind_some, w64_succ hi (by omega)]
       refine ⟨(b, ((i + 1 : Nat) : Int), l', us'), fin _ (keep (.inr ⟨l2.symm, Classical.byContradiction fun h => hz0 (hzs.2 h)⟩)) hb, rfl⟩
     ·rw [decide_eq_false (by omega), cond_false, Option.bind_some]
      dsimp only
      rw [cond_false, Option.bind_some, Option.bind_some, w64_succ hi (by omega)]
      exact ⟨(b, ((i + 1 : Nat) : Int), l', us'), fin _ (keep (.inl (by omega))) hb, rfl⟩
 ·obtain ⟨b, a, l', us'⟩ := q
  obtain ⟨e1, e2, e3, h, hb⟩ := h
  dsimp only at e1 e2 e3 h hb; subst e1 e2 e3
  exact ⟨_, by rw [s_define_graph_smallest_L1, decide_eq_false (by simp), cond_false], b, rfl, hb, h⟩
end Go.Proofs.Ytconjkgifdfhdaa
