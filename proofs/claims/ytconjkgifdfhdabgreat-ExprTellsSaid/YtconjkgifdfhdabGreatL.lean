/- The reference of define: names, what uses what. -/
import Derived.Test.YtconjkgifdfhdabGreatK
set_option linter.all false
set_option maxRecDepth 100000
namespace Go.Proofs.YtconjkgifdfhdabGreat
open Go Go.RowKit Go.Eng Go.EV Go.Grf
theorem toNat_nat' (n : Nat) : Int.toNat (n : Int) = n := by simp
theorem cut_of {α : Type} {l : List α} {a b : Nat} (h1 : a ≤ b) (h2 : b ≤ l.length) : cut l (a : Int) (b : Int) = some ((l.drop a).take (b - a)) := by
 unfold cut
 rw [if_pos ⟨by omega, by omega, by omega⟩, toNat_nat', toNat_nat', List.drop_take]
variable [Fuel]
theorem has_is {l : List (List UInt8)} {s : List UInt8} (hl : l.length < 2 ^ 62) : s_gr16_Has l s = some (decide (s ∈ l)) := by
 have key := for_all (L := s_gr16_Has_L1 l s) (s := (0 : Int)) (fun i a => a = (i : Int) ∧ ∀ j, j < i → l.getD j default ≠ s)
  (fun t => match t with | .inl r => r = true ∧ s ∈ l | .inr _ => s ∉ l) l.length (by omega) ⟨rfl, fun j hj => by omega⟩ (fun K i a h hi => ?_) (fun K a h => ?_)
 ·obtain ⟨t, h1, h2⟩ := key
  unfold s_gr16_Has
  rw [h1, oB]
  cases t with
  | inl r => dsimp only at h2 ⊢; rw [h2.1, dT h2.2]
  | inr u => dsimp only at h2 ⊢; rw [dF h2]
 ·obtain ⟨rfl, h⟩ := h
  rw [s_gr16_Has_L1, dT (by omega), cT, idx_of hi, oB, w64_succ hi (by omega)]
  by_cases e : l.getD i default = s
  ·rw [dT e, cT]
   refine .inl ⟨.inl true, rfl, ?_⟩
   dsimp only
   exact ⟨rfl, by rw [← e]; exact getD_mem hi⟩
  ·rw [dF e, cF]
   refine .inr ⟨_, ⟨rfl, fun j hj => ?_⟩, rfl⟩
   by_cases hji : j = i
   ·subst hji; exact e
   ·exact h j (by omega)
 ·obtain ⟨rfl, h⟩ := h
  refine ⟨.inr (), by rw [s_gr16_Has_L1, dF (by omega), cF], ?_⟩
  dsimp only
  exact fun hm => by obtain ⟨j, hj, e⟩ := mem_getD hm; exact h j hj e.symm
theorem with_is {l : List (List UInt8)} {s : List UInt8} (hl : l.length ≤ 1000000) : ∃ r, s_gr16_With l s = some r ∧ (∀ x, x ∈ r ↔ x ∈ l ∨ x = s) ∧ r.length ≤ l.length + 1 := by
 unfold s_gr16_With
 rw [has_is (by omega), oB]
 by_cases hm : s ∈ l
 ·rw [dT hm, cT]
  exact ⟨l, rfl, fun x => ⟨.inl, fun h => h.elim id fun e => e ▸ hm⟩, by omega⟩
 ·rw [dF hm, cF]
  have key := for_all (L := s_gr16_With_L1 l s) (s := (0 : Int)) (fun i a => a = (i : Int) ∧ i ≤ l.length) (fun t => ∃ k : Nat, t = k ∧ k ≤ l.length) l.length (by omega) ⟨rfl, by omega⟩ (fun K i a h hi => ?_) (fun K a h => ?_)
  ·obtain ⟨t, h1, k, rfl, hk⟩ := key
   rw [h1, oB, show (0 : Int) = ((0 : Nat) : Int) from rfl, cut_of (by omega) hk, oB, Nat.sub_zero, List.drop_zero]
   have h2 : (l.take k).length ≤ 1000000 := by rw [List.length_take]; omega
   rw [grd_of (by omega), oB, grd_of (by rw [List.length_append, List.length_singleton]; omega), oB, cut_of hk (Nat.le_refl _), oB]
   have h3 : (l.drop k).take (l.length - k) = l.drop k := List.take_of_length_le (by rw [List.length_drop]; omega)
   rw [h3, grd_of (by simp only [List.length_append, List.length_singleton, List.length_take, List.length_drop]; omega), oB]
   refine ⟨_, rfl, fun x => ?_, by simp only [List.length_append, List.length_singleton, List.length_take, List.length_drop]; omega⟩
   have h4 : x ∈ l ↔ x ∈ l.take k ∨ x ∈ l.drop k := by rw [← List.mem_append, List.take_append_drop]
   rw [List.mem_append, List.mem_append, List.mem_singleton, h4]
   constructor
   ·rintro ((h | h) | h)
    ·exact .inl (.inl h)
    ·exact .inr h
    ·exact .inl (.inr h)
   ·rintro ((h | h) | h)
    ·exact .inl (.inl h)
    ·exact .inr h
    ·exact .inl (.inr h)
  ·obtain ⟨rfl, h⟩ := h
   rw [s_gr16_With_L1, dT (by omega), cT, idx_of hi, oB, oB, w64_succ hi (by omega)]
   cases Op.bytesLess (l.getD i default) s with
   | true => rw [cT]; exact .inr ⟨_, ⟨rfl, by omega⟩, rfl⟩
   | false => rw [cF]; exact .inl ⟨_, rfl, i, rfl, h⟩
  ·obtain ⟨rfl, h⟩ := h
   rw [s_gr16_With_L1, dF (by omega), cF, oB, cF]
   exact ⟨_, rfl, _, rfl, h⟩
theorem refnames_L2 {y : List (List UInt8)} {l : List (List UInt8)} (h : l.length + y.length ≤ 1000000) : ∃ r, s_gr16_Names_L2 y KK (l, 0) = some r ∧ (∀ x, x ∈ r ↔ x ∈ l ∨ x ∈ y) ∧ r.length ≤ l.length + y.length := by
 have key := for_all (L := s_gr16_Names_L2 y) (s := (l, (0 : Int))) (fun i q => q.2 = (i : Int) ∧ (∀ x, x ∈ q.1 ↔ x ∈ l ∨ x ∈ y.take i) ∧ q.1.length ≤ l.length + i)
  (fun r => (∀ x, x ∈ r ↔ x ∈ l ∨ x ∈ y) ∧ r.length ≤ l.length + y.length) y.length (by omega) ⟨rfl, fun x => by simp, by simp⟩ (fun K i q h hi => .inr ?_) (fun K q h => ?_)
 ·exact key
 ·obtain ⟨m, a⟩ := q
  obtain ⟨e1, h2, h3⟩ := h
  dsimp only at e1 h2 h3; subst e1
  obtain ⟨r, hr, hrm, hrl⟩ := with_is (l := m) (s := y.getD i default) (by omega)
  rw [s_gr16_Names_L2, dT (by dsimp only; omega), cT, idx_of hi, oB]
  dsimp only
  rw [hr, oB, w64_succ hi (by omega)]
  refine ⟨(r, ((i + 1 : Nat) : Int)), ⟨rfl, fun x => ?_, by dsimp only; omega⟩, rfl⟩
  dsimp only
  rw [hrm, h2, show y.take (i + 1) = y.take i ++ [y.getD i default] by rw [getD_of hi, List.take_append_getElem], List.mem_append, List.mem_singleton, or_assoc]
 ·obtain ⟨m, a⟩ := q
  obtain ⟨e1, h2, h3⟩ := h
  dsimp only at e1 h2 h3; subst e1
  rw [List.take_length] at h2
  exact ⟨m, by rw [s_gr16_Names_L2, dF (by simp), cF], h2, h3⟩
theorem mem_namesLs {x : List UInt8} : ∀ {l : List Expr}, x ∈ namesLs l ↔ ∃ a ∈ l, x ∈ namesL a
 | [] => by simp [namesLs]
 | y :: l => by rw [namesLs, List.mem_append, mem_namesLs]; simp
theorem refnames_is : ∀ (n : Nat) (e : Expr) (K : Nat), lvl n e → cnt e ≤ 1000 → n < K → ∃ r, s_gr16_Names K e = some r ∧ (∀ x, x ∈ r ↔ x ∈ namesL e) ∧ r.length ≤ cnt e
 | 0, e, K, h, _, _ => h.elim
 | n + 1, e, K, h, hc, hK => by
  obtain ⟨K, rfl⟩ : ∃ K', K = K' + 1 := ⟨K - 1, by omega⟩
  rw [s_gr16_Names]
  have hce := cnt_eq e
  have hal := len_cnts e.Args
  have h1 : ∃ v, ((bif (decide (e.Op = 1)) then (s_gr16_With [] e.S).bind fun y1 => some y1 else some [])) = some v ∧ (∀ x, x ∈ v ↔ x ∈ (if e.Op = 1 then [e.S] else [])) ∧ v.length ≤ 1 := by
   by_cases ho : e.Op = 1
   ·obtain ⟨r, hr, hrm, hrl⟩ := with_is (l := []) (s := e.S) (by simp)
    rw [dT ho, cT, hr, oB, if_pos ho]
    exact ⟨r, rfl, fun x => by rw [hrm]; simp, by simpa using hrl⟩
   ·rw [dF ho, cF, if_neg ho]
    exact ⟨[], rfl, fun x => Iff.rfl, by simp⟩
  obtain ⟨v, hv, hvm, hvl⟩ := h1
  rw [hv, oB]
  have key := for_all (L := s_gr16_Names_L1 (s_gr16_Names K) e) (s := (v, (0 : Int))) (fun i q => q.2 = (i : Int) ∧ (∀ x, x ∈ q.1 ↔ x ∈ (if e.Op = 1 then [e.S] else []) ∨ ∃ a ∈ e.Args.take i, x ∈ namesL a) ∧ q.1.length ≤ 1 + cnts (e.Args.take i))
   (fun r => (∀ x, x ∈ r ↔ x ∈ namesL e) ∧ r.length ≤ cnt e) e.Args.length (by omega) ⟨rfl, fun x => by dsimp only; rw [hvm]; simp, by dsimp only; simp [cnts]; omega⟩ (fun K' i q h' hi => .inr ?_) (fun K' q h' => ?_)
  ·obtain ⟨r, h2, h3⟩ := key
   rw [h2, oB]
   exact ⟨r, rfl, h3⟩
  ·obtain ⟨m, a⟩ := q
   obtain ⟨e1, h2, h3⟩ := h'
   dsimp only at e1 h2 h3; subst e1
   have hx := getD_mem hi
   have hxc := mem_cnts hx
   have ht : e.Args.take (i + 1) = e.Args.take i ++ [e.Args.getD i default] := by rw [getD_of hi, List.take_append_getElem]
   have hsum : cnts e.Args = cnts (e.Args.take (i + 1)) + cnts (e.Args.drop (i + 1)) := by rw [← cnts_app, List.take_append_drop]
   rw [ht, cnts_app, cnts, cnts] at hsum
   obtain ⟨y, hy, hym, hyl⟩ := refnames_is n (e.Args.getD i default) K (h _ hx) (by omega) (by omega)
   obtain ⟨r, hr, hrm, hrl⟩ := refnames_L2 (y := y) (l := m) (by omega)
   rw [s_gr16_Names_L1, dT (by dsimp only; omega), cT, idx_of hi, oB, hy, oB]
   dsimp only
   rw [hr, oB, w64_succ hi (by omega)]
   refine ⟨(r, ((i + 1 : Nat) : Int)), ⟨rfl, fun x => ?_, ?_⟩, rfl⟩
   ·dsimp only
    rw [hrm, h2, hym, ht, or_assoc]
    simp only [List.mem_append, List.mem_singleton]
    constructor
    ·rintro (h | ⟨a, ha, h⟩ | h)
     ·exact .inl h
     ·exact .inr ⟨a, .inl ha, h⟩
     ·exact .inr ⟨_, .inr rfl, h⟩
    ·rintro (h | ⟨a, ha | rfl, h⟩)
     ·exact .inl h
     ·exact .inr (.inl ⟨a, ha, h⟩)
     ·exact .inr (.inr h)
   ·dsimp only
    rw [ht, cnts_app, cnts, cnts]; omega
  ·obtain ⟨m, a⟩ := q
   obtain ⟨e1, h2, h3⟩ := h'
   dsimp only at e1 h2 h3; subst e1
   rw [List.take_length] at h2 h3
   refine ⟨m, by rw [s_gr16_Names_L1, dF (by simp), cF], fun x => ?_, by omega⟩
   rw [h2, namesL_eq, List.mem_append, mem_namesLs]
theorem twice_is {p : Plan} (hN : p.Defs.length ≤ 1000) : ∃ b, s_gr16_twice p = some b ∧ (b = false ↔ Proper p.Defs) := by
 have inner : ∀ i, i < p.Defs.length → ∃ t, s_gr16_twice_L2 p (i : Int) KK 0 = some t ∧ (match t with | .inl r => r = true ∧ ∃ j, j < i ∧ nameAt p.Defs j = nameAt p.Defs i | .inr _ => ∀ j, j < i → nameAt p.Defs j ≠ nameAt p.Defs i) := fun i hi => by
  refine for_all (L := s_gr16_twice_L2 p (i : Int)) (s := (0 : Int)) (fun j a => a = (j : Int) ∧ ∀ j', j' < j → nameAt p.Defs j' ≠ nameAt p.Defs i) (fun t => match t with | .inl r => r = true ∧ ∃ j, j < i ∧ nameAt p.Defs j = nameAt p.Defs i | .inr _ => ∀ j, j < i → nameAt p.Defs j ≠ nameAt p.Defs i) i (by omega) ⟨rfl, fun j hj => by omega⟩ (fun K j a h hj => ?_) (fun K a h => ?_)
  ·obtain ⟨rfl, h⟩ := h
   have hjl : j < p.Defs.length := by omega
   rw [s_gr16_twice_L2, dT (by omega), cT, idx_of hjl, oB, idx_of hi, oB, w64_succ hjl (by omega)]
   by_cases e : (p.Defs.getD j default).Name = (p.Defs.getD i default).Name
   ·rw [dT e, cT]
    refine .inl ⟨.inl true, rfl, ?_⟩
    dsimp only
    exact ⟨rfl, j, hj, e⟩
   ·rw [dF e, cF]
    refine .inr ⟨_, ⟨rfl, fun j' hj' => ?_⟩, rfl⟩
    by_cases h2 : j' = j
    ·subst h2; exact e
    ·exact h j' (by omega)
  ·obtain ⟨rfl, h⟩ := h
   refine ⟨.inr (), by rw [s_gr16_twice_L2, dF (by omega), cF], ?_⟩
   exact h
 have key := for_all (L := s_gr16_twice_L1 p) (s := (0 : Int)) (fun i a => a = (i : Int) ∧ ∀ j, j < i → nameAt p.Defs j ∉ measL ∧ ∀ j', j' < j → nameAt p.Defs j' ≠ nameAt p.Defs j)
  (fun t => match t with | .inl r => r = true ∧ ¬ Proper p.Defs | .inr _ => Proper p.Defs) p.Defs.length (by omega) ⟨rfl, fun j hj => by omega⟩ (fun K i a h hi => ?_) (fun K a h => ?_)
 ·obtain ⟨t, h1, h2⟩ := key
  unfold s_gr16_twice
  rw [h1, oB]
  cases t with
  | inl r => dsimp only at h2 ⊢; exact ⟨r, rfl, by rw [h2.1]; exact ⟨fun h => (by cases h), fun h => absurd h h2.2⟩⟩
  | inr u => dsimp only at h2 ⊢; exact ⟨false, rfl, fun _ => h2, fun _ => rfl⟩
 ·obtain ⟨rfl, h⟩ := h
  obtain ⟨t, ht, hts⟩ := inner i hi
  rw [s_gr16_twice_L1, dT (by omega), cT, ht, oB]
  cases t with
  | inl r =>
   dsimp only at hts ⊢
   obtain ⟨rfl, j, hj, e⟩ := hts
   refine .inl ⟨.inl true, rfl, ?_⟩
   dsimp only
   exact ⟨rfl, fun hp => (hp i hi).2 j hj e⟩
  | inr u =>
   dsimp only at hts ⊢
   rw [show s_gr16_Measures = some () from rfl, oB, idx_of hi, oB, w64_succ hi (by omega)]
   erw [has_is (l := measL) (by decide)]
   rw [oB]
   by_cases hm : (p.Defs.getD i default).Name ∈ measL
   ·rw [dT hm, cT]
    refine .inl ⟨.inl true, rfl, ?_⟩
    dsimp only
    exact ⟨rfl, fun hp => (hp i hi).1 hm⟩
   ·rw [dF hm, cF]
    refine .inr ⟨_, ⟨rfl, fun j hj => ?_⟩, rfl⟩
    by_cases e : j = i
    ·subst e; exact ⟨hm, hts⟩
    ·exact h j (by omega)
 ·obtain ⟨rfl, h⟩ := h
  exact ⟨.inr (), by rw [s_gr16_twice_L1, dF (by omega), cF], h⟩
structure Gb (N : Nat) (U : Nat → Nat → Prop) (use : List (List Bool)) : Prop where
 len : use.length = N
 row : ∀ i, i < N → (use.getD i default).length = N
 mem : ∀ i k, i < N → k < N → ((use.getD i default).getD k default = true ↔ U i k)
 dom : ∀ i k, U i k → i < N ∧ k < N
theorem uses_is {p : Plan} (hN : p.Defs.length ≤ 1000) (hl : ∀ d ∈ p.Defs, ∃ n, n ≤ 1000 ∧ lvl n d.Body ∧ cnt d.Body ≤ 1000) : ∃ use, s_gr16_uses p = some use ∧ Gb p.Defs.length (Uses p.Defs) use := by
 have inner : ∀ y : List (List UInt8), y.length ≤ 1000000 → ∃ r, s_gr16_uses_L2 p y KK (0, List.replicate p.Defs.length false) = some r ∧ (r.length = p.Defs.length ∧ ∀ k, k < p.Defs.length → (r.getD k default = true ↔ nameAt p.Defs k ∈ y)) := fun y hy => by
  refine for_all (L := s_gr16_uses_L2 p y) (s := ((0 : Int), List.replicate p.Defs.length false)) (fun j q => q.1 = (j : Int) ∧ q.2.length = p.Defs.length ∧ ∀ k, k < j → (q.2.getD k default = true ↔ nameAt p.Defs k ∈ y)) (fun r => r.length = p.Defs.length ∧ ∀ k, k < p.Defs.length → (r.getD k default = true ↔ nameAt p.Defs k ∈ y)) p.Defs.length (by omega) ⟨rfl, by simp, fun j hj => by omega⟩ (fun K j q h hj => .inr ?_) (fun K q h => ?_)
  ·obtain ⟨a, r⟩ := q
   obtain ⟨e1, h1, h2⟩ := h
   dsimp only at e1 h1 h2; subst e1
   have hjr : j < r.length := by omega
   rw [s_gr16_uses_L2, dT (by dsimp only; omega), cT, idx_of hj, oB, has_is (by omega), oB]
   dsimp only
   rw [grd_of ⟨by omega, by omega⟩, oB, oB, toNat_nat, w64_succ hj (by omega)]
   refine ⟨(((j + 1 : Nat) : Int), r.set j (decide ((p.Defs.getD j default).Name ∈ y))), ⟨rfl, by dsimp only; rw [List.length_set]; exact h1, fun k hk => ?_⟩, rfl⟩
   dsimp only
   rw [getD_set hjr]
   by_cases e : k = j
   ·subst e; rw [if_pos rfl, decide_eq_true_eq]
   ·rw [if_neg e]; exact h2 k (by omega)
  ·obtain ⟨a, r⟩ := q
   obtain ⟨e1, h1, h2⟩ := h
   dsimp only at e1 h1 h2; subst e1
   exact ⟨r, by rw [s_gr16_uses_L2, dF (by simp), cF], h1, h2⟩
 have key := for_all (L := s_gr16_uses_L1 p) (s := ((0 : Int), ([] : List (List Bool)))) (fun i q => q.1 = (i : Int) ∧ q.2.length = i ∧ ∀ j, j < i → (q.2.getD j default).length = p.Defs.length ∧ ∀ k, k < p.Defs.length → ((q.2.getD j default).getD k default = true ↔ nameAt p.Defs k ∈ namesL (p.Defs.getD j default).Body))
  (fun use => use.length = p.Defs.length ∧ ∀ j, j < p.Defs.length → (use.getD j default).length = p.Defs.length ∧ ∀ k, k < p.Defs.length → ((use.getD j default).getD k default = true ↔ nameAt p.Defs k ∈ namesL (p.Defs.getD j default).Body)) p.Defs.length (by omega) ⟨rfl, rfl, fun j hj => by omega⟩ (fun K i q h hi => .inr ?_) (fun K q h => ?_)
 ·obtain ⟨use, h1, h2, h3⟩ := key
  refine ⟨use, ?_, h2, fun i hi => (h3 i hi).1, fun i k hi hk => ?_, fun i k h => ⟨h.1, h.2.1⟩⟩
  ·unfold s_gr16_uses
   rw [h1, oB]
  ·rw [(h3 i hi).2 k hk]
   exact ⟨fun h => ⟨hi, hk, h⟩, fun h => h.2.2⟩
 ·obtain ⟨a, use⟩ := q
  obtain ⟨e1, h1, h2⟩ := h
  dsimp only at e1 h1 h2; subst e1
  obtain ⟨n, hn, hlv, hct⟩ := hl _ (getD_mem hi)
  obtain ⟨y, hy, hym, hyl⟩ := refnames_is n _ KK hlv hct (by have := KK_big; omega)
  obtain ⟨r, hr, hr1, hr2⟩ := inner y (by omega)
  rw [s_gr16_uses_L1, dT (by dsimp only; omega), cT, idx_of hi, oB, hy, oB, grd_of ⟨by omega, by omega, by omega⟩, oB, toNat_nat, hr, oB]
  dsimp only
  rw [grd_of (by rw [List.length_append, List.length_singleton]; omega), oB, w64_succ hi (by omega)]
  refine ⟨(((i + 1 : Nat) : Int), use ++ [r]), ⟨rfl, by dsimp only; rw [List.length_append, List.length_singleton, h1], fun j hj => ?_⟩, rfl⟩
  dsimp only
  rw [getD_snoc]
  by_cases e : j < use.length
  ·rw [if_pos e]; exact h2 j (by omega)
  ·obtain rfl : j = use.length := by omega
   rw [if_neg e, if_pos rfl]
   rw [h1]
   exact ⟨hr1, fun k hk => by rw [hr2 k hk, hym]⟩
 ·obtain ⟨a, use⟩ := q
  obtain ⟨e1, h1, h2⟩ := h
  dsimp only at e1 h1 h2; subst e1
  exact ⟨use, by rw [s_gr16_uses_L1, dF (by simp), cF], h1, h2⟩
end Go.Proofs.YtconjkgifdfhdabGreat
