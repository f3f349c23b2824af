/- Plain lemmas: loops, names, levels. -/
import Derived.Test.YtconjkgifdfhdaaSD
set_option linter.all false
set_option maxRecDepth 100000
namespace Go.Proofs.Ytconjkgifdfhdaa
open Go Go.RowKit Go.Eng Go.EV
variable [Fuel]
theorem KK_big : 18446744073709551616 ≤ KK := Fuel.big
theorem grd_of {p : Prop} [Decidable p] (h : p) : grd p = some () := by unfold grd; rw [if_pos h]
theorem idx_of {α : Type} [Inhabited α] {l : List α} {i : Nat} (h : i < l.length) : idx l (i : Int) = some (l.getD i default) := by
 unfold idx; rw [if_pos ⟨by omega, by omega⟩]; simp
theorem drop_cons {α : Type} [Inhabited α] {l : List α} {i : Nat} (hi : i < l.length) : l.drop i = l.getD i default :: l.drop (i + 1) := by
 rw [List.drop_eq_getElem_cons hi, List.getD_eq_getElem?_getD, List.getElem?_eq_getElem hi]; rfl
theorem names_L1 : ∀ (xs : List (List UInt8)) (m : List (List UInt8 × Bool)), s_define_Names_L1 xs m = some (xs.foldl (fun m x => mset x true m) m)
 | [], m => rfl
 | x :: xs, m => by rw [s_define_Names_L1, names_L1 xs]; rfl
theorem mset_keys {β : Type} (a : List UInt8) (b : β) : ∀ l : List (List UInt8 × β), (mset a b l).map (·.1) = if a ∈ l.map (·.1) then l.map (·.1) else l.map (·.1) ++ [a]
 | [] => by simp [mset]
 | (k, c) :: r => by
  rw [mset]
  by_cases h : a = k
  ·subst h; simp
  ·rw [if_neg h, List.map_cons, mset_keys a b r]
   by_cases h2 : a ∈ r.map (·.1)
   ·rw [if_pos h2, if_pos (by simp only [List.map_cons, List.mem_cons]; exact .inr h2)]; rfl
   ·rw [if_neg h2, if_neg (by simp only [List.map_cons, List.mem_cons, not_or]; exact ⟨h, h2⟩)]; rfl
theorem set_keys : ∀ (xs : List (List UInt8)) (m : List (List UInt8 × Bool)), (m.map (·.1)).Nodup → ((xs.foldl (fun m x => mset x true m) m).map (·.1)).Nodup ∧ (∀ k, k ∈ (xs.foldl (fun m x => mset x true m) m).map (·.1) ↔ k ∈ m.map (·.1) ∨ k ∈ xs) ∧ (xs.foldl (fun m x => mset x true m) m).length ≤ m.length + xs.length
 | [], m, h => ⟨h, fun k => by simp, by simp⟩
 | x :: xs, m, h => by
  have hk := mset_keys x true m
  have hn : ((mset x true m).map (·.1)).Nodup := by
   rw [hk]
   split
   ·exact h
   ·rename_i hx
    exact List.nodup_append.2 ⟨h, by simp, fun a ha b hb => by simp at hb; subst hb; intro e; subst e; exact hx ha⟩
  obtain ⟨h1, h2, h3⟩ := set_keys xs (mset x true m) hn
  refine ⟨h1, fun k => ?_, ?_⟩
  ·rw [List.foldl_cons, h2, hk]
   split
   ·rename_i hx
    constructor
    ·rintro (h | h)
     ·exact .inl h
     ·exact .inr (List.mem_cons_of_mem _ h)
    ·rintro (h | h)
     ·exact .inl h
     ·rcases List.mem_cons.1 h with rfl | h
      ·exact .inl hx
      ·exact .inr h
   ·rw [List.mem_append, List.mem_singleton, List.mem_cons]
    constructor
    ·rintro ((h | h) | h)
     ·exact .inl h
     ·exact .inr (.inl h)
     ·exact .inr (.inr h)
    ·rintro (h | h | h)
     ·exact .inl (.inl h)
     ·exact .inl (.inr h)
     ·exact .inr h
  ·have hl : (mset x true m).length ≤ m.length + 1 := by
    have := congrArg List.length hk
    rw [List.length_map] at this
    rw [this]
    split <;> simp
   rw [List.foldl_cons, List.length_cons]
   omega
def namesV (e : Expr) : List (List UInt8) := sortKeys ((namesL e).foldl (fun m x => mset x true m) ([] : List (List UInt8 × Bool)))
theorem s_Names {e : Expr} (hl : (namesL e).length ≤ 8796093022208) (hk : ∀ k ∈ namesL e, k.length ≤ 9223372036854775807) : s_define_Names e = some (namesV e) := by
 obtain ⟨h1, h2, h3⟩ := set_keys (namesL e) [] (by simp)
 unfold s_define_Names s_define_names s_maps_Keys
 have he : Expr.mk e.Op e.N e.S e.Key e.Args = e := by cases e; rfl
 simp only [Option.bind_some, he, names_L1]
 rw [grd_of ⟨h1, fun k hk' => ((h2 k).1 hk').elim (fun h => by simp at h) (hk k), by simp only [List.length_nil] at h3; omega⟩]
 rfl
theorem mem_namesV {e : Expr} {k : List UInt8} : k ∈ namesV e ↔ k ∈ namesL e := by
 obtain ⟨_, h2, _⟩ := set_keys (namesL e) [] (by simp)
 unfold namesV sortKeys
 rw [(List.mergeSort_perm _ _).mem_iff, h2]
 simp
theorem len_namesV (e : Expr) : (namesV e).length ≤ (namesL e).length := by
 obtain ⟨_, _, h3⟩ := set_keys (namesL e) [] (by simp)
 unfold namesV sortKeys
 rw [List.length_mergeSort, List.length_map]
 simpa using h3
theorem fold_loopS {α S T : Type} [Inhabited α] {L : Nat → S × Int → Option T} {l : List α} (step : α → S → Option S) (fin : S → T) (hl : l.length < 2 ^ 62)
  (heq : ∀ K i s, L (K + 1) (s, i) = (bif decide (i < (l.length : Int)) then (idx l i).bind fun x => (step x s).bind fun s' => L K (s', w64 (i + 1)) else some (fin s))) :
  ∀ (n i K : Nat) (s : S), i + n = l.length → n < K → L K (s, (i : Int)) = ((l.drop i).foldlM (fun s x => step x s) s).map fin
 | 0, i, K, s, h, hK => by
  obtain ⟨K, rfl⟩ : ∃ K', K = K' + 1 := ⟨K - 1, by omega⟩
  rw [heq, decide_eq_false (by omega), cond_false, List.drop_of_length_le (by omega)]
  rfl
 | n + 1, i, K, s, h, hK => by
  obtain ⟨K, rfl⟩ : ∃ K', K = K' + 1 := ⟨K - 1, by omega⟩
  have hi : i < l.length := by omega
  rw [heq, decide_eq_true (by omega), cond_true, idx_of hi, Option.bind_some, w64_id (by omega) (by omega), show ((i : Int) + 1) = ((i + 1 : Nat) : Int) by omega, drop_cons hi, List.foldlM_cons]
  cases hs : step (l.getD i default) s with
  | none => rfl
  | some s' =>
   rw [Option.bind_some, fold_loopS step fin hl heq n (i + 1) K s' (by omega) (by omega)]
   rfl
theorem for_loop {S T : Type} {L : Nat → S → Option T} (I : Nat → S → Prop) (post : T → Prop) (N : Nat)
  (step : ∀ K i s, I i s → i < N → (∃ t, L (K + 1) s = some t ∧ post t) ∨ ∃ s', I (i + 1) s' ∧ L (K + 1) s = L K s')
  (fin : ∀ K s, I N s → ∃ t, L (K + 1) s = some t ∧ post t) : ∀ (n i K : Nat) (s : S), I i s → i + n = N → n < K → ∃ t, L K s = some t ∧ post t
 | 0, i, K, s, h, hn, hK => by
  obtain ⟨K, rfl⟩ : ∃ K', K = K' + 1 := ⟨K - 1, by omega⟩
  obtain rfl : i = N := by omega
  exact fin K s h
 | n + 1, i, K, s, h, hn, hK => by
  obtain ⟨K, rfl⟩ : ∃ K', K = K' + 1 := ⟨K - 1, by omega⟩
  rcases step K i s h (by omega) with h | ⟨s', h1, h2⟩
  ·exact h
  ·rw [h2]
   exact for_loop I post N step fin n (i + 1) K s' h1 (by omega) (by omega)
theorem for_all {S T : Type} {L : Nat → S → Option T} (I : Nat → S → Prop) (post : T → Prop) (N : Nat) (hN : N < 18446744073709551616) {s : S} (h0 : I 0 s)
  (step : ∀ K i s, I i s → i < N → (∃ t, L (K + 1) s = some t ∧ post t) ∨ ∃ s', I (i + 1) s' ∧ L (K + 1) s = L K s')
  (fin : ∀ K s, I N s → ∃ t, L (K + 1) s = some t ∧ post t) : ∃ t, L KK s = some t ∧ post t :=
 for_loop I post N step fin N 0 KK s h0 (by omega) (by have := KK_big; omega)
theorem det_loop {S T : Type} {L : Nat → S → Option T} (st : Nat → S) (N : Nat) (t : T) (hN : N < 18446744073709551616)
  (step : ∀ K i, i < N → L (K + 1) (st i) = L K (st (i + 1))) (fin : ∀ K, L (K + 1) (st N) = some t) : L KK (st 0) = some t := by
 obtain ⟨t', h1, h2⟩ := for_all (L := L) (fun i s => s = st i) (fun t' => t' = t) N hN (s := st 0) rfl (fun K i s h hi => .inr ⟨st (i + 1), rfl, by rw [h]; exact step K i hi⟩) (fun K s h => ⟨t, by rw [h]; exact fin K, rfl⟩)
 rw [h1, h2]
theorem getD_of {α : Type} [Inhabited α] {l : List α} {i : Nat} (h : i < l.length) : l.getD i default = l[i] := by
 rw [List.getD_eq_getElem?_getD, List.getElem?_eq_getElem h]; rfl
theorem getD_mem {α : Type} [Inhabited α] {l : List α} {i : Nat} (h : i < l.length) : l.getD i default ∈ l := by rw [getD_of h]; exact List.getElem_mem h
theorem getD_set {α : Type} [Inhabited α] {l : List α} {i k : Nat} {v : α} (h : i < l.length) : (l.set i v).getD k default = if k = i then v else l.getD k default := by
 rw [List.getD_eq_getElem?_getD, List.getD_eq_getElem?_getD, List.getElem?_set]
 by_cases e : i = k
 ·subst e; simp [h]
 ·rw [if_neg e, if_neg (Ne.symm e)]
theorem getD_rep {α : Type} [Inhabited α] {n k : Nat} {v : α} (h : k < n) : (List.replicate n v).getD k default = v := by
 rw [List.getD_eq_getElem?_getD, List.getElem?_replicate, if_pos h]; rfl
theorem mem_getD {α : Type} [Inhabited α] {l : List α} {x : α} (h : x ∈ l) : ∃ i, i < l.length ∧ x = l.getD i default := by
 obtain ⟨i, hi, e⟩ := List.mem_iff_getElem.1 h
 exact ⟨i, hi, by rw [getD_of hi, e]⟩
theorem toNat_nat (n : Nat) : Int.toNat (n : Int) = n := by simp
theorem w64_succ {i N : Nat} (h : i < N) (hN : N < 9223372036854775807) : w64 ((i : Int) + 1) = ((i + 1 : Nat) : Int) := by rw [w64_id (by omega) (by omega)]; omega
theorem mfind_mset {β : Type} (a k : List UInt8) (b : β) : ∀ l : List (List UInt8 × β), mfind k (mset a b l) = if k = a then some b else mfind k l
 | [] => by
  by_cases h : k = a
  ·subst h; simp [mset, mfind]
  ·simp [mset, mfind, h]
 | (c, d) :: r => by
  rw [mset]
  by_cases h : a = c
  ·subst h
   rw [if_pos rfl]
   by_cases hk : k = a
   ·subst hk; simp [mfind]
   ·simp [mfind, hk]
  ·rw [if_neg h]
   by_cases hk : k = a
   ·subst hk
    have := mfind_mset k k b r
    simp [mfind, h] at this ⊢
    exact this
   ·have := mfind_mset a k b r
    rw [if_neg hk] at this
    by_cases hc : k = c
    ·subst hc; simp [mfind, hk]
    ·simp [mfind, hk, hc] at this ⊢
     exact this
end Go.Proofs.Ytconjkgifdfhdaa
