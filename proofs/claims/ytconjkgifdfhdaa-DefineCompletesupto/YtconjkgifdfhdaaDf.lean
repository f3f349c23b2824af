/- define.newGraph, distances. -/
import Derived.Test.YtconjkgifdfhdaaDe
import Derived.Test.YtconjkgifdfhdaaGrfB
set_option linter.all false
set_option maxRecDepth 100000
namespace Go.Proofs.Ytconjkgifdfhdaa
open Go Go.RowKit Go.Eng Go.EV Go.Grf
abbrev nameAt (l : List Def) (i : Nat) : List UInt8 := (l.getD i default).Name
def Uses (l : List Def) (i k : Nat) : Prop := i < l.length ∧ k < l.length ∧ nameAt l k ∈ namesL (l.getD i default).Body
def Dis (l : List Def) : Prop := ∀ i k, i < l.length → k < l.length → nameAt l i = nameAt l k → i = k
def okD (l : List Def) : Prop := ∀ d ∈ l, (namesL d.Body).length ≤ 1000000 ∧ ∀ k ∈ namesL d.Body, k.length ≤ 9223372036854775807
structure Gr (N : Nat) (U : Nat → Nat → Prop) (us : List (List Int)) : Prop where
 len : us.length = N
 few : ∀ i, i < N → (us.getD i default).length ≤ 1000000
 mem : ∀ i, i < N → ∀ x, x ∈ us.getD i default ↔ ∃ k : Nat, x = k ∧ U i k
 dom : ∀ i k, U i k → i < N ∧ k < N
variable [Fuel]
theorem graph_L1 {l : List Def} (hl : l.length < 2 ^ 62) (hd : Dis l) : ∃ m, s_define_newGraph_L1 l KK (0, []) = some m ∧ ∀ s k, mfind s m = some k ↔ ∃ j : Nat, j < l.length ∧ k = j ∧ nameAt l j = s := by
 refine for_all (L := s_define_newGraph_L1 l) (s := ((0 : Int), ([] : List (List UInt8 × Int)))) (fun i q => q.1 = (i : Int) ∧ ∀ s k, mfind s q.2 = some k ↔ ∃ j : Nat, j < i ∧ k = j ∧ nameAt l j = s) (fun m => ∀ s k, mfind s m = some k ↔ ∃ j : Nat, j < l.length ∧ k = j ∧ nameAt l j = s) l.length (by omega) ⟨rfl, fun s k => ?_⟩ (fun K i q h hi => .inr ?_) (fun K q h => ?_)
 ·constructor
  ·intro h; cases h
  ·rintro ⟨j, h, _⟩; omega
 ·obtain ⟨a, m⟩ := q
  obtain ⟨h1, h2⟩ := h
  dsimp only at h1 h2; subst h1
  refine ⟨(((i + 1 : Nat) : Int), mset (nameAt l i) (i : Int) m), ⟨rfl, fun s k => ?_⟩, ?_⟩
  ·dsimp only
   rw [mfind_mset]
   by_cases hs : s = nameAt l i
   ·rw [if_pos hs]
    constructor
    ·intro h; cases h; exact ⟨i, by omega, rfl, hs.symm⟩
    ·rintro ⟨j, hj, rfl, he⟩
     rw [hd j i (by omega) hi (he.trans hs)]
   ·rw [if_neg hs, h2]
    constructor
    ·rintro ⟨j, hj, r⟩; exact ⟨j, by omega, r⟩
    ·rintro ⟨j, hj, hk, he⟩
     have : j ≠ i := fun e => hs (by rw [← he, e])
     exact ⟨j, by omega, hk, he⟩
  ·rw [s_define_newGraph_L1, decide_eq_true (by dsimp only; omega), cond_true, idx_of hi, Option.bind_some, w64_succ hi (by omega)]
 ·obtain ⟨a, m⟩ := q
  obtain ⟨h1, h2⟩ := h
  dsimp only at h1 h2; subst h1
  exact ⟨m, by rw [s_define_newGraph_L1, decide_eq_false (by simp), cond_false], h2⟩
def rowOf (M : List (List UInt8 × Int)) (y : List (List UInt8)) : List Int := y.filterMap fun s => mfind s M
theorem graph_L3 {M : List (List UInt8 × Int)} {y : List (List UInt8)} {i : Nat} {us : List (List Int)} (hy : y.length ≤ 1000000) (hi : i < us.length) (h0 : us.getD i default = []) : s_define_newGraph_L3 M y ((i : Int), us) KK (0, us) = some (us.set i (rowOf M y)) := by
 have h00 : us.set i (rowOf M (y.take 0)) = us := by
  rw [List.take_zero]
  show us.set i [] = us
  rw [← h0, getD_of hi, List.set_getElem_self]
 have key := det_loop (L := s_define_newGraph_L3 M y ((i : Int), us)) (fun j => ((j : Int), us.set i (rowOf M (y.take j)))) y.length (us.set i (rowOf M y)) (by omega) (fun K j hj => ?_) (fun K => ?_)
 ·rw [h00] at key; exact key
 ·rw [s_define_newGraph_L3, decide_eq_true (by dsimp only; omega), cond_true, idx_of hj, Option.bind_some]
  have ht : y.take (j + 1) = y.take j ++ [y.getD j default] := by rw [getD_of hj, List.take_append_getElem]
  have hgt : (us.set i (rowOf M (y.take j))).getD i default = rowOf M (y.take j) := by rw [getD_set hi, if_pos rfl]
  have hlen : (rowOf M (y.take j)).length ≤ y.length := by
   have h1 := List.length_filterMap_le (fun s => mfind s M) (y.take j)
   rw [List.length_take] at h1
   unfold rowOf; omega
  have hr : rowOf M (y.take (j + 1)) = rowOf M (y.take j) ++ (match mfind (y.getD j default) M with | some v => [v] | none => []) := by
   unfold rowOf
   rw [ht, List.filterMap_append]
   cases h : mfind (y.getD j default) M <;> simp only [List.filterMap_cons, h, List.filterMap_nil]
  dsimp only
  rw [hr]
  cases h : mfind (y.getD j default) M with
  | none => rw [Option.isSome_none, cond_false, Option.bind_some, w64_succ hj (by omega), List.append_nil]
  | some v =>
   rw [Option.isSome_some, cond_true, grd_of ⟨by omega, by rw [List.length_set]; omega⟩, Option.bind_some, Option.bind_some, toNat_nat, hgt, Option.getD_some, grd_of (by rw [List.length_append, List.length_singleton]; omega), Option.bind_some, Option.bind_some, List.set_set, Option.bind_some, w64_succ hj (by omega)]
 ·rw [s_define_newGraph_L3, decide_eq_false (by simp), cond_false, List.take_length]
theorem index_is {s : List Int} {v : Int} (hs : s.length < 2 ^ 62) : ∃ r, s_slices_Index s v = some r ∧ (0 ≤ r ↔ v ∈ s) := by
 have key := for_all (L := s_slices_Index_L1 s v) (s := (0 : Int)) (fun i a => a = (i : Int) ∧ ∀ j, j < i → s.getD j default ≠ v)
  (fun t => match t with | .inl r => 0 ≤ r ∧ v ∈ s | .inr _ => v ∉ s) s.length (by omega) ⟨rfl, fun j hj => by omega⟩ (fun K i a h hi => ?_) (fun K a h => ?_)
 ·obtain ⟨t, h1, h2⟩ := key
  unfold s_slices_Index
  rw [h1]
  cases t with
  | inl r => exact ⟨r, rfl, by simp only at h2; exact ⟨fun _ => h2.2, fun _ => h2.1⟩⟩
  | inr u => exact ⟨-1, rfl, by simp only at h2; exact ⟨fun h => by omega, fun h => absurd h h2⟩⟩
 ·obtain ⟨rfl, h⟩ := h
  rw [s_slices_Index_L1, decide_eq_true (by omega), cond_true, idx_of hi, Option.bind_some, w64_succ hi (by omega)]
  by_cases he : v = s.getD i default
  ·rw [decide_eq_true he, cond_true]
   exact .inl ⟨_, rfl, by omega, by rw [he]; exact getD_mem hi⟩
  ·rw [decide_eq_false he, cond_false]
   refine .inr ⟨_, ⟨rfl, fun j hj => ?_⟩, rfl⟩
   by_cases hji : j = i
   ·subst hji; exact Ne.symm he
   ·exact h j (by omega)
 ·obtain ⟨rfl, h⟩ := h
  rw [s_slices_Index_L1, decide_eq_false (by omega), cond_false]
  exact ⟨_, rfl, fun hm => by obtain ⟨j, hj, e⟩ := mem_getD hm; exact h j hj e.symm⟩
theorem contains_is {s : List Int} {v : Int} (hs : s.length < 2 ^ 62) : s_slices_Contains s v = some (decide (v ∈ s)) := by
 obtain ⟨r, h1, h2⟩ := index_is (v := v) hs
 unfold s_slices_Contains
 rw [h1, Option.bind_some]
 congr 1
 exact decide_eq_decide.2 h2
end Go.Proofs.Ytconjkgifdfhdaa
