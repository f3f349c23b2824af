/- define.newGraph, distances. -/
import Derived.Test.YtconjkgifdfhdabGreatP
import Derived.Test.YtconjkgifdfhdabGreatZ
import Derived.Test.YtconjkgifdfhdabGreatGrfA
set_option linter.all false
set_option maxRecDepth 100000
namespace Go.Proofs.YtconjkgifdfhdabGreat
open Go Go.RowKit Go.Eng Go.EV Go.Grf
abbrev nameAt (l : List Def) (i : Nat) : List UInt8 := (l.getD i default).Name
def Uses (l : List Def) (i k : Nat) : Prop := i < l.length ∧ k < l.length ∧ nameAt l k ∈ namesL (l.getD i default).Body
def Dis (l : List Def) : Prop := ∀ i k, i < l.length → k < l.length → nameAt l i = nameAt l k → i = k
def okD (l : List Def) : Prop := ∀ d ∈ l, (namesL d.Body).length ≤ 1000000 ∧ ∀ k ∈ namesL d.Body, k.length ≤ 9223372036854775807
structure Gr (N : Nat) (U : Nat → Nat → Prop) (us : List (List Int)) : Prop where
 len : us.length = N
 few : ∀ i, i < N → (us.getD i default).length ≤ 1000000
 mem : ∀ i, i < N → ∀ x, x ∈ us.getD i default ↔ ∃ k : Nat, x = k ∧ U i k
 dom : ∀ i k, U i k → i < N ∧ k < N
variable [Fuel]
theorem graph_L1 {l : List Def} (hl : l.length < 2 ^ 62) (hd : Dis l) : ∃ m, s_define_newGraph_L1 l KK (0, []) = some m ∧ ∀ s k, mfind s m = some k ↔ ∃ j : Nat, j < l.length ∧ k = j ∧ nameAt l j = s := by
 refine for_all (L := s_define_newGraph_L1 l) (s := ((0 : Int), ([] : List (List UInt8 × Int)))) (fun i q => q.1 = (i : Int) ∧ ∀ s k, mfind s q.2 = some k ↔ ∃ j : Nat, j < i ∧ k = j ∧ nameAt l j = s) (fun m => ∀ s k, mfind s m = some k ↔ ∃ j : Nat, j < l.length ∧ k = j ∧ nameAt l j = s) l.length (by omega) ⟨rfl, fun s k => ?_⟩ (fun K i q h hi => .inr ?_) (fun K q h => ?_)
 ·constructor
  ·intro h; cases h
  ·rintro ⟨j, h, _⟩; omega
 ·obtain ⟨a, m⟩ := q
  obtain ⟨h1, h2⟩ := h
  dsimp only at h1 h2; subst h1
  refine ⟨(((i + 1 : Nat) : Int), mset (nameAt l i) (i : Int) m), ⟨rfl, fun s k => ?_⟩, ?_⟩
  ·dsimp only
   rw [mfind_mset]
   by_cases hs : s = nameAt l i
   ·rw [if_pos hs]
    constructor
    ·intro h; cases h; exact ⟨i, by omega, rfl, hs.symm⟩
    ·rintro ⟨j, hj, rfl, he⟩
     rw [hd j i (by omega) hi (he.trans hs)]
   ·rw [if_neg hs, h2]
    constructor
    ·rintro ⟨j, hj, r⟩; exact ⟨j, by omega, r⟩
    ·rintro ⟨j, hj, hk, he⟩
     have : j ≠ i := fun e => hs (by rw [← he, e])
     exact ⟨j, by omega, hk, he⟩
  ·rw [s_define_newGraph_L1, dT (by dsimp only; omega), cT, idx_of hi, oB, w64_succ hi (by omega)]
 ·obtain ⟨a, m⟩ := q
  obtain ⟨h1, h2⟩ := h
  dsimp only at h1 h2; subst h1
  exact ⟨m, by rw [s_define_newGraph_L1, dF (by simp), cF], h2⟩
def rowOf (M : List (List UInt8 × Int)) (y : List (List UInt8)) : List Int := y.filterMap fun s => mfind s M
theorem graph_L3 {M : List (List UInt8 × Int)} {y : List (List UInt8)} {i : Nat} {us : List (List Int)} (hy : y.length ≤ 1000000) (hi : i < us.length) (h0 : us.getD i default = []) : s_define_newGraph_L3 M y ((i : Int), us) KK (0, us) = some (us.set i (rowOf M y)) := by
 have h00 : us.set i (rowOf M (y.take 0)) = us := by
  rw [List.take_zero]
  show us.set i [] = us
  rw [← h0, getD_of hi, List.set_getElem_self]
 have key := det_loop (L := s_define_newGraph_L3 M y ((i : Int), us)) (fun j => ((j : Int), us.set i (rowOf M (y.take j)))) y.length (us.set i (rowOf M y)) (by omega) (fun K j hj => ?_) (fun K => ?_)
 ·rw [h00] at key; exact key
 ·rw [s_define_newGraph_L3, dT (by dsimp only; omega), cT, idx_of hj, oB]
  have ht : y.take (j + 1) = y.take j ++ [y.getD j default] := by rw [getD_of hj, List.take_append_getElem]
  have hgt : (us.set i (rowOf M (y.take j))).getD i default = rowOf M (y.take j) := by rw [getD_set hi, if_pos rfl]
  have hlen : (rowOf M (y.take j)).length ≤ y.length := by
   have h1 := List.length_filterMap_le (fun s => mfind s M) (y.take j)
   rw [List.length_take] at h1
   unfold rowOf; omega
  have hr : rowOf M (y.take (j + 1)) = rowOf M (y.take j) ++ (match mfind (y.getD j default) M with | some v => [v] | none => []) := by
   unfold rowOf
   rw [ht, List.filterMap_append]
   cases h : mfind (y.getD j default) M <;> simp only [List.filterMap_cons, h, List.filterMap_nil]
  dsimp only
  rw [hr]
  cases h : mfind (y.getD j default) M with
  | none => rw [Option.isSome_none, cF, oB, w64_succ hj (by omega), List.append_nil]
  | some v =>
   rw [Option.isSome_some, cT, grd_of ⟨by omega, by rw [List.length_set]; omega⟩, oB, oB, toNat_nat, hgt, Option.getD_some, grd_of (by rw [List.length_append, List.length_singleton]; omega), oB, oB, List.set_set, oB, w64_succ hj (by omega)]
 ·rw [s_define_newGraph_L3, dF (by simp), cF, List.take_length]
theorem newGraph_is {l : List Def} (hl : l.length ≤ 1000) (hd : Dis l) (hok : okD l) : ∃ us, s_define_newGraph l = some (l, us) ∧ Gr l.length (Uses l) us := by
 obtain ⟨M, hM, hMs⟩ := graph_L1 (by omega) hd
 have hnm : ∀ i, i < l.length → s_define_Names (l.getD i default).Body = some (namesV (l.getD i default).Body) := fun i hi => by
  obtain ⟨h1, h2⟩ := hok _ (getD_mem hi)
  exact s_Names (by omega) h2
 have hnl : ∀ i, i < l.length → (namesV (l.getD i default).Body).length ≤ 1000000 := fun i hi => Nat.le_trans (len_namesV _) (hok _ (getD_mem hi)).1
 have key := for_all (L := s_define_newGraph_L2 l M) (s := (0, List.replicate l.length ([] : List Int)))
  (fun i q => q.1 = (i : Int) ∧ q.2.length = l.length ∧ ∀ k, k < l.length → q.2.getD k default = if k < i then rowOf M (namesV (l.getD k default).Body) else [])
  (fun us => us.length = l.length ∧ ∀ k, k < l.length → us.getD k default = rowOf M (namesV (l.getD k default).Body)) l.length (by omega)
  ⟨rfl, by simp, fun k hk => by rw [getD_rep hk]; simp⟩ (fun K i q h hi => .inr ?_) (fun K q h => ?_)
 ·obtain ⟨us, h1, h2, h3⟩ := key
  refine ⟨us, ?_, h2, fun i hi => ?_, fun i hi x => ?_, fun i k h => ⟨h.1, h.2.1⟩⟩
  ·unfold s_define_newGraph
   rw [hM, oB, grd_of ⟨by omega, by omega, by omega⟩, oB, toNat_nat, h1, oB]
  ·rw [h3 i hi]
   exact Nat.le_trans (List.length_filterMap_le _ _) (hnl i hi)
  ·rw [h3 i hi]
   unfold rowOf
   rw [List.mem_filterMap]
   constructor
   ·rintro ⟨s, hs, he⟩
    obtain ⟨j, hj, rfl, hn⟩ := (hMs s x).1 he
    exact ⟨j, rfl, hi, hj, by rw [hn]; exact mem_namesV.1 hs⟩
   ·rintro ⟨k, rfl, _, hk, hm⟩
    exact ⟨nameAt l k, mem_namesV.2 hm, (hMs _ _).2 ⟨k, hk, rfl, rfl⟩⟩
 ·obtain ⟨a, us⟩ := q
  obtain ⟨e1, e2, e3⟩ := h
  dsimp only at e1 e2 e3; subst e1
  have hiu : i < us.length := by omega
  refine ⟨(((i + 1 : Nat) : Int), us.set i (rowOf M (namesV (l.getD i default).Body))), ⟨rfl, by dsimp only; rw [List.length_set]; exact e2, fun k hk => ?_⟩, ?_⟩
  ·dsimp only
   rw [getD_set hiu]
   by_cases hki : k = i
   ·subst hki; rw [if_pos rfl, if_pos (by omega)]
   ·rw [if_neg hki, e3 k hk]
    by_cases hlt : k < i
    ·rw [if_pos hlt, if_pos (by omega)]
    ·rw [if_neg hlt, if_neg (by omega)]
  ·rw [s_define_newGraph_L2, dT (by dsimp only; omega), cT, idx_of hi, oB, hnm i hi, oB]
   dsimp only
   rw [graph_L3 (hnl i hi) hiu (by rw [e3 i hi, if_neg (by omega)]), oB, w64_succ hi (by omega)]
 ·obtain ⟨a, us⟩ := q
  obtain ⟨e1, e2, e3⟩ := h
  dsimp only at e1 e2 e3; subst e1
  exact ⟨us, by rw [s_define_newGraph_L2, dF (by simp), cF], e2, fun k hk => by rw [e3 k hk, if_pos hk]⟩
theorem index_is {s : List Int} {v : Int} (hs : s.length < 2 ^ 62) : ∃ r, s_slices_Index s v = some r ∧ (0 ≤ r ↔ v ∈ s) := by
 have key := for_all (L := s_slices_Index_L1 s v) (s := (0 : Int)) (fun i a => a = (i : Int) ∧ ∀ j, j < i → s.getD j default ≠ v)
  (fun t => match t with | .inl r => 0 ≤ r ∧ v ∈ s | .inr _ => v ∉ s) s.length (by omega) ⟨rfl, fun j hj => by omega⟩ (fun K i a h hi => ?_) (fun K a h => ?_)
 ·obtain ⟨t, h1, h2⟩ := key
  unfold s_slices_Index
  rw [h1]
  cases t with
  | inl r => exact ⟨r, rfl, by simp only at h2; exact ⟨fun _ => h2.2, fun _ => h2.1⟩⟩
  | inr u => exact ⟨-1, rfl, by simp only at h2; exact ⟨fun h => by omega, fun h => absurd h h2⟩⟩
 ·obtain ⟨rfl, h⟩ := h
  rw [s_slices_Index_L1, dT (by omega), cT, idx_of hi, oB, w64_succ hi (by omega)]
  by_cases he : v = s.getD i default
  ·rw [dT he, cT]
   exact .inl ⟨_, rfl, by omega, by rw [he]; exact getD_mem hi⟩
  ·rw [dF he, cF]
   refine .inr ⟨_, ⟨rfl, fun j hj => ?_⟩, rfl⟩
   by_cases hji : j = i
   ·subst hji; exact Ne.symm he
   ·exact h j (by omega)
 ·obtain ⟨rfl, h⟩ := h
  rw [s_slices_Index_L1, dF (by omega), cF]
  exact ⟨_, rfl, fun hm => by obtain ⟨j, hj, e⟩ := mem_getD hm; exact h j hj e.symm⟩
theorem contains_is {s : List Int} {v : Int} (hs : s.length < 2 ^ 62) : s_slices_Contains s v = some (decide (v ∈ s)) := by
 obtain ⟨r, h1, h2⟩ := index_is (v := v) hs
 unfold s_slices_Contains
 rw [h1, oB]
 congr 1
 exact decide_eq_decide.2 h2
end Go.Proofs.YtconjkgifdfhdabGreat
