/- Unknown of the reference; bounds; the law's small functions. -/
import Derived.Test.YtconjkgifdfhdaaDl
set_option linter.all false
set_option maxRecDepth 100000
namespace Go.Proofs.Ytconjkgifdfhdaa
open Go Go.RowKit Go.Eng Go.EV Go.Grf
variable [Fuel]
theorem take_snoc {α : Type} [Inhabited α] {l : List α} {i : Nat} (hi : i < l.length) : l.take (i + 1) = l.take i ++ [l.getD i default] := by rw [getD_of hi, List.take_append_getElem]
theorem size_is : ∀ (n : Nat) (e : Expr) (K : Nat), cnt e ≤ n → n ≤ 1000000000 → n < K → s_greenbeltref16_Size K e = some (cnt e : Int)
 | 0, e, K, h, _, _ => by have := cnt_pos e; omega
 | n + 1, e, K, h, hn, hK => by
  obtain ⟨K, rfl⟩ : ∃ K', K = K' + 1 := ⟨K - 1, by omega⟩
  have hc := cnt_eq e
  have hl := len_cnts e.Args
  have key := for_all (L := s_greenbeltref16_Size_L1 (s_greenbeltref16_Size K) e) (s := ((1 : Int), (0 : Int))) (fun i q => q.2 = (i : Int) ∧ q.1 = ((cnts (e.Args.take i) + 1 : Nat) : Int)) (fun r => r = (cnt e : Int)) e.Args.length (by omega) ⟨rfl, by simp [cnts]⟩ (fun K' i q h hi => .inr (by
   obtain ⟨a, b⟩ := q
   obtain ⟨e1, e2⟩ := h
   dsimp only at e1 e2; subst e1 e2
   have hx := mem_cnts (getD_mem hi)
   have hs : cnts (e.Args.take (i + 1)) = cnts (e.Args.take i) + cnt (e.Args.getD i default) := by rw [take_snoc hi, cnts_app, cnts, cnts]; rfl
   have hle : cnts (e.Args.take (i + 1)) ≤ cnts e.Args := by
    have := cnts_app (e.Args.take (i + 1)) (e.Args.drop (i + 1))
    rw [List.take_append_drop] at this; omega
   rw [s_greenbeltref16_Size_L1, decide_eq_true (by dsimp only; omega), cond_true, idx_of hi, Option.bind_some, size_is n _ K (by omega) (by omega) (by omega), Option.bind_some, w64_succ hi (by omega)]
   dsimp only
   rw [w64_id (by omega) (by omega)]
   exact ⟨_, ⟨rfl, by rw [hs]; omega⟩, rfl⟩)) (fun K' q h => by
   obtain ⟨a, b⟩ := q
   obtain ⟨e1, e2⟩ := h
   dsimp only at e1 e2; subst e1 e2
   rw [List.take_length]
   exact ⟨_, by rw [s_greenbeltref16_Size_L1, decide_eq_false (by simp), cond_false], by rw [hc]⟩)
  obtain ⟨r, h1, rfl⟩ := key
  rw [s_greenbeltref16_Size, h1, Option.bind_some]
structure Bnd (p : Plan) : Prop where
 body : ∀ d ∈ p.Defs, cnt d.Body ≤ 1000000000
 test : ∀ d ∈ p.Rules, cnt d.Test ≤ 1000000000
 keyD : ∀ d ∈ p.Defs, ∀ k ∈ namesL d.Body, k.length ≤ 9223372036854775807
 keyR : ∀ d ∈ p.Rules, ∀ k ∈ namesL d.Test, k.length ≤ 9223372036854775807
theorem few_is {p : Plan} (hb : Bnd p) : ∃ b, s_greenbeltref16_Few p = some b ∧ (b = true → Small p) := by
 unfold s_greenbeltref16_Few
 by_cases h1 : (p.Defs.length : Int) > 20
 ·rw [decide_eq_true h1, cond_true, Option.bind_some, cond_true]; exact ⟨_, rfl, fun h => by cases h⟩
 rw [decide_eq_false h1, cond_false, Option.bind_some]
 by_cases h2 : (p.Rules.length : Int) > 20
 ·rw [decide_eq_true h2, cond_true]; exact ⟨_, rfl, fun h => by cases h⟩
 rw [decide_eq_false h2, cond_false]
 have key1 := for_all (L := s_greenbeltref16_Few_L1 p) (s := (0 : Int)) (fun i a => a = (i : Int) ∧ ∀ j, j < i → cnt (p.Defs.getD j default).Body ≤ 60) (fun t => match t with | .inl r => r = false | .inr _ => ∀ j, j < p.Defs.length → cnt (p.Defs.getD j default).Body ≤ 60) p.Defs.length (by omega) ⟨rfl, fun j hj => by omega⟩ (fun K i a h hi => ?_) (fun K a h => ?_)
 ·have key2 := for_all (L := s_greenbeltref16_Few_L2 p) (s := (0 : Int)) (fun i a => a = (i : Int) ∧ ∀ j, j < i → cnt (p.Rules.getD j default).Test ≤ 60) (fun t => match t with | .inl r => r = false | .inr _ => ∀ j, j < p.Rules.length → cnt (p.Rules.getD j default).Test ≤ 60) p.Rules.length (by omega) ⟨rfl, fun j hj => by omega⟩ (fun K i a h hi => ?_) (fun K a h => ?_)
  ·obtain ⟨t1, g1, g2⟩ := key1
   obtain ⟨t2, k1, k2⟩ := key2
   rw [g1, Option.bind_some]
   cases t1 with
   | inl r => dsimp only at g2; subst g2; exact ⟨false, rfl, fun h => by cases h⟩
   | inr u =>
    dsimp only at g2 ⊢
    rw [k1, Option.bind_some]
    cases t2 with
    | inl r => dsimp only at k2; subst k2; exact ⟨false, rfl, fun h => by cases h⟩
    | inr u =>
     dsimp only at k2 ⊢
     refine ⟨true, rfl, fun _ => ⟨by omega, by omega, fun d hd => ?_, fun d hd => ?_, hb.keyD, hb.keyR⟩⟩
     ·obtain ⟨j, hj, rfl⟩ := mem_getD hd; exact g2 j hj
     ·obtain ⟨j, hj, rfl⟩ := mem_getD hd; exact k2 j hj
  ·obtain ⟨rfl, h⟩ := h
   have hc := hb.test _ (getD_mem hi)
   rw [s_greenbeltref16_Few_L2, decide_eq_true (by omega), cond_true, idx_of hi, Option.bind_some, size_is _ _ KK (Nat.le_refl _) hc (by have := KK_big; omega), Option.bind_some, w64_succ hi (by omega)]
   by_cases hs : (cnt (p.Rules.getD i default).Test : Int) > 60
   ·rw [decide_eq_true hs, cond_true]; exact .inl ⟨_, rfl, rfl⟩
   ·rw [decide_eq_false hs, cond_false]
    refine .inr ⟨_, ⟨rfl, fun j hj => ?_⟩, rfl⟩
    by_cases e : j = i
    ·subst e; omega
    ·exact h j (by omega)
  ·obtain ⟨rfl, h⟩ := h
   exact ⟨.inr (), by rw [s_greenbeltref16_Few_L2, decide_eq_false (by omega), cond_false], h⟩
 ·obtain ⟨rfl, h⟩ := h
  have hc := hb.body _ (getD_mem hi)
  rw [s_greenbeltref16_Few_L1, decide_eq_true (by omega), cond_true, idx_of hi, Option.bind_some, size_is _ _ KK (Nat.le_refl _) hc (by have := KK_big; omega), Option.bind_some, w64_succ hi (by omega)]
  by_cases hs : (cnt (p.Defs.getD i default).Body : Int) > 60
  ·rw [decide_eq_true hs, cond_true, Option.bind_some, cond_true]; exact .inl ⟨_, rfl, rfl⟩
  ·rw [decide_eq_false hs, cond_false, Option.bind_some, Option.bind_some]
   by_cases hn : (((p.Defs.getD i default).Name.length : Nat) : Int) > 100
   ·rw [decide_eq_true hn, cond_true]; exact .inl ⟨_, rfl, rfl⟩
   ·rw [decide_eq_false hn, cond_false]
    refine .inr ⟨_, ⟨rfl, fun j hj => ?_⟩, rfl⟩
    by_cases e : j = i
    ·subst e; omega
    ·exact h j (by omega)
 ·obtain ⟨rfl, h⟩ := h
  exact ⟨.inr (), by rw [s_greenbeltref16_Few_L1, decide_eq_false (by omega), cond_false], h⟩
theorem lhas_is {l : List Nm} {s : Nm} (hl : l.length < 2 ^ 62) : s_greenbeltlaw16_has l s = some (decide (s ∈ l)) := by
 have key := for_all (L := s_greenbeltlaw16_has_L1 l s) (s := (0 : Int)) (fun i a => a = (i : Int) ∧ ∀ j, j < i → l.getD j default ≠ s)
  (fun t => match t with | .inl r => r = true ∧ s ∈ l | .inr _ => s ∉ l) l.length (by omega) ⟨rfl, fun j hj => by omega⟩ (fun K i a h hi => ?_) (fun K a h => ?_)
 ·obtain ⟨t, h1, h2⟩ := key
  unfold s_greenbeltlaw16_has
  rw [h1, Option.bind_some]
  cases t with
  | inl r => dsimp only at h2 ⊢; rw [h2.1, decide_eq_true h2.2]
  | inr u => dsimp only at h2 ⊢; rw [decide_eq_false h2]
 ·obtain ⟨rfl, h⟩ := h
  rw [s_greenbeltlaw16_has_L1, decide_eq_true (by omega), cond_true, idx_of hi, Option.bind_some, w64_succ hi (by omega)]
  by_cases e : l.getD i default = s
  ·rw [decide_eq_true e, cond_true]
   refine .inl ⟨.inl true, rfl, ?_⟩
   dsimp only
   exact ⟨rfl, by rw [← e]; exact getD_mem hi⟩
  ·rw [decide_eq_false e, cond_false]
   refine .inr ⟨_, ⟨rfl, fun j hj => ?_⟩, rfl⟩
   by_cases hji : j = i
   ·subst hji; exact e
   ·exact h j (by omega)
 ·obtain ⟨rfl, h⟩ := h
  refine ⟨.inr (), by rw [s_greenbeltlaw16_has_L1, decide_eq_false (by omega), cond_false], ?_⟩
  dsimp only
  exact fun hm => by obtain ⟨j, hj, e⟩ := mem_getD hm; exact h j hj e.symm
theorem free_is {p : Plan} (hp : Small p) {d : Def} (hd : d ∈ p.Defs) {done : List Nm} (hl : done.length < 2 ^ 62) : ∃ b, s_greenbeltlaw16_free p d done = some b ∧ (b = true ↔ ∀ j, j < p.Defs.length → nameAt p.Defs j ∈ namesL d.Body → nameAt p.Defs j ∈ done) := by
 obtain ⟨i, hi, rfl⟩ := mem_getD hd
 have hN := hp.defs
 have hnl : (namesV (p.Defs.getD i default).Body).length ≤ 60 := by
  have := hp.body _ hd; have := names_le (p.Defs.getD i default).Body; have := len_namesV (p.Defs.getD i default).Body; omega
 have key := for_all (L := s_greenbeltlaw16_free_L1 p done (namesV (p.Defs.getD i default).Body)) (s := (0 : Int)) (fun k a => a = (k : Int) ∧ ∀ j, j < k → nameAt p.Defs j ∈ namesL (p.Defs.getD i default).Body → nameAt p.Defs j ∈ done)
  (fun t => match t with | .inl r => r = false ∧ ∃ j, j < p.Defs.length ∧ nameAt p.Defs j ∈ namesL (p.Defs.getD i default).Body ∧ nameAt p.Defs j ∉ done | .inr _ => ∀ j, j < p.Defs.length → nameAt p.Defs j ∈ namesL (p.Defs.getD i default).Body → nameAt p.Defs j ∈ done) p.Defs.length (by omega) ⟨rfl, fun j hj => by omega⟩ (fun K k a h hk => ?_) (fun K a h => ?_)
 ·obtain ⟨t, h1, h2⟩ := key
  unfold s_greenbeltlaw16_free
  rw [sNames hp hi, Option.bind_some, h1, Option.bind_some]
  cases t with
  | inl r =>
   dsimp only at h2 ⊢
   obtain ⟨rfl, j, g1, g2, g3⟩ := h2
   exact ⟨false, rfl, fun h => (by cases h), fun h => absurd (h j g1 g2) g3⟩
  | inr u => dsimp only at h2 ⊢; exact ⟨true, rfl, fun _ => h2, fun _ => rfl⟩
 ·obtain ⟨rfl, h⟩ := h
  rw [s_greenbeltlaw16_free_L1, decide_eq_true (by omega), cond_true, idx_of hk, Option.bind_some, lhas_is (by omega), Option.bind_some, w64_succ hk (by omega)]
  by_cases e : (p.Defs.getD k default).Name ∈ namesV (p.Defs.getD i default).Body
  ·rw [decide_eq_true e, cond_true, Option.bind_some, lhas_is hl, Option.bind_some, Option.bind_some]
   by_cases e2 : (p.Defs.getD k default).Name ∈ done
   ·rw [decide_eq_true e2, Bool.not_true, cond_false]
    refine .inr ⟨_, ⟨rfl, fun j hj hm => ?_⟩, rfl⟩
    by_cases hjk : j = k
    ·subst hjk; exact e2
    ·exact h j (by omega) hm
   ·rw [decide_eq_false e2, Bool.not_false, cond_true]
    exact .inl ⟨_, rfl, rfl, k, hk, mem_namesV.1 e, e2⟩
  ·rw [decide_eq_false e, cond_false, Option.bind_some, cond_false]
   refine .inr ⟨_, ⟨rfl, fun j hj hm => ?_⟩, rfl⟩
   by_cases hjk : j = k
   ·subst hjk; exact absurd (mem_namesV.2 hm) e
   ·exact h j (by omega) hm
 ·obtain ⟨rfl, h⟩ := h
  exact ⟨.inr (), by rw [s_greenbeltlaw16_free_L1, decide_eq_false (by omega), cond_false], h⟩
end Go.Proofs.Ytconjkgifdfhdaa
