/- Unknown of the reference; bounds; the law's small functions. -/
import Derived.Test.YtconjkgifdfhdaaDl
set_option linter.all false
set_option maxRecDepth 100000
namespace Go.Proofs.Ytconjkgifdfhdaa
open Go Go.RowKit Go.Eng Go.EV Go.Grf
variable [Fuel]
theorem take_snoc {α : Type} [Inhabited α] {l : List α} {i : Nat} (hi : i < l.length) : l.take (i + 1) = l.take i ++ [l.getD i default] := by rw [getD_of hi, List.take_append_getElem]
theorem size_is : ∀ (n : Nat) (e : Expr) (K : Nat), cnt e ≤ n → n ≤ 1000000000 → n < K → s_greenbeltref16_Size K e = some (cnt e : Int)
 | 0, e, K, h, _, _ => by have := cnt_pos e; omega
 | n + 1, e, K, h, hn, hK => by
  obtain ⟨K, rfl⟩ : ∃ K', K = K' + 1 := ⟨K - 1, by omega⟩
  have hc := cnt_eq e
  have hl := len_cnts e.Args
  have key := for_all (L := s_greenbeltref16_Size_L1 (s_greenbeltref16_Size K) e) (s := ((1 : Int), (0 : Int))) (fun i q => q.2 = (i : Int) ∧ q.1 = ((cnts (e.Args.take i) + 1 : Nat) : Int)) (fun r => r = (cnt e : Int)) e.Args.length (by omega) ⟨rfl, by simp [cnts]⟩ (fun K' i q h hi => .inr (by
   obtain ⟨a, b⟩ := q
   obtain ⟨e1, e2⟩ := h
   dsimp only at e1 e2; subst e1 e2
   have hx := mem_cnts (getD_mem hi)
   have hs : cnts (e.Args.take (i + 1)) = cnts (e.Args.take i) + cnt (e.Args.getD i default) := by rw [take_snoc hi, cnts_app, cnts, cnts]; rfl
   have hle : cnts (e.Args.take (i + 1)) ≤ cnts e.Args := by
    have := cnts_app (e.Args.take (i + 1)) (e.Args.drop (i + 1))
    rw [List.take_append_drop] at this; omega
   rw [s_greenbeltref16_Size_L1, decide_eq_true (by dsimp only; omega), cond_true, idx_of hi, Option.bind_some, size_is n _ K (by omega) (by omega) (by omega), Option.bind_some, w64_succ hi (by omega)]
   dsimp only
   rw [w64_id (by omega) (by omega)]
   exact ⟨_, ⟨rfl, by rw [hs]; omega⟩, rfl⟩)) (fun K' q h => by
   obtain ⟨a, b⟩ := q
   obtain ⟨e1, e2⟩ := h
   dsimp only at e1 e2; subst e1 e2
   rw [List.take_length]
   exact ⟨_, by rw [s_greenbeltref16_Size_L1, decide_eq_false (by simp), cond_false], by rw [hc]⟩)
  obtain ⟨r, h1, rfl⟩ := key
  rw [s_greenbeltref16_Size, h1, Option.bind_some]
structure Bnd (p : Plan) : Prop where
 body : ∀ d ∈ p.Defs, cnt d.Body ≤ 1000000000
 test : ∀ d ∈ p.Rules, cnt d.Test ≤ 1000000000
 keyD : ∀ d ∈ p.Defs, ∀ k ∈ namesL d.Body, k.length ≤ 9223372036854775807
 keyR : ∀ d ∈ p.Rules, ∀ k ∈ namesL d.Test, k.length ≤ 9223372036854775807
theorem few_is {p : Plan} (hb : Bnd p) : ∃ b, s_greenbeltref16_Few p = some b ∧ (b = true → Small p) := by
 unfold s_greenbeltref16_Few
 by_cases h1 : (p.Defs.length : Int) > 20
 ·rw [decide_eq_true h1, cond_true, Option.bind_some, cond_true]; exact ⟨_, rfl, fun h => by cases h⟩
 rw [decide_eq_false h1, cond_false, Option.bind_some]
 by_cases h2 : (p.Rules.length : Int) > 20
 ·rw [decide_eq_true h2, cond_true]; exact ⟨_, rfl, fun h => by cases h⟩
 rw [decide_eq_false h2, cond_false]
 have key1 := for_all (L := s_greenbeltref16_Few_L1 p) (s := (0 : Int)) (fun i a => a = (i : Int) ∧ ∀ j, j < i → cnt (p.Defs.getD j default).Body ≤ 60) (fun t => match t with | .inl r => r = false | .inr _ => ∀ j, j < p.Defs.length → cnt (p.Defs.getD j default).Body ≤ 60) p.Defs.length (by omega) ⟨rfl, fun j hj => by omega⟩ (fun K i a h hi => ?_) (fun K a h => ?_)
 ·have key2 := for_all (L := s_greenbeltref16_Few_L2 p) (s := (0 : Int)) (fun i a => a = (i : Int) ∧ ∀ j, j < i → cnt (p.Rules.getD j default).Test ≤ 60) (fun t => match t with | .inl r => r = false | .inr _ => ∀ j, j < p.Rules.length → cnt (p.Rules.getD j default).Test ≤ 60) p.Rules.length (by omega) ⟨rfl, fun j hj => by omega⟩ (fun K i a h hi => ?_) (fun K a h => ?_)
  ·obtain ⟨t1, g1, g2⟩ := key1
   obtain ⟨t2, k1, k2⟩ := key2
   rw [g1, Option.bind_some]
   cases t1 with
   | inl r => dsimp only at g2; subst g2; exact ⟨false, rfl, fun h => by cases h⟩
   | inr u =>
    dsimp only at g2 ⊢
    rw [k1, Option.bind_some]
    cases t2 with
    | inl r => dsimp only at k2; subst k2; exact ⟨false, rfl, fun h => by cases h⟩
    | inr u =>
     dsimp only at k2 ⊢
     refine ⟨true, rfl, fun _ => ⟨by omega, by omega, fun d hd => ?_, fun d hd => ?_, hb.keyD, hb.keyR⟩⟩
     ·obtain ⟨j, hj, rfl⟩ := mem_getD hd; exact g2 j hj
     ·obtain ⟨j, hj, rfl⟩ := mem_getD hd; exact k2 j hj
  ·obtain ⟨rfl, h⟩ := h
   have hc := hb.test _ (getD_mem hi)
   rw [s_greenbeltref16_Few_L2, decide_eq_true (by omega), cond_true, idx_of hi, Option.bind_some, size_is _ _ KK (Nat.le_refl _) hc (by have := KK_big; omega), Option.bind_some, w64_succ hi (by omega)]
   by_cases hs : (cnt (p.Rules.getD i default).Test : Int) > 60
   ·rw [decide_eq_true hs, cond_true]; exact .inl ⟨_, rfl, rfl⟩
   ·rw [decide_eq_false hs, cond_false]
    refine .inr ⟨_, ⟨rfl, fun j hj => ?_⟩, rfl⟩
    by_cases e : j = i
    ·subst e; omega
    ·exact h j (by omega)
  ·obtain ⟨rfl, h⟩ := h
   exact ⟨.inr (), by rw [s_greenbeltref16_Few_L2, decide_eq_false (by omega), cond_false], h⟩
 ·obtain ⟨rfl, h⟩ := h
  have hc := hb.body _ (getD_mem hi)
  rw [s_greenbeltref16_Few_L1, decide_eq_true (by omega), cond_true, idx_of hi, Option.bind_some, size_is _ _ KK (Nat.le_refl _) hc (by have := KK_big; omega), Option.bind_some, w64_succ hi (by omega)]
  by_cases hs : (cnt (p.Defs.getD i default).Body : Int) > 60
  ·rw [decide_eq_true hs, cond_true, Option.bind_some, cond_true]; exact .inl ⟨_, rfl, rfl⟩
  ·rw [decide_eq_false hs, cond_false, Option.bind_some, Option.bind_some]
   by_cases hn : (((p.Defs.getD i default).Name.length : Nat) : Int) > 100
   ·rw [decide_eq_true hn, cond_true]; exact .inl ⟨_, rfl, rfl⟩
   ·rw [decide_eq_false hn, cond_false]
    refine .inr ⟨_, ⟨rfl, fun j hj => ?_⟩, rfl⟩
    by_cases e : j = i
    ·subst e; omega
    ·exact h j (by omega)
 ·obtain ⟨rfl, h⟩ := h
  exact ⟨.inr (), by rw [s_greenbeltref16_Few_L1, decide_eq_false (by omega), cond_false], h⟩
theorem lhas_is {l : List Nm} {s : Nm} (hl : l.length < 2 ^ 62) : s_greenbeltlaw16_has l s = some (decide (s ∈ l)) := by
 have key := for_all (L := s_greenbeltlaw16_has_L1 l s) (s := (0 : Int)) (fun i a => a = (i : Int) ∧ ∀ j, j < i → l.getD j default ≠ s)
  (fun t => match t with | .inl r => r = true ∧ s ∈ l | .inr _ => s ∉ l) l.length (by omega) ⟨rfl, fun j hj => by omega⟩ (fun K i a h hi => ?_) (fun K a h => ?_)
 ·obtain ⟨t, h1, h2⟩ := key
  unfold s_greenbeltlaw16_has
  rw [h1, Option.bind_some]
  cases t with
  | inl r => dsimp only at h2 ⊢; rw [h2.1, decide_eq_true h2.2]
  | inr u => dsimp only at h2 ⊢; rw [decide_eq_false h2]
 ·obtain ⟨rfl, h⟩ := h
  rw [s_greenbeltlaw16_has_L1, decide_eq_true (by omega), cond_true, idx_of hi, Option.bind_some, w64_succ hi (by omega)]
  by_cases e : l.getD i default = s
  ·rw [decide_eq_true e, cond_true]
   refine .inl ⟨.inl true, rfl, ?_⟩
   dsimp only
   exact ⟨rfl, by rw [← e]; exact getD_mem hi⟩
  ·rw [decide_eq_false e, cond_false]
   refine .inr ⟨_, ⟨rfl, fun j hj => ?_⟩, rfl⟩
   by_cases hji : j = i
   ·subst hji; exact e
   ·exact h j (by omega)
 ·obtain ⟨rfl, h⟩ := h
  refine ⟨.inr (), by rw [s_greenbeltlaw16_has_L1, decide_eq_false (by omega), cond_false], ?_⟩
  dsimp only
  exact fun hm => by obtain ⟨j, hj, e⟩ := mem_getD hm; exact h j hj e.symm
theorem used_L2 {y out : List Nm} (hy : y.length ≤ 1000) (ho : out.length ≤ 1000000) (hn : out.Nodup) : ∃ r, s_greenbeltlaw16_used_L2 y KK (0, out) = some r ∧ r.Nodup ∧ (∀ x, x ∈ r ↔ x ∈ out ∨ x ∈ y) ∧ r.length ≤ out.length + y.length := by
 refine for_all (L := s_greenbeltlaw16_used_L2 y) (s := ((0 : Int), out)) (fun i q => q.1 = (i : Int) ∧ q.2.Nodup ∧ (∀ x, x ∈ q.2 ↔ x ∈ out ∨ x ∈ y.take i) ∧ q.2.length ≤ out.length + i) (fun r => r.Nodup ∧ (∀ x, x ∈ r ↔ x ∈ out ∨ x ∈ y) ∧ r.length ≤ out.length + y.length) y.length (by omega) ⟨rfl, hn, fun x => by simp, Nat.le_refl _⟩ (fun K i q h hi => .inr ?_) (fun K q h => ?_)
 ·obtain ⟨a, o⟩ := q
  obtain ⟨e1, h1, h2, h3⟩ := h
  dsimp only at e1 h1 h2 h3; subst e1
  rw [s_greenbeltlaw16_used_L2, decide_eq_true (by dsimp only; omega), cond_true, idx_of hi, Option.bind_some]
  dsimp only
  rw [lhas_is (by omega), Option.bind_some, w64_succ hi (by omega)]
  by_cases e : y.getD i default ∈ o
  ·rw [decide_eq_true e, Bool.not_true, cond_false, Option.bind_some]
   refine ⟨_, ⟨rfl, h1, fun x => ?_, by dsimp only; omega⟩, rfl⟩
   dsimp only
   rw [h2, take_snoc hi, List.mem_append, List.mem_singleton]
   constructor
   ·rintro (h | h)
    ·exact .inl h
    ·exact .inr (.inl h)
   ·rintro (h | h | rfl)
    ·exact .inl h
    ·exact .inr h
    ·exact (h2 _).1 e
  ·rw [decide_eq_false e, Bool.not_false, cond_true, Option.bind_some, grd_of (by rw [List.length_append, List.length_singleton]; omega), Option.bind_some, Option.bind_some]
   refine ⟨_, ⟨rfl, List.nodup_append.2 ⟨h1, by simp, fun a ha b hb => by simp only [List.mem_singleton] at hb; subst hb; intro e'; subst e'; exact e ha⟩, fun x => ?_, by dsimp only; rw [List.length_append, List.length_singleton]; omega⟩, rfl⟩
   dsimp only
   rw [List.mem_append, List.mem_singleton, h2, take_snoc hi, List.mem_append, List.mem_singleton, or_assoc]
 ·obtain ⟨a, o⟩ := q
  obtain ⟨e1, h1, h2, h3⟩ := h
  dsimp only at e1 h1 h2 h3; subst e1
  rw [List.take_length] at h2
  exact ⟨o, by rw [s_greenbeltlaw16_used_L2, decide_eq_false (by simp), cond_false], h1, h2, h3⟩
theorem used_is {p : Plan} (hp : Small p) {l : List Nm} (hl : l.length ≤ 1000000) : ∃ r, s_greenbeltlaw16_used p l = some r ∧ r.Nodup ∧ (∀ x, x ∈ r ↔ ∃ s ∈ l, Use1 p.Defs s x) ∧ r.length ≤ 1200 := by
 have hN := hp.defs
 have key := for_all (L := s_greenbeltlaw16_used_L1 p l) (s := ((0 : Int), ([] : List Nm))) (fun i q => q.1 = (i : Int) ∧ q.2.Nodup ∧ (∀ x, x ∈ q.2 ↔ ∃ s ∈ l, Use1 (p.Defs.take i) s x) ∧ q.2.length ≤ 60 * i) (fun r => r.Nodup ∧ (∀ x, x ∈ r ↔ ∃ s ∈ l, Use1 p.Defs s x) ∧ r.length ≤ 1200) p.Defs.length (by omega) ⟨rfl, List.nodup_nil, fun x => by simp [Use1], by simp⟩ (fun K i q h hi => .inr ?_) (fun K q h => ?_)
 ·obtain ⟨r, h1, h2⟩ := key
  refine ⟨r, ?_, h2⟩
  unfold s_greenbeltlaw16_used
  rw [h1, Option.bind_some]
 ·obtain ⟨a, o⟩ := q
  obtain ⟨e1, h1, h2, h3⟩ := h
  dsimp only at e1 h1 h2 h3; subst e1
  have hx := getD_mem hi
  have hu : ∀ s x, Use1 (p.Defs.take (i + 1)) s x ↔ Use1 (p.Defs.take i) s x ∨ ((p.Defs.getD i default).Name = s ∧ x ∈ namesL (p.Defs.getD i default).Body) := fun s x => by
   unfold Use1
   rw [take_snoc hi]
   constructor
   ·rintro ⟨d, h1, h2, h3⟩
    rcases List.mem_append.1 h1 with h1 | h1
    ·exact .inl ⟨d, h1, h2, h3⟩
    ·rw [List.mem_singleton.1 h1] at h2 h3; exact .inr ⟨h2, h3⟩
   ·rintro (⟨d, h1, h2, h3⟩ | ⟨h2, h3⟩)
    ·exact ⟨d, List.mem_append_left _ h1, h2, h3⟩
    ·exact ⟨_, List.mem_append_right _ (List.mem_singleton.2 rfl), h2, h3⟩
  rw [s_greenbeltlaw16_used_L1, decide_eq_true (by dsimp only; omega), cond_true, idx_of hi, Option.bind_some, lhas_is (by omega), Option.bind_some]
  dsimp only
  rw [w64_succ hi (by omega)]
  by_cases e : (p.Defs.getD i default).Name ∈ l
  ·rw [decide_eq_true e, Bool.not_true, cond_false, Option.bind_some, sNames hp hi, Option.bind_some]
   have hnl : (namesV (p.Defs.getD i default).Body).length ≤ 60 := by
    have := hp.body _ hx; have := names_le (p.Defs.getD i default).Body; have := len_namesV (p.Defs.getD i default).Body; omega
   obtain ⟨r, g1, g2, g3, g4⟩ := used_L2 (y := namesV (p.Defs.getD i default).Body) (out := o) (by omega) (by omega) h1
   rw [g1, Option.bind_some, Option.bind_some]
   refine ⟨_, ⟨rfl, g2, fun x => ?_, by dsimp only; omega⟩, rfl⟩
   dsimp only
   rw [g3, h2, mem_namesV]
   constructor
   ·rintro (⟨s, h5, h6⟩ | h)
    ·exact ⟨s, h5, (hu s x).2 (.inl h6)⟩
    ·exact ⟨_, e, (hu _ x).2 (.inr ⟨rfl, h⟩)⟩
   ·rintro ⟨s, h5, h6⟩
    rcases (hu s x).1 h6 with h6 | ⟨_, h6⟩
    ·exact .inl ⟨s, h5, h6⟩
    ·exact .inr h6
  ·rw [decide_eq_false e, Bool.not_false, cond_true, Option.bind_some]
   refine ⟨_, ⟨rfl, h1, fun x => ?_, by dsimp only; omega⟩, rfl⟩
   dsimp only
   rw [h2]
   constructor
   ·rintro ⟨s, h5, h6⟩; exact ⟨s, h5, (hu s x).2 (.inl h6)⟩
   ·rintro ⟨s, h5, h6⟩
    rcases (hu s x).1 h6 with h6 | ⟨rfl, _⟩
    ·exact ⟨s, h5, h6⟩
    ·exact absurd h5 e
 ·obtain ⟨a, o⟩ := q
  obtain ⟨e1, h1, h2, h3⟩ := h
  dsimp only at e1 h1 h2 h3; subst e1
  rw [List.take_length] at h2
  exact ⟨o, by rw [s_greenbeltlaw16_used_L1, decide_eq_false (by simp), cond_false], h1, h2, by omega⟩
end Go.Proofs.Ytconjkgifdfhdaa
