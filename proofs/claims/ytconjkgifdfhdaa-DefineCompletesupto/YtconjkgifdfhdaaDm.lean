/- Unknown of the reference; bounds; the law's small functions. -/
import Derived.Test.YtconjkgifdfhdaaDl
set_option linter.all false
set_option maxRecDepth 100000
namespace Go.Proofs.Ytconjkgifdfhdaa
open Go Go.RowKit Go.Eng Go.EV Go.Grf
variable [Fuel]
theorem take_snoc {α : Type} [Inhabited α] {l : List α} {i : Nat} (hi : i < l.length) : l.take (i + 1) = l.take i ++ [l.getD i default] := by rw [getD_of hi, List.take_append_getElem]
theorem refUnknown_gen {p : Plan} (hp : Small p) : ∃ r, s_greenbeltref16_Unknown p = some r ∧ asc r ∧ ∀ x, x ∈ r ↔ Unk p x := by
 have hd := hp.defs
 have hr := hp.rules
 have hb : ∀ i, i < p.Defs.length → (namesV (p.Defs.getD i default).Body).length ≤ 60 := fun i hi => by
  have := hp.body _ (getD_mem hi); have := names_le (p.Defs.getD i default).Body; have := len_namesV (p.Defs.getD i default).Body; omega
 have hb2 : ∀ i, i < p.Rules.length → (namesV (p.Rules.getD i default).Test).length ≤ 60 := fun i hi => by
  have := hp.test _ (getD_mem hi); have := names_le (p.Rules.getD i default).Test; have := len_namesV (p.Rules.getD i default).Test; omega
 obtain ⟨⟨kn, al⟩, a1, a2, a3, a4, a5⟩ := for_all (L := s_greenbeltref16_Unknown_L1 p) (s := ((0 : Int), measL, ([] : List Nm))) (fun i q => q.1 = (i : Int) ∧ (∀ x, x ∈ q.2.1 ↔ x ∈ measL ∨ ∃ d ∈ p.Defs.take i, d.Name = x) ∧ q.2.1.length = 9 + i ∧ (∀ x, x ∈ q.2.2 ↔ ∃ d ∈ p.Defs.take i, x ∈ namesL d.Body) ∧ q.2.2.length ≤ 60 * i)
  (fun r => (∀ x, x ∈ r.1 ↔ x ∈ measL ∨ ∃ d ∈ p.Defs, d.Name = x) ∧ r.1.length ≤ 100 ∧ (∀ x, x ∈ r.2 ↔ ∃ d ∈ p.Defs, x ∈ namesL d.Body) ∧ r.2.length ≤ 1200) p.Defs.length (by omega) ⟨rfl, fun x => by simp, rfl, fun x => by simp, by simp⟩ (fun K i q h hi => .inr (by
   obtain ⟨a, kn, al⟩ := q
   obtain ⟨e1, h1, h2, h3, h4⟩ := h
   dsimp only at e1 h1 h2 h3 h4; subst e1
   have := hp.body _ (getD_mem hi)
   have := hb i hi
   rw [s_greenbeltref16_Unknown_L1, decide_eq_true (by dsimp only; omega), cond_true, idx_of hi, Option.bind_some]
   dsimp only
   rw [grd_of (by rw [List.length_append, List.length_singleton]; omega), Option.bind_some, Option.bind_some, rnames (by omega), Option.bind_some, grd_of (by rw [List.length_append]; omega), Option.bind_some, w64_succ hi (by omega)]
   refine ⟨_, ⟨rfl, fun x => ?_, by dsimp only; rw [List.length_append, List.length_singleton]; omega, fun x => ?_, by dsimp only; rw [List.length_append]; omega⟩, rfl⟩
   ·dsimp only
    rw [List.mem_append, List.mem_singleton, h1, take_snoc hi]
    constructor
    ·rintro ((h | ⟨d, h5, h6⟩) | rfl)
     ·exact .inl h
     ·exact .inr ⟨d, List.mem_append_left _ h5, h6⟩
     ·exact .inr ⟨_, List.mem_append_right _ (List.mem_singleton.2 rfl), rfl⟩
    ·rintro (h | ⟨d, h5, h6⟩)
     ·exact .inl (.inl h)
     ·rcases List.mem_append.1 h5 with h5 | h5
      ·exact .inl (.inr ⟨d, h5, h6⟩)
      ·rw [List.mem_singleton.1 h5] at h6; exact .inr h6.symm
   ·dsimp only
    rw [List.mem_append, h3, mem_namesV, take_snoc hi]
    constructor
    ·rintro (⟨d, h5, h6⟩ | h)
     ·exact ⟨d, List.mem_append_left _ h5, h6⟩
     ·exact ⟨_, List.mem_append_right _ (List.mem_singleton.2 rfl), h⟩
    ·rintro ⟨d, h5, h6⟩
     rcases List.mem_append.1 h5 with h5 | h5
     ·exact .inl ⟨d, h5, h6⟩
     ·rw [List.mem_singleton.1 h5] at h6; exact .inr h6)) (fun K q h => by
   obtain ⟨a, kn, al⟩ := q
   obtain ⟨e1, h1, h2, h3, h4⟩ := h
   dsimp only at e1 h1 h2 h3 h4; subst e1
   rw [List.take_length] at h1 h3
   exact ⟨(kn, al), by rw [s_greenbeltref16_Unknown_L1, decide_eq_false (by simp), cond_false], h1, by dsimp only; omega, h3, by dsimp only; omega⟩)
 dsimp only at a2 a3 a4 a5
 obtain ⟨al2, b1, b2, b3⟩ := for_all (L := s_greenbeltref16_Unknown_L2 p) (s := ((0 : Int), al)) (fun i q => q.1 = (i : Int) ∧ (∀ x, x ∈ q.2 ↔ (∃ d ∈ p.Defs, x ∈ namesL d.Body) ∨ ∃ d ∈ p.Rules.take i, x ∈ namesL d.Test) ∧ q.2.length ≤ 1200 + 60 * i)
  (fun r => (∀ x, x ∈ r ↔ (∃ d ∈ p.Defs, x ∈ namesL d.Body) ∨ ∃ d ∈ p.Rules, x ∈ namesL d.Test) ∧ r.length ≤ 2400) p.Rules.length (by omega) ⟨rfl, fun x => by simp [a4 x], by simpa using a5⟩ (fun K i q h hi => .inr (by
   obtain ⟨a, al⟩ := q
   obtain ⟨e1, h3, h4⟩ := h
   dsimp only at e1 h3 h4; subst e1
   have := hp.test _ (getD_mem hi)
   have := hb2 i hi
   rw [s_greenbeltref16_Unknown_L2, decide_eq_true (by dsimp only; omega), cond_true, idx_of hi, Option.bind_some]
   dsimp only
   rw [rnames (by omega), Option.bind_some, grd_of (by rw [List.length_append]; omega), Option.bind_some, w64_succ hi (by omega)]
   refine ⟨_, ⟨rfl, fun x => ?_, by dsimp only; rw [List.length_append]; omega⟩, rfl⟩
   dsimp only
   rw [List.mem_append, h3, mem_namesV, take_snoc hi]
   constructor
   ·rintro ((h | ⟨d, h5, h6⟩) | h)
    ·exact .inl h
    ·exact .inr ⟨d, List.mem_append_left _ h5, h6⟩
    ·exact .inr ⟨_, List.mem_append_right _ (List.mem_singleton.2 rfl), h⟩
   ·rintro (h | ⟨d, h5, h6⟩)
    ·exact .inl (.inl h)
    ·rcases List.mem_append.1 h5 with h5 | h5
     ·exact .inl (.inr ⟨d, h5, h6⟩)
     ·rw [List.mem_singleton.1 h5] at h6; exact .inr h6)) (fun K q h => by
   obtain ⟨a, al⟩ := q
   obtain ⟨e1, h3, h4⟩ := h
   dsimp only at e1 h3 h4; subst e1
   rw [List.take_length] at h3
   exact ⟨al, by rw [s_greenbeltref16_Unknown_L2, decide_eq_false (by simp), cond_false], h3, by omega⟩)
 obtain ⟨out, c1, c2, c3⟩ := for_all (L := s_greenbeltref16_Unknown_L3 (kn, al) al2) (s := (([] : List Nm), (0 : Int))) (fun i q => q.2 = (i : Int) ∧ asc q.1 ∧ (∀ x, x ∈ q.1 ↔ x ∈ al2.take i ∧ x ∉ kn) ∧ q.1.length ≤ i)
  (fun r => asc r ∧ ∀ x, x ∈ r ↔ x ∈ al2 ∧ x ∉ kn) al2.length (by omega) ⟨rfl, List.Pairwise.nil, fun x => by simp, Nat.le_refl _⟩ (fun K i q h hi => .inr (by
   obtain ⟨o, a⟩ := q
   obtain ⟨e1, h1, h2, h3⟩ := h
   dsimp only at e1 h1 h2 h3; subst e1
   rw [s_greenbeltref16_Unknown_L3, decide_eq_true (by dsimp only; omega), cond_true]
   dsimp only
   rw [grd_of ⟨by omega, by omega⟩, Option.bind_some, Option.bind_some, toNat_nat, has_is (by omega), Option.bind_some, w64_succ hi (by omega)]
   by_cases e : al2.getD i default ∈ kn
   ·rw [decide_eq_true e, Bool.not_true, cond_false, Option.bind_some]
    refine ⟨_, ⟨rfl, h1, fun x => ?_, by dsimp only; omega⟩, rfl⟩
    dsimp only
    rw [h2, take_snoc hi, List.mem_append, List.mem_singleton]
    constructor
    ·rintro ⟨h5, h6⟩; exact ⟨.inl h5, h6⟩
    ·rintro ⟨h5 | rfl, h6⟩
     ·exact ⟨h5, h6⟩
     ·exact absurd e h6
   ·rw [decide_eq_false e, Bool.not_false, cond_true, Option.bind_some, Option.bind_some, s_With (by omega), Option.bind_some, Option.bind_some]
    refine ⟨_, ⟨rfl, insV_asc h1, fun x => ?_, by dsimp only; have := insV_len (al2.getD i default) o; omega⟩, rfl⟩
    dsimp only
    rw [insV_mem, h2, take_snoc hi, List.mem_append, List.mem_singleton]
    constructor
    ·rintro (⟨h5, h6⟩ | rfl)
     ·exact ⟨.inl h5, h6⟩
     ·exact ⟨.inr rfl, e⟩
    ·rintro ⟨h5 | rfl, h6⟩
     ·exact .inl ⟨h5, h6⟩
     ·exact .inr rfl)) (fun K q h => by
   obtain ⟨o, a⟩ := q
   obtain ⟨e1, h1, h2, h3⟩ := h
   dsimp only at e1 h1 h2 h3; subst e1
   rw [List.take_length] at h2
   exact ⟨o, by rw [s_greenbeltref16_Unknown_L3, decide_eq_false (by simp), cond_false], h1, h2⟩)
 refine ⟨out, ?_, c2, fun x => ?_⟩
 ·unfold s_greenbeltref16_Unknown
  rw [show s_greenbeltref16_Measures = some () from rfl, Option.bind_some]
  show ((s_greenbeltref16_Unknown_L1 p KK (0, measL, [])).bind _) = _
  rw [a1, Option.bind_some]
  dsimp only
  rw [b1, Option.bind_some, c1, Option.bind_some]
 ·rw [c3, b2, a2]
  unfold Unk
  constructor
  ·rintro ⟨h1, h2⟩
   exact ⟨h1, fun d hd e => h2 (.inr ⟨d, hd, e⟩), fun h => h2 (.inl h)⟩
  ·rintro ⟨h1, h2, h3⟩
   exact ⟨h1, fun h => h.elim h3 fun ⟨d, hd, e⟩ => h2 d hd e⟩
theorem unknown_same {p : Plan} (hp : Small p) : ∃ r, s_define_Unknown p = some r ∧ s_greenbeltref16_Unknown p = some r ∧ r.length ≤ 2400 := by
 obtain ⟨r, h1, h2, h3⟩ := Unknown_gen hp.pu
 obtain ⟨r', k1, k2, k3⟩ := refUnknown_gen hp
 have e : r = r' := asc_ext h2 k2 fun x => by rw [h3, k3]
 subst e
 refine ⟨r, h1, k1, ?_⟩
 have h5 := nodup_sub r ((Un p.Defs) ++ p.Rules.flatMap fun d => namesL d.Test) (asc_nodup h2) fun x hx => by
  obtain ⟨h | h, _⟩ := (h3 x).1 hx
  ·obtain ⟨d, h6, h7⟩ := h; exact List.mem_append_left _ (List.mem_flatMap.2 ⟨d, h6, h7⟩)
  ·obtain ⟨d, h6, h7⟩ := h; exact List.mem_append_right _ (List.mem_flatMap.2 ⟨d, h6, h7⟩)
 rw [List.length_append] at h5
 have h6 := flat_len (f := fun d : Rule => namesL d.Test) (b := 60) p.Rules fun d hd => Nat.le_trans (names_le _) (hp.test d hd)
 have := hp.un
 have := hp.rules
 omega
theorem size_is : ∀ (n : Nat) (e : Expr) (K : Nat), cnt e ≤ n → n ≤ 1000000000 → n < K → s_greenbeltref16_Size K e = some (cnt e : Int)
 | 0, e, K, h, _, _ => by have := cnt_pos e; omega
 | n + 1, e, K, h, hn, hK => by
  obtain ⟨K, rfl⟩ : ∃ K', K = K' + 1 := ⟨K - 1, by omega⟩
  have hc := cnt_eq e
  have hl := len_cnts e.Args
  have key := for_all (L := s_greenbeltref16_Size_L1 (s_greenbeltref16_Size K) e) (s := ((1 : Int), (0 : Int))) (fun i q => q.2 = (i : Int) ∧ q.1 = ((cnts (e.Args.take i) + 1 : Nat) : Int)) (fun r => r = (cnt e : Int)) e.Args.length (by omega) ⟨rfl, by simp [cnts]⟩ (fun K' i q h hi => .inr (by
   obtain ⟨a, b⟩ := q
   obtain ⟨e1, e2⟩ := h
   dsimp only at e1 e2; subst e1 e2
   have hx := mem_cnts (getD_mem hi)
   have hs : cnts (e.Args.take (i + 1)) = cnts (e.Args.take i) + cnt (e.Args.getD i default) := by rw [take_snoc hi, cnts_app, cnts, cnts]; rfl
   have hle : cnts (e.Args.take (i + 1)) ≤ cnts e.Args := by
    have := cnts_app (e.Args.take (i + 1)) (e.Args.drop (i + 1))
    rw [List.take_append_drop] at this; omega
   rw [s_greenbeltref16_Size_L1, decide_eq_true (by dsimp only; omega), cond_true, idx_of hi, Option.bind_some, size_is n _ K (by omega) (by omega) (by omega), Option.bind_some, w64_succ hi (by omega)]
   dsimp only
   rw [w64_id (by omega) (by omega)]
   exact ⟨_, ⟨rfl, by rw [hs]; omega⟩, rfl⟩)) (fun K' q h => by
   obtain ⟨a, b⟩ := q
   obtain ⟨e1, e2⟩ := h
   dsimp only at e1 e2; subst e1 e2
   rw [List.take_length]
   exact ⟨_, by rw [s_greenbeltref16_Size_L1, decide_eq_false (by simp), cond_false], by rw [hc]⟩)
  obtain ⟨r, h1, rfl⟩ := key
  rw [s_greenbeltref16_Size, h1, Option.bind_some]
structure Bnd (p : Plan) : Prop where
 body : ∀ d ∈ p.Defs, cnt d.Body ≤ 1000000000
 test : ∀ d ∈ p.Rules, cnt d.Test ≤ 1000000000
 keyD : ∀ d ∈ p.Defs, ∀ k ∈ namesL d.Body, k.length ≤ 9223372036854775807
 keyR : ∀ d ∈ p.Rules, ∀ k ∈ namesL d.Test, k.length ≤ 9223372036854775807
theorem few_is {p : Plan} (hb : Bnd p) : ∃ b, s_greenbeltref16_Few p = some b ∧ (b = true → Small p) := by
 unfold s_greenbeltref16_Few
 by_cases h1 : (p.Defs.length : Int) > 20
 ·rw [decide_eq_true h1, cond_true, Option.bind_some, cond_true]; exact ⟨_, rfl, fun h => by cases h⟩
 rw [decide_eq_false h1, cond_false, Option.bind_some]
 by_cases h2 : (p.Rules.length : Int) > 20
 ·rw [decide_eq_true h2, cond_true]; exact ⟨_, rfl, fun h => by cases h⟩
 rw [decide_eq_false h2, cond_false]
 have key1 := for_all (L := s_greenbeltref16_Few_L1 p) (s := (0 : Int)) (fun i a => a = (i : Int) ∧ ∀ j, j < i → cnt (p.Defs.getD j default).Body ≤ 60) (fun t => match t with | .inl r => r = false | .inr _ => ∀ j, j < p.Defs.length → cnt (p.Defs.getD j default).Body ≤ 60) p.Defs.length (by omega) ⟨rfl, fun j hj => by omega⟩ (fun K i a h hi => ?_) (fun K a h => ?_)
 ·have key2 := for_all (L := s_greenbeltref16_Few_L2 p) (s := (0 : Int)) (fun i a => a = (i : Int) ∧ ∀ j, j < i → cnt (p.Rules.getD j default).Test ≤ 60) (fun t => match t with | .inl r => r = false | .inr _ => ∀ j, j < p.Rules.length → cnt (p.Rules.getD j default).Test ≤ 60) p.Rules.length (by omega) ⟨rfl, fun j hj => by omega⟩ (fun K i a h hi => ?_) (fun K a h => ?_)
  ·obtain ⟨t1, g1, g2⟩ := key1
   obtain ⟨t2, k1, k2⟩ := key2
   rw [g1, Option.bind_some]
   cases t1 with
   | inl r => dsimp only at g2; subst g2; exact ⟨false, rfl, fun h => by cases h⟩
   | inr u =>
    dsimp only at g2 ⊢
    rw [k1, Option.bind_some]
    cases t2 with
    | inl r => dsimp only at k2; subst k2; exact ⟨false, rfl, fun h => by cases h⟩
    | inr u =>
     dsimp only at k2 ⊢
     refine ⟨true, rfl, fun _ => ⟨by omega, by omega, fun d hd => ?_, fun d hd => ?_, hb.keyD, hb.keyR⟩⟩
     ·obtain ⟨j, hj, rfl⟩ := mem_getD hd; exact g2 j hj
     ·obtain ⟨j, hj, rfl⟩ := mem_getD hd; exact k2 j hj
  ·obtain ⟨rfl, h⟩ := h
   have hc := hb.test _ (getD_mem hi)
   rw [s_greenbeltref16_Few_L2, decide_eq_true (by omega), cond_true, idx_of hi, Option.bind_some, size_is _ _ KK (Nat.le_refl _) hc (by have := KK_big; omega), Option.bind_some, w64_succ hi (by omega)]
   by_cases hs : (cnt (p.Rules.getD i default).Test : Int) > 60
   ·rw [decide_eq_true hs, cond_true]; exact .inl ⟨_, rfl, rfl⟩
   ·rw [decide_eq_false hs, cond_false]
    refine .inr ⟨_, ⟨rfl, fun j hj => ?_⟩, rfl⟩
    by_cases e : j = i
    ·subst e; omega
    ·exact h j (by omega)
  ·obtain ⟨rfl, h⟩ := h
   exact ⟨.inr (), by rw [s_greenbeltref16_Few_L2, decide_eq_false (by omega), cond_false], h⟩
 ·obtain ⟨rfl, h⟩ := h
  have hc := hb.body _ (getD_mem hi)
  rw [s_greenbeltref16_Few_L1, decide_eq_true (by omega), cond_true, idx_of hi, Option.bind_some, size_is _ _ KK (Nat.le_refl _) hc (by have := KK_big; omega), Option.bind_some, w64_succ hi (by omega)]
  by_cases hs : (cnt (p.Defs.getD i default).Body : Int) > 60
  ·rw [decide_eq_true hs, cond_true, Option.bind_some, cond_true]; exact .inl ⟨_, rfl, rfl⟩
  ·rw [decide_eq_false hs, cond_false, Option.bind_some, Option.bind_some]
   by_cases hn : (((p.Defs.getD i default).Name.length : Nat) : Int) > 100
   ·rw [decide_eq_true hn, cond_true]; exact .inl ⟨_, rfl, rfl⟩
   ·rw [decide_eq_false hn, cond_false]
    refine .inr ⟨_, ⟨rfl, fun j hj => ?_⟩, rfl⟩
    by_cases e : j = i
    ·subst e; omega
    ·exact h j (by omega)
 ·obtain ⟨rfl, h⟩ := h
  exact ⟨.inr (), by rw [s_greenbeltref16_Few_L1, decide_eq_false (by omega), cond_false], h⟩
theorem lhas_is {l : List Nm} {s : Nm} (hl : l.length < 2 ^ 62) : s_greenbeltlaw16_has l s = some (decide (s ∈ l)) := by
 have key := for_all (L := s_greenbeltlaw16_has_L1 l s) (s := (0 : Int)) (fun i a => a = (i : Int) ∧ ∀ j, j < i → l.getD j default ≠ s)
  (fun t => match t with | .inl r => r = true ∧ s ∈ l | .inr _ => s ∉ l) l.length (by omega) ⟨rfl, fun j hj => by omega⟩ (fun K i a h hi => ?_) (fun K a h => ?_)
 ·obtain ⟨t, h1, h2⟩ := key
  unfold s_greenbeltlaw16_has
  rw [h1, Option.bind_some]
  cases t with
  | inl r => dsimp only at h2 ⊢; rw [h2.1, decide_eq_true h2.2]
  | inr u => dsimp only at h2 ⊢; rw [decide_eq_false h2]
 ·obtain ⟨rfl, h⟩ := h
  rw [s_greenbeltlaw16_has_L1, decide_eq_true (by omega), cond_true, idx_of hi, Option.bind_some, w64_succ hi (by omega)]
  by_cases e : l.getD i default = s
  ·rw [decide_eq_true e, cond_true]
   refine .inl ⟨.inl true, rfl, ?_⟩
   dsimp only
   exact ⟨rfl, by rw [← e]; exact getD_mem hi⟩
  ·rw [decide_eq_false e, cond_false]
   refine .inr ⟨_, ⟨rfl, fun j hj => ?_⟩, rfl⟩
   by_cases hji : j = i
   ·subst hji; exact e
   ·exact h j (by omega)
 ·obtain ⟨rfl, h⟩ := h
  refine ⟨.inr (), by rw [s_greenbeltlaw16_has_L1, decide_eq_false (by omega), cond_false], ?_⟩
  dsimp only
  exact fun hm => by obtain ⟨j, hj, e⟩ := mem_getD hm; exact h j hj e.symm
end Go.Proofs.Ytconjkgifdfhdaa
