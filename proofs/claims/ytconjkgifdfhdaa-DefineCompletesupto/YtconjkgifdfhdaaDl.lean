/- Reaches of the reference, Unknown of both; the law's small functions. -/
import Derived.Test.YtconjkgifdfhdaaDk
set_option linter.all false
set_option maxRecDepth 100000
namespace Go.Proofs.Ytconjkgifdfhdaa
open Go Go.RowKit Go.Eng Go.EV Go.Grf
variable [Fuel]
omit [Fuel] in
theorem flat_len {α : Type} {f : α → List Nm} {b : Nat} : ∀ l : List α, (∀ x ∈ l, (f x).length ≤ b) → (l.flatMap f).length ≤ l.length * b
 | [], _ => by simp
 | x :: l, h => by
  have h1 := h x (List.mem_cons_self ..)
  have h2 := flat_len l fun y hy => h y (List.mem_cons_of_mem _ hy)
  rw [List.flatMap_cons, List.length_append, List.length_cons, Nat.succ_mul]; omega
omit [Fuel] in
theorem Small.un {p : Plan} (h : Small p) : (Un p.Defs).length ≤ 1200 := by
 have := flat_len (f := fun d : Def => namesL d.Body) (b := 60) p.Defs fun d hd => Nat.le_trans (names_le _) (h.body d hd)
 have := h.defs
 unfold Un; omega
theorem sameTexts_is {a b : List Nm} (ha : a.length < 2 ^ 62) : s_greenbeltref01_SameTexts a b = some (decide (a = b)) := by
 unfold s_greenbeltref01_SameTexts
 by_cases hl : a.length = b.length
 ·rw [decide_eq_true (by omega), Bool.not_true, cond_false]
  have key := for_all (L := s_greenbeltref01_SameTexts_L1 a b) (s := (0 : Int)) (fun i q => q = (i : Int) ∧ ∀ j, j < i → a.getD j default = b.getD j default) (fun t => match t with | .inl r => r = false ∧ a ≠ b | .inr _ => a = b) a.length (by omega) ⟨rfl, fun j hj => by omega⟩ (fun K i q h hi => ?_) (fun K q h => ?_)
  ·obtain ⟨t, h1, h2⟩ := key
   rw [h1, Option.bind_some]
   cases t with
   | inl r => dsimp only at h2 ⊢; rw [h2.1, decide_eq_false h2.2]
   | inr u => dsimp only at h2 ⊢; rw [decide_eq_true h2]
  ·obtain ⟨rfl, h⟩ := h
   rw [s_greenbeltref01_SameTexts_L1, decide_eq_true (by omega), cond_true, idx_of hi, Option.bind_some, idx_of (by omega), Option.bind_some, w64_succ hi (by omega)]
   by_cases e : a.getD i default = b.getD i default
   ·rw [decide_eq_true e, Bool.not_true, cond_false]
    refine .inr ⟨_, ⟨rfl, fun j hj => ?_⟩, rfl⟩
    by_cases hji : j = i
    ·subst hji; exact e
    ·exact h j (by omega)
   ·rw [decide_eq_false e, Bool.not_false, cond_true]
    exact .inl ⟨_, rfl, rfl, fun h => e (by rw [h])⟩
  ·obtain ⟨rfl, h⟩ := h
   refine ⟨.inr (), by rw [s_greenbeltref01_SameTexts_L1, decide_eq_false (by omega), cond_false], ?_⟩
   dsimp only
   refine List.ext_getElem hl fun i h1 h2 => ?_
   have := h i h1
   rwa [getD_of h1, getD_of h2] at this
 ·rw [decide_eq_false (by omega), Bool.not_false, cond_true, decide_eq_false fun h => hl (by rw [h])]
theorem sameNums_is {a b : List Int} (ha : a.length < 2 ^ 62) : s_greenbeltref01_SameNums a b = some (decide (a = b)) := by
 unfold s_greenbeltref01_SameNums
 by_cases hl : a.length = b.length
 ·rw [decide_eq_true (by omega), Bool.not_true, cond_false]
  have key := for_all (L := s_greenbeltref01_SameNums_L1 a b) (s := (0 : Int)) (fun i q => q = (i : Int) ∧ ∀ j, j < i → a.getD j default = b.getD j default) (fun t => match t with | .inl r => r = false ∧ a ≠ b | .inr _ => a = b) a.length (by omega) ⟨rfl, fun j hj => by omega⟩ (fun K i q h hi => ?_) (fun K q h => ?_)
  ·obtain ⟨t, h1, h2⟩ := key
   rw [h1, Option.bind_some]
   cases t with
   | inl r => dsimp only at h2 ⊢; rw [h2.1, decide_eq_false h2.2]
   | inr u => dsimp only at h2 ⊢; rw [decide_eq_true h2]
  ·obtain ⟨rfl, h⟩ := h
   rw [s_greenbeltref01_SameNums_L1, decide_eq_true (by omega), cond_true, idx_of hi, Option.bind_some, idx_of (by omega), Option.bind_some, w64_succ hi (by omega)]
   by_cases e : a.getD i default = b.getD i default
   ·rw [decide_eq_true e, Bool.not_true, cond_false]
    refine .inr ⟨_, ⟨rfl, fun j hj => ?_⟩, rfl⟩
    by_cases hji : j = i
    ·subst hji; exact e
    ·exact h j (by omega)
   ·rw [decide_eq_false e, Bool.not_false, cond_true]
    exact .inl ⟨_, rfl, rfl, fun h => e (by rw [h])⟩
  ·obtain ⟨rfl, h⟩ := h
   refine ⟨.inr (), by rw [s_greenbeltref01_SameNums_L1, decide_eq_false (by omega), cond_false], ?_⟩
   dsimp only
   refine List.ext_getElem hl fun i h1 h2 => ?_
   have := h i h1
   rwa [getD_of h1, getD_of h2] at this
 ·rw [decide_eq_false (by omega), Bool.not_false, cond_true, decide_eq_false fun h => hl (by rw [h])]
theorem asc_nodup {l : List Nm} (h : asc l) : l.Nodup := List.Pairwise.imp (fun {a b} (hlt : a < b) (e : a = b) => by subst e; exact nm_irrefl _ hlt) h
structure RR (U : List Nm) (s : Nm) (out td : List Nm) : Prop where
 ha : asc out
 tl : ∃ t, td = s :: t ∧ (∀ x, x ∈ t ↔ x ∈ out) ∧ t.length = out.length
 sub : ∀ x ∈ out, x ∈ U
theorem RR.len {U : List Nm} {s : Nm} {out td : List Nm} (h : RR U s out td) : out.length ≤ U.length ∧ td.length = out.length + 1 := by
 obtain ⟨t, rfl, h1, h2⟩ := h.tl
 exact ⟨nodup_sub _ _ (asc_nodup h.ha) h.sub, by rw [List.length_cons, h2]⟩
omit [Fuel] in
theorem insV_new {s : Nm} {l : List Nm} (h : s ∉ l) : (insV s l).length = l.length + 1 := by
 unfold insV
 rw [if_neg h]
 have := congrArg List.length (List.takeWhile_append_dropWhile (p := fun x => decide (x < s)) (l := l))
 rw [List.length_append] at this
 rw [List.length_append, List.length_append, List.length_singleton]
 have : l.length + 1 = _ + 1 := congrArg (· + 1) this.symm
 refine Eq.trans ?_ this.symm
 rw [Nat.add_right_comm]
theorem RR.push {U : List Nm} {s x : Nm} {out td : List Nm} (h : RR U s out td) (hx : x ∈ U) (hn : x ∉ out) : RR U s (insV x out) (td ++ [x]) := by
 obtain ⟨t, rfl, h1, h2⟩ := h.tl
 refine ⟨insV_asc h.ha, ⟨t ++ [x], by simp, fun y => ?_, by rw [List.length_append, List.length_singleton, insV_new hn, h2]⟩, fun y hy => ?_⟩
 ·rw [List.mem_append, List.mem_singleton, insV_mem, h1]
 ·rcases insV_mem.1 hy with h3 | rfl
  ·exact h.sub y h3
  ·exact hx
def Unk (p : Plan) (x : Nm) : Prop := ((∃ d ∈ p.Defs, x ∈ namesL d.Body) ∨ ∃ r ∈ p.Rules, x ∈ namesL r.Test) ∧ (∀ d ∈ p.Defs, d.Name ≠ x) ∧ x ∉ measL
structure PU (p : Plan) : Prop where
 defs : p.Defs.length ≤ 5000
 rules : p.Rules.length ≤ 5000
 und : (Un p.Defs).length ≤ 1000000
 unr : (p.Rules.flatMap fun r => namesL r.Test).length ≤ 1000000
 keyD : ∀ d ∈ p.Defs, ∀ k ∈ namesL d.Body, k.length ≤ 9223372036854775807
 keyR : ∀ d ∈ p.Rules, ∀ k ∈ namesL d.Test, k.length ≤ 9223372036854775807
omit [Fuel] in
theorem mdel_keys {β : Type} (a : Nm) : ∀ l : List (Nm × β), (l.map (·.1)).Nodup → ((mdel a l).map (·.1)).Nodup ∧ (∀ x, x ∈ (mdel a l).map (·.1) ↔ x ∈ l.map (·.1) ∧ x ≠ a) ∧ (mdel a l).length ≤ l.length
 | [], _ => ⟨List.nodup_nil, fun x => by simp [mdel], Nat.le_refl _⟩
 | (k, c) :: r, h => by
  rw [List.map_cons, List.nodup_cons] at h
  obtain ⟨h1, h2, h3⟩ := mdel_keys a r h.2
  rw [mdel]
  by_cases e : a = k
  ·subst e
   rw [if_pos rfl]
   refine ⟨h.2, fun x => ?_, by simp⟩
   rw [List.map_cons, List.mem_cons]
   constructor
   ·intro hx; exact ⟨.inr hx, fun e => h.1 (e ▸ hx)⟩
   ·rintro ⟨rfl | hx, hne⟩
    ·exact absurd rfl hne
    ·exact hx
  ·rw [if_neg e]
   refine ⟨?_, fun x => ?_, by simpa using h3⟩
   ·rw [List.map_cons, List.nodup_cons]
    exact ⟨fun hx => h.1 ((h2 k).1 hx).1, h1⟩
   ·rw [List.map_cons, List.mem_cons, List.map_cons, List.mem_cons, h2]
    constructor
    ·rintro (rfl | ⟨hx, hne⟩)
     ·exact ⟨.inl rfl, fun h => e h.symm⟩
     ·exact ⟨.inr hx, hne⟩
    ·rintro ⟨rfl | hx, hne⟩
     ·exact .inl rfl
     ·exact .inr ⟨hx, hne⟩
theorem unk_L2 : ∀ (xs : List Nm) (m : List (Nm × Bool)), s_define_Unknown_L2 xs m = some (xs.foldl (fun m x => mset x true m) m)
 | [], m => rfl
 | x :: xs, m => by rw [s_define_Unknown_L2, unk_L2 xs]; rfl
theorem unk_L4 : ∀ (xs : List Nm) (m : List (Nm × Bool)), s_define_Unknown_L4 xs m = some (xs.foldl (fun m x => mset x true m) m)
 | [], m => rfl
 | x :: xs, m => by rw [s_define_Unknown_L4, unk_L4 xs]; rfl
theorem Unknown_gen {p : Plan} (hp : PU p) : ∃ r, s_define_Unknown p = some r ∧ asc r ∧ ∀ x, x ∈ r ↔ Unk p x := by
 have snoc : ∀ {α : Type} [Inhabited α] (l : List α) (f : α → List Nm) (i : Nat), i < l.length → ∀ x, (∃ d ∈ l.take (i + 1), x ∈ f d) ↔ (∃ d ∈ l.take i, x ∈ f d) ∨ x ∈ f (l.getD i default) := fun l f i hi x => by
  rw [show l.take (i + 1) = l.take i ++ [l.getD i default] by rw [getD_of hi, List.take_append_getElem]]
  constructor
  ·rintro ⟨d, h1, h2⟩
   rcases List.mem_append.1 h1 with h1 | h1
   ·exact .inl ⟨d, h1, h2⟩
   ·rw [List.mem_singleton.1 h1] at h2; exact .inr h2
  ·rintro (⟨d, h1, h2⟩ | h2)
   ·exact ⟨d, List.mem_append_left _ h1, h2⟩
   ·exact ⟨_, List.mem_append_right _ (List.mem_singleton.2 rfl), h2⟩
 have snocl : ∀ {α : Type} [Inhabited α] (l : List α) (f : α → List Nm) (i : Nat), i < l.length → ((l.take (i + 1)).flatMap f).length = ((l.take i).flatMap f).length + (f (l.getD i default)).length := fun l f i hi => by
  rw [show l.take (i + 1) = l.take i ++ [l.getD i default] by rw [getD_of hi, List.take_append_getElem], List.flatMap_append, List.length_append]; simp
 have hd := hp.defs
 have hr := hp.rules
 -- the definitions
 obtain ⟨v1, a1, a2, a3, a4⟩ := for_all (L := s_define_Unknown_L1 p) (s := ((0 : Int), ([] : List (Nm × Bool)))) (fun i q => q.1 = (i : Int) ∧ (q.2.map (·.1)).Nodup ∧ (∀ x, x ∈ q.2.map (·.1) ↔ ∃ d ∈ p.Defs.take i, x ∈ namesL d.Body) ∧ q.2.length ≤ ((p.Defs.take i).flatMap fun d => namesL d.Body).length)
  (fun v => (v.map (·.1)).Nodup ∧ (∀ x, x ∈ v.map (·.1) ↔ ∃ d ∈ p.Defs, x ∈ namesL d.Body) ∧ v.length ≤ (Un p.Defs).length) p.Defs.length (by omega) ⟨rfl, List.nodup_nil, fun x => by simp, by simp⟩ (fun K i q h hi => .inr (by
   obtain ⟨a, m⟩ := q
   obtain ⟨e1, h1, h2, h3⟩ := h
   dsimp only at e1 h1 h2 h3; subst e1
   rw [s_define_Unknown_L1, decide_eq_true (by dsimp only; omega), cond_true, idx_of hi, Option.bind_some]
   unfold s_define_names
   rw [Option.bind_some]
   dsimp only
   rw [expr_eta, unk_L2, Option.bind_some, w64_succ hi (by omega)]
   obtain ⟨k1, k2, k3⟩ := set_keys (namesL (p.Defs.getD i default).Body) m h1
   refine ⟨_, ⟨rfl, k1, fun x => ?_, ?_⟩, rfl⟩
   ·dsimp only
    rw [k2, h2, snoc p.Defs (fun d => namesL d.Body) i hi]
   ·dsimp only
    rw [snocl p.Defs (fun d => namesL d.Body) i hi]
    exact Nat.le_trans k3 (by omega))) (fun K q h => by
   obtain ⟨a, m⟩ := q
   obtain ⟨e1, h1, h2, h3⟩ := h
   dsimp only at e1 h1 h2 h3; subst e1
   rw [List.take_length] at h2 h3
   exact ⟨m, by rw [s_define_Unknown_L1, decide_eq_false (by simp), cond_false], h1, h2, h3⟩)
 obtain ⟨v3, b1, b2, b3, b4⟩ := for_all (L := s_define_Unknown_L3 p) (s := ((0 : Int), v1)) (fun i q => q.1 = (i : Int) ∧ (q.2.map (·.1)).Nodup ∧ (∀ x, x ∈ q.2.map (·.1) ↔ (∃ d ∈ p.Defs, x ∈ namesL d.Body) ∨ ∃ d ∈ p.Rules.take i, x ∈ namesL d.Test) ∧ q.2.length ≤ (Un p.Defs).length + ((p.Rules.take i).flatMap fun d => namesL d.Test).length)
  (fun v => (v.map (·.1)).Nodup ∧ (∀ x, x ∈ v.map (·.1) ↔ (∃ d ∈ p.Defs, x ∈ namesL d.Body) ∨ ∃ d ∈ p.Rules, x ∈ namesL d.Test) ∧ v.length ≤ 2000000) p.Rules.length (by omega) ⟨rfl, a2, fun x => by simp [a3 x], by simpa using a4⟩ (fun K i q h hi => .inr (by
   obtain ⟨a, m⟩ := q
   obtain ⟨e1, h1, h2, h3⟩ := h
   dsimp only at e1 h1 h2 h3; subst e1
   rw [s_define_Unknown_L3, decide_eq_true (by dsimp only; omega), cond_true, idx_of hi, Option.bind_some]
   unfold s_define_names
   rw [Option.bind_some]
   dsimp only
   rw [expr_eta, unk_L4, Option.bind_some, w64_succ hi (by omega)]
   obtain ⟨k1, k2, k3⟩ := set_keys (namesL (p.Rules.getD i default).Test) m h1
   refine ⟨_, ⟨rfl, k1, fun x => ?_, ?_⟩, rfl⟩
   ·dsimp only
    rw [k2, h2, snoc p.Rules (fun d => namesL d.Test) i hi, or_assoc]
   ·dsimp only
    rw [snocl p.Rules (fun d => namesL d.Test) i hi]
    exact Nat.le_trans k3 (by omega))) (fun K q h => by
   obtain ⟨a, m⟩ := q
   obtain ⟨e1, h1, h2, h3⟩ := h
   dsimp only at e1 h1 h2 h3; subst e1
   rw [List.take_length] at h2 h3
   have := hp.und; have := hp.unr
   exact ⟨m, by rw [s_define_Unknown_L3, decide_eq_false (by simp), cond_false], h1, h2, by omega⟩)
 obtain ⟨v5, c1, c2, c3, c4⟩ := for_all (L := s_define_Unknown_L5 p) (s := ((0 : Int), v3)) (fun i q => q.1 = (i : Int) ∧ (q.2.map (·.1)).Nodup ∧ (∀ x, x ∈ q.2.map (·.1) ↔ x ∈ v3.map (·.1) ∧ ∀ d ∈ p.Defs.take i, d.Name ≠ x) ∧ q.2.length ≤ v3.length)
  (fun v => (v.map (·.1)).Nodup ∧ (∀ x, x ∈ v.map (·.1) ↔ x ∈ v3.map (·.1) ∧ ∀ d ∈ p.Defs, d.Name ≠ x) ∧ v.length ≤ v3.length) p.Defs.length (by omega) ⟨rfl, b2, fun x => by simp, Nat.le_refl _⟩ (fun K i q h hi => .inr (by
   obtain ⟨a, m⟩ := q
   obtain ⟨e1, h1, h2, h3⟩ := h
   dsimp only at e1 h1 h2 h3; subst e1
   rw [s_define_Unknown_L5, decide_eq_true (by dsimp only; omega), cond_true, idx_of hi, Option.bind_some, w64_succ hi (by omega)]
   obtain ⟨k1, k2, k3⟩ := mdel_keys (p.Defs.getD i default).Name m h1
   refine ⟨_, ⟨rfl, k1, fun x => ?_, by dsimp only; omega⟩, rfl⟩
   dsimp only
   rw [k2, h2, show p.Defs.take (i + 1) = p.Defs.take i ++ [p.Defs.getD i default] by rw [getD_of hi, List.take_append_getElem]]
   constructor
   ·rintro ⟨⟨h5, h6⟩, h7⟩
    refine ⟨h5, fun d hd => ?_⟩
    rcases List.mem_append.1 hd with hd | hd
    ·exact h6 d hd
    ·rw [List.mem_singleton.1 hd]; exact Ne.symm h7
   ·rintro ⟨h5, h6⟩
    exact ⟨⟨h5, fun d hd => h6 d (List.mem_append_left _ hd)⟩, fun e => h6 _ (List.mem_append_right _ (List.mem_singleton.2 rfl)) e.symm⟩)) (fun K q h => by
   obtain ⟨a, m⟩ := q
   obtain ⟨e1, h1, h2, h3⟩ := h
   dsimp only at e1 h1 h2 h3; subst e1
   rw [List.take_length] at h2
   exact ⟨m, by rw [s_define_Unknown_L5, decide_eq_false (by simp), cond_false], h1, h2, h3⟩)
 obtain ⟨v6, d1, d2, d3, d4⟩ := for_all (L := s_define_Unknown_L6 measL) (s := ((0 : Int), v5)) (fun i q => q.1 = (i : Int) ∧ (q.2.map (·.1)).Nodup ∧ (∀ x, x ∈ q.2.map (·.1) ↔ x ∈ v5.map (·.1) ∧ x ∉ measL.take i) ∧ q.2.length ≤ v5.length)
  (fun v => (v.map (·.1)).Nodup ∧ (∀ x, x ∈ v.map (·.1) ↔ x ∈ v5.map (·.1) ∧ x ∉ measL) ∧ v.length ≤ v5.length) measL.length (by decide) ⟨rfl, c2, fun x => by simp, Nat.le_refl _⟩ (fun K i q h hi => .inr (by
   obtain ⟨a, m⟩ := q
   obtain ⟨e1, h1, h2, h3⟩ := h
   dsimp only at e1 h1 h2 h3; subst e1
   rw [s_define_Unknown_L6, decide_eq_true (by dsimp only; omega), cond_true, idx_of hi, Option.bind_some, w64_succ hi (by decide)]
   obtain ⟨k1, k2, k3⟩ := mdel_keys (measL.getD i default) m h1
   refine ⟨_, ⟨rfl, k1, fun x => ?_, by dsimp only; omega⟩, rfl⟩
   dsimp only
   rw [k2, h2, show measL.take (i + 1) = measL.take i ++ [measL.getD i default] by rw [getD_of hi, List.take_append_getElem], List.mem_append, List.mem_singleton, and_assoc]
   constructor
   ·rintro ⟨h5, h6, h7⟩; exact ⟨h5, fun h => h.elim h6 h7⟩
   ·rintro ⟨h5, h6⟩; exact ⟨h5, fun h => h6 (.inl h), fun h => h6 (.inr h)⟩)) (fun K q h => by
   obtain ⟨a, m⟩ := q
   obtain ⟨e1, h1, h2, h3⟩ := h
   dsimp only at e1 h1 h2 h3; subst e1
   rw [List.take_length] at h2
   exact ⟨m, by rw [s_define_Unknown_L6, decide_eq_false (by simp), cond_false], h1, h2, h3⟩)
 have hm : ∀ x, x ∈ v6.map (·.1) ↔ Unk p x := fun x => by
  rw [d3, c3, b3]; unfold Unk; rw [and_assoc]
 unfold s_define_Unknown s_maps_Keys
 rw [a1, Option.bind_some, b1, Option.bind_some, c1, Option.bind_some, show s_define_Measures = some measL from rfl, Option.bind_some, d1, Option.bind_some, Option.bind_some]
 rw [grd_of ⟨d2, fun k hk => by
  obtain ⟨h | h, _⟩ := (hm k).1 hk
  ·obtain ⟨d, h1, h2⟩ := h; exact hp.keyD d h1 k h2
  ·obtain ⟨d, h1, h2⟩ := h; exact hp.keyR d h1 k h2, by omega⟩, Option.bind_some]
 exact ⟨_, rfl, sortKeys_asc d2, fun x => by rw [mem_sortKeys, hm]⟩
omit [Fuel] in
theorem Small.pu {p : Plan} (h : Small p) : PU p := ⟨by have := h.defs; omega, by have := h.rules; omega, by have := h.un; omega, by
 have := flat_len (f := fun d : Rule => namesL d.Test) (b := 60) p.Rules fun d hd => Nat.le_trans (names_le _) (h.test d hd)
 have := h.rules
 omega, h.keyD, h.keyR⟩
end Go.Proofs.Ytconjkgifdfhdaa
