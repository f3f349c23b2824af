/- define.Reaches and define.Unknown: what they hold. -/
import Derived.Test.YtconjkgifdfhdaaDb
set_option linter.all false
set_option maxRecDepth 100000
namespace Go.Proofs.Ytconjkgifdfhdaa
open Go Go.RowKit Go.Eng Go.EV Go.Grf
theorem nodup_sub {α : Type} : ∀ (l m : List α), l.Nodup → (∀ x ∈ l, x ∈ m) → l.length ≤ m.length
 | [], m, _, _ => by simp
 | x :: l, m, hn, hs => by
  obtain ⟨h1, h2⟩ := List.nodup_cons.1 hn
  obtain ⟨a, b, rfl⟩ := List.append_of_mem (hs x (List.mem_cons_self ..))
  have := nodup_sub l (a ++ b) h2 fun y hy => by
   have h3 := hs y (List.mem_cons_of_mem _ hy)
   rw [List.mem_append, List.mem_cons] at h3
   rw [List.mem_append]
   rcases h3 with h3 | rfl | h3
   ·exact .inl h3
   ·exact absurd hy h1
   ·exact .inr h3
  rw [List.length_append] at this
  rw [List.length_cons, List.length_append, List.length_cons]; omega
theorem expr_eta (e : Expr) : Expr.mk e.Op e.N e.S e.Key e.Args = e := by cases e; rfl
def Use1 (l : List Def) (s x : Nm) : Prop := ∃ d ∈ l, d.Name = s ∧ x ∈ namesL d.Body
inductive Rch (l : List Def) (s : Nm) : Nm → Prop
 | base {x : Nm} (h : Use1 l s x) : Rch l s x
 | step {y x : Nm} (h : Rch l s y) (u : Use1 l y x) : Rch l s x
theorem Rch.head {l : List Def} {s y x : Nm} (u : Use1 l s y) (h : Rch l y x) : Rch l s x := by
 induction h with
 | base h => exact .step (.base u) h
 | step _ u' ih => exact .step ih u'
def Un (l : List Def) : List Nm := l.flatMap fun d => namesL d.Body
theorem use_un {l : List Def} {s x : Nm} (h : Use1 l s x) : x ∈ Un l := by
 obtain ⟨d, h1, _, h2⟩ := h
 exact List.mem_flatMap.2 ⟨d, h1, h2⟩
structure RI (U : List Nm) (td : List Nm) (m : List (Nm × Bool)) : Prop where
 nd : (m.map (·.1)).Nodup
 sub : ∀ x ∈ m.map (·.1), x ∈ U
 fnd : ∀ s, (mfind s m).getD false = true ↔ s ∈ m.map (·.1)
 len : td.length ≤ m.length + 1
theorem RI.le {U td : List Nm} {m : List (Nm × Bool)} (h : RI U td m) : m.length ≤ U.length := by
 have := nodup_sub _ _ h.nd h.sub
 rwa [List.length_map] at this
variable [Fuel]
theorem RI.push {U td : List Nm} {m : List (Nm × Bool)} {x : Nm} (h : RI U td m) (hx : x ∈ U) (hn : x ∉ m.map (·.1)) : RI U (td ++ [x]) (mset x true m) ∧ (mset x true m).length = m.length + 1 ∧ ∀ y, y ∈ (mset x true m).map (·.1) ↔ y ∈ m.map (·.1) ∨ y = x := by
 have hk := mset_keys x true m
 rw [if_neg hn] at hk
 have hl : (mset x true m).length = m.length + 1 := by
  have := congrArg List.length hk
  rw [List.length_map, List.length_append, List.length_map, List.length_singleton] at this
  exact this
 have hm : ∀ y, y ∈ (mset x true m).map (·.1) ↔ y ∈ m.map (·.1) ∨ y = x := fun y => by rw [hk, List.mem_append, List.mem_singleton]
 refine ⟨⟨?_, fun y hy => ?_, fun s => ?_, by rw [List.length_append, List.length_singleton, hl]; have := h.len; omega⟩, hl, hm⟩
 ·rw [hk]
  exact List.nodup_append.2 ⟨h.nd, by simp, fun a ha b hb => by simp at hb; subst hb; intro e; subst e; exact hn ha⟩
 ·rcases (hm y).1 hy with hy | rfl
  ·exact h.sub y hy
  ·exact hx
 ·rw [mfind_mset, hm]
  by_cases e : s = x
  ·rw [if_pos e]; simp [e]
  ·rw [if_neg e, h.fnd]; simp [e]
theorem reaches_L4 {U : List Nm} (hU : U.length ≤ 1000000) : ∀ (xs td : List Nm) (v : Nat) (m : List (Nm × Bool)), RI U td m → (∀ x ∈ xs, x ∈ U) →
  ∃ new v' m', s_define_Reaches_2_L4 xs (td, v, m) = some (td ++ new, v', m') ∧ RI U (td ++ new) m' ∧ (∀ x, x ∈ m'.map (·.1) ↔ x ∈ m.map (·.1) ∨ x ∈ xs) ∧ m'.length = m.length + new.length ∧ (∀ x ∈ new, x ∈ xs) ∧ ∀ x, x ∈ m'.map (·.1) ↔ x ∈ m.map (·.1) ∨ x ∈ new
 | [], td, v, m, h, _ => ⟨[], v, m, by rw [List.append_nil]; rfl, by rw [List.append_nil]; exact h, fun x => by simp, rfl, fun _ h => (by cases h), fun x => by simp⟩
 | x :: xs, td, v, m, h, hs => by
  have hx := hs x (List.mem_cons_self ..)
  have hs' : ∀ y ∈ xs, y ∈ U := fun y hy => hs y (List.mem_cons_of_mem _ hy)
  rw [s_define_Reaches_2_L4]
  dsimp only
  by_cases hm : x ∈ m.map (·.1)
  ·rw [(h.fnd x).2 hm, Bool.not_true, cond_false, Option.bind_some]
   obtain ⟨new, v', m', h1, h2, h3, h4, h5, h6⟩ := reaches_L4 hU xs td v m h hs'
   refine ⟨new, v', m', h1, h2, fun y => ?_, h4, fun y hy => List.mem_cons_of_mem _ (h5 y hy), h6⟩
   rw [h3, List.mem_cons]
   constructor
   ·rintro (h | h)
    ·exact .inl h
    ·exact .inr (.inr h)
   ·rintro (h | rfl | h)
    ·exact .inl h
    ·exact .inl hm
    ·exact .inr h
  ·have hf : (mfind x m).getD false = false := by rw [← Bool.not_eq_true, h.fnd]; exact hm
   obtain ⟨p1, p2, p3⟩ := h.push hx hm
   have := p1.len
   have := p1.le
   rw [hf, Bool.not_false, cond_true, grd_of (by omega), Option.bind_some, Option.bind_some]
   obtain ⟨new, v', m', h1, h2, h3, h4, h5, h6⟩ := reaches_L4 hU xs (td ++ [x]) (v + 1) (mset x true m) p1 hs'
   rw [List.append_assoc] at h1 h2
   refine ⟨[x] ++ new, v', m', h1, h2, fun y => ?_, by rw [h4, p2, List.length_append, List.length_singleton]; omega, fun y hy => ?_, fun y => ?_⟩
   ·rw [h3, p3, List.mem_cons]
    constructor
    ·rintro ((h | h) | h)
     ·exact .inl h
     ·exact .inr (.inl h)
     ·exact .inr (.inr h)
    ·rintro (h | h | h)
     ·exact .inl (.inl h)
     ·exact .inl (.inr h)
     ·exact .inr h
   ·rcases List.mem_append.1 hy with hy | hy
    ·rw [List.mem_singleton.1 hy]; exact List.mem_cons_self ..
    ·exact List.mem_cons_of_mem _ (h5 y hy)
   ·rw [h6, p3, List.singleton_append, List.mem_cons]
    constructor
    ·rintro ((h | h) | h)
     ·exact .inl h
     ·exact .inr (.inl h)
     ·exact .inr (.inr h)
    ·rintro (h | h | h)
     ·exact .inl (.inl h)
     ·exact .inl (.inr h)
     ·exact .inr h
def bodiesOf (l : List Def) (s : Nm) : List Expr := (l.filter fun d => decide (d.Name = s)).map (·.Body)
theorem use_bodies {l : List Def} {s x : Nm} : Use1 l s x ↔ ∃ e ∈ bodiesOf l s, x ∈ namesL e := by
 unfold Use1 bodiesOf
 constructor
 ·rintro ⟨d, h1, h2, h3⟩
  exact ⟨d.Body, List.mem_map.2 ⟨d, List.mem_filter.2 ⟨h1, by simpa using h2⟩, rfl⟩, h3⟩
 ·rintro ⟨e, h1, h2⟩
  obtain ⟨d, h3, rfl⟩ := List.mem_map.1 h1
  obtain ⟨h4, h5⟩ := List.mem_filter.1 h3
  exact ⟨d, h4, by simpa using h5, h2⟩
theorem bodies_len (l : List Def) (s : Nm) : (bodiesOf l s).length ≤ l.length := by
 unfold bodiesOf; rw [List.length_map]; exact List.length_filter_le ..
theorem mfind_mset' {β : Type} (a k : Nm) (b : β) : ∀ l : List (Nm × β), mfind k (mset a b l) = if k = a then some b else mfind k l := mfind_mset a k b
theorem reaches_L1 {p : Plan} (hN : p.Defs.length ≤ 5000) : ∃ v, s_define_Reaches_2_L1 p KK (0, []) = some v ∧ ∀ s, (mfind s v).getD [] = bodiesOf p.Defs s := by
 refine for_all (L := s_define_Reaches_2_L1 p) (s := ((0 : Int), ([] : List (Nm × List Expr)))) (fun i q => q.1 = (i : Int) ∧ ∀ s, (mfind s q.2).getD [] = bodiesOf (p.Defs.take i) s) (fun v => ∀ s, (mfind s v).getD [] = bodiesOf p.Defs s) p.Defs.length (by omega) ⟨rfl, fun s => rfl⟩ (fun K i q h hi => .inr ?_) (fun K q h => ?_)
 ·obtain ⟨a, m⟩ := q
  obtain ⟨e1, h⟩ := h
  dsimp only at e1 h; subst e1
  rw [s_define_Reaches_2_L1, decide_eq_true (by dsimp only; omega), cond_true, idx_of hi, Option.bind_some]
  dsimp only
  have hb := bodies_len (p.Defs.take i) (p.Defs.getD i default).Name
  rw [List.length_take] at hb
  rw [h, grd_of (by rw [List.length_append, List.length_singleton]; omega), Option.bind_some, w64_succ hi (by omega)]
  refine ⟨_, ⟨rfl, fun s => ?_⟩, rfl⟩
  dsimp only
  have ht : p.Defs.take (i + 1) = p.Defs.take i ++ [p.Defs.getD i default] := by rw [getD_of hi, List.take_append_getElem]
  rw [mfind_mset', ht]
  unfold bodiesOf
  rw [List.filter_append, List.map_append]
  by_cases e : s = (p.Defs.getD i default).Name
  ·rw [if_pos e, e]; simp
  ·rw [if_neg e]
   have := h s
   unfold bodiesOf at this
   have hf : [p.Defs.getD i default].filter (fun d => decide (d.Name = s)) = [] := by
    rw [List.filter_cons, if_neg (by rw [decide_eq_true_eq]; exact fun h => e h.symm)]; rfl
   rw [this, hf, List.map_nil, List.append_nil]
 ·obtain ⟨a, m⟩ := q
  obtain ⟨e1, h⟩ := h
  dsimp only at e1 h; subst e1
  rw [List.take_length] at h
  exact ⟨m, by rw [s_define_Reaches_2_L1, decide_eq_false (by simp), cond_false], h⟩
theorem reaches_L3 {U : List Nm} (hU : U.length ≤ 1000000) {v1 : List (Nm × List Expr)} {s : Nm} {bs : List Expr} (hb : (mfind s v1).getD [] = bs) (hl : bs.length ≤ 5000) (hbs : ∀ e ∈ bs, ∀ x ∈ namesL e, x ∈ U) {td : List Nm} {v : Nat} {m : List (Nm × Bool)} (h : RI U td m) :
  ∃ new v' m', s_define_Reaches_2_L3 v1 s KK (0, td, v, m) = some (td ++ new, v', m') ∧ RI U (td ++ new) m' ∧ (∀ x, x ∈ m'.map (·.1) ↔ x ∈ m.map (·.1) ∨ ∃ e ∈ bs, x ∈ namesL e) ∧ m'.length = m.length + new.length ∧ (∀ x ∈ new, ∃ e ∈ bs, x ∈ namesL e) ∧ ∀ x, x ∈ m'.map (·.1) ↔ x ∈ m.map (·.1) ∨ x ∈ new := by
 have key := for_all (L := s_define_Reaches_2_L3 v1 s) (s := ((0 : Int), td, v, m))
  (fun i q => q.1 = (i : Int) ∧ ∃ new, q.2.1 = td ++ new ∧ RI U (td ++ new) q.2.2.2 ∧ (∀ x, x ∈ q.2.2.2.map (·.1) ↔ x ∈ m.map (·.1) ∨ ∃ e ∈ bs.take i, x ∈ namesL e) ∧ q.2.2.2.length = m.length + new.length ∧ (∀ x ∈ new, ∃ e ∈ bs.take i, x ∈ namesL e) ∧ ∀ x, x ∈ q.2.2.2.map (·.1) ↔ x ∈ m.map (·.1) ∨ x ∈ new)
  (fun r => ∃ new, r.1 = td ++ new ∧ RI U (td ++ new) r.2.2 ∧ (∀ x, x ∈ r.2.2.map (·.1) ↔ x ∈ m.map (·.1) ∨ ∃ e ∈ bs, x ∈ namesL e) ∧ r.2.2.length = m.length + new.length ∧ (∀ x ∈ new, ∃ e ∈ bs, x ∈ namesL e) ∧ ∀ x, x ∈ r.2.2.map (·.1) ↔ x ∈ m.map (·.1) ∨ x ∈ new) bs.length (by omega)
  ⟨rfl, [], by simp, by rw [List.append_nil]; exact h, fun x => by simp, rfl, fun _ h => (by cases h), fun x => by simp⟩ (fun K i q h hi => .inr ?_) (fun K q h => ?_)
 ·obtain ⟨⟨t, v', m'⟩, h1, new, h2, h3⟩ := key
  dsimp only at h2 h3; subst h2
  exact ⟨new, v', m', h1, h3⟩
 ·obtain ⟨a, t, v', m'⟩ := q
  obtain ⟨e1, new, e2, h1, h2, h3, h4, h5⟩ := h
  dsimp only at e1 e2 h1 h2 h3 h5; subst e1 e2
  have hx := getD_mem hi
  have ht : bs.take (i + 1) = bs.take i ++ [bs.getD i default] := by rw [getD_of hi, List.take_append_getElem]
  rw [s_define_Reaches_2_L3, hb, decide_eq_true (by dsimp only; omega), cond_true, idx_of hi, Option.bind_some]
  unfold s_define_names
  rw [Option.bind_some]
  dsimp only
  rw [expr_eta]
  obtain ⟨new2, v2, m2, g1, g2, g3, g4, g5, g6⟩ := reaches_L4 hU (namesL (bs.getD i default)) (td ++ new) v' m' h1 (hbs _ hx)
  rw [g1, Option.bind_some, w64_succ hi (by omega)]
  rw [List.append_assoc] at g2
  refine ⟨(((i + 1 : Nat) : Int), td ++ new ++ new2, v2, m2), ⟨rfl, new ++ new2, by dsimp only; rw [List.append_assoc], g2, fun x => ?_, by dsimp only; rw [g4, h3, List.length_append]; omega, fun x hx' => ?_, fun x => by dsimp only; rw [g6, h5, List.mem_append, or_assoc]⟩, rfl⟩
  ·dsimp only
   rw [g3, h2, ht]
   constructor
   ·rintro ((h | ⟨e, h5, h6⟩) | h)
    ·exact .inl h
    ·exact .inr ⟨e, List.mem_append_left _ h5, h6⟩
    ·exact .inr ⟨_, List.mem_append_right _ (List.mem_singleton.2 rfl), h⟩
   ·rintro (h | ⟨e, h5, h6⟩)
    ·exact .inl (.inl h)
    ·rcases List.mem_append.1 h5 with h5 | h5
     ·exact .inl (.inr ⟨e, h5, h6⟩)
     ·rw [List.mem_singleton.1 h5] at h6; exact .inr h6
  ·rw [ht]
   rcases List.mem_append.1 hx' with h5 | h5
   ·obtain ⟨e, h6, h7⟩ := h4 x h5
    exact ⟨e, List.mem_append_left _ h6, h7⟩
   ·exact ⟨_, List.mem_append_right _ (List.mem_singleton.2 rfl), g5 x h5⟩
 ·obtain ⟨a, t, v', m'⟩ := q
  obtain ⟨e1, new, e2, h1⟩ := h
  dsimp only at e1 e2 h1; subst e1 e2
  rw [List.take_length] at h1
  exact ⟨(td ++ new, v', m'), by rw [s_define_Reaches_2_L3, hb, decide_eq_false (by simp), cond_false], new, rfl, h1⟩
structure PB (l : List Def) : Prop where
 len : l.length ≤ 2500
 un : (Un l).length ≤ 1000000
 key : ∀ x ∈ Un l, x.length ≤ 9223372036854775807
theorem Reaches_gen {p : Plan} (hp : PB p.Defs) (s : Nm) : ∃ r, s_define_Reaches_2 p s = some r ∧ asc r ∧ ∀ x, x ∈ r ↔ Rch p.Defs s x := by
 obtain ⟨v1, h1, hv⟩ := reaches_L1 (p := p) (by have := hp.len; omega)
 have key := loop_inv (L := s_define_Reaches_2_L2 v1)
  (fun q => RI (Un p.Defs) q.1 q.2.2 ∧ (∀ x ∈ q.2.2.map (·.1), Rch p.Defs s x) ∧ (∀ x ∈ q.1, x = s ∨ x ∈ q.2.2.map (·.1)) ∧ ∀ y, (y = s ∨ y ∈ q.2.2.map (·.1)) → y ∈ q.1 ∨ ∀ x, Use1 p.Defs y x → x ∈ q.2.2.map (·.1))
  (fun q => (Un p.Defs).length - q.2.2.length + q.1.length)
  (fun m => (m.map (·.1)).Nodup ∧ (∀ x ∈ m.map (·.1), x ∈ Un p.Defs) ∧ ∀ x, x ∈ m.map (·.1) ↔ Rch p.Defs s x) (fun K q h => ?_) ((Un p.Defs).length + 1) KK ([s], 1, ([] : List (Nm × Bool)))
  ⟨⟨by simp, fun x h => by simp at h, fun s => by simp [mfind], by simp⟩, fun x h => by simp at h, fun x h => .inl (by simpa using h), fun y h => by
   rcases h with rfl | h
   ·exact .inl (by simp)
   ·simp at h⟩ (by simp) (by have := KK_big; have := hp.un; omega)
 ·obtain ⟨m, g1, g2, g3, g4⟩ := key
  unfold s_define_Reaches_2 s_maps_Keys
  rw [h1, Option.bind_some, g1, Option.bind_some, Option.bind_some]
  have hl := nodup_sub _ _ g2 g3
  rw [List.length_map] at hl
  have := hp.un
  rw [grd_of ⟨g2, fun k hk => hp.key k (g3 k hk), by omega⟩, Option.bind_some]
  exact ⟨_, rfl, sortKeys_asc g2, fun x => by rw [mem_sortKeys, g4]⟩
 ·obtain ⟨td, v, m⟩ := q
  obtain ⟨hR, hs, ht, hc⟩ := h
  dsimp only at hR hs ht hc
  cases td with
  | nil =>
   refine .inl ⟨m, by rw [s_define_Reaches_2_L2, decide_eq_false (by simp), cond_false], hR.nd, hR.sub, fun x => ⟨hs x, fun hx => ?_⟩⟩
   have hc' : ∀ y, (y = s ∨ y ∈ m.map (·.1)) → ∀ x, Use1 p.Defs y x → x ∈ m.map (·.1) := fun y hy => by
    rcases hc y hy with h | h
    ·cases h
    ·exact h
   induction hx with
   | base h => exact hc' s (.inl rfl) _ h
   | step _ u ih => exact hc' _ (.inr ih) _ u
  | cons e td =>
   rw [s_define_Reaches_2_L2, decide_eq_true (by simp), cond_true]
   dsimp only
   rw [grd_of ⟨by omega, by rw [List.length_cons]; omega⟩, Option.bind_some, Option.bind_some, grd_of (by rw [List.length_cons]; omega), Option.bind_some]
   have hR' : RI (Un p.Defs) td m := ⟨hR.nd, hR.sub, hR.fnd, by have := hR.len; rw [List.length_cons] at this; omega⟩
   obtain ⟨new, v', m', g1, g2, g3, g4, g5, g6⟩ := reaches_L3 (U := Un p.Defs) hp.un (hv e) (Nat.le_trans (bodies_len ..) (by have := hp.len; omega)) (fun b hb x hx => use_un (use_bodies.2 ⟨b, hb, hx⟩)) (v := v + 1) hR'
   show _ ∨ ∃ s', _ ∧ _ ∧ ((s_define_Reaches_2_L3 v1 e KK (0, td, v + 1, m)).bind fun v3 => s_define_Reaches_2_L2 v1 K (v3.1, v3.2.1, v3.2.2)) = _
   rw [g1, Option.bind_some]
   have g3' : ∀ x, x ∈ m'.map (·.1) ↔ x ∈ m.map (·.1) ∨ Use1 p.Defs e x := fun x => by rw [g3, ← use_bodies]
   refine .inr ⟨(td ++ new, v', m'), ⟨g2, fun x hx => ?_, fun x hx => ?_, fun y hy => ?_⟩, ?_, rfl⟩
   ·dsimp only at hx
    rcases (g3' x).1 hx with h | h
    ·exact hs x h
    ·rcases ht e (List.mem_cons_self ..) with rfl | h2
     ·exact .base h
     ·exact .step (hs e h2) h
   ·dsimp only at hx ⊢
    rcases List.mem_append.1 hx with h | h
    ·exact (ht x (List.mem_cons_of_mem _ h)).imp_right fun h => (g3' x).2 (.inl h)
    ·exact .inr ((g3' x).2 (.inr (use_bodies.2 (g5 x h))))
   ·dsimp only at hy ⊢
    by_cases hye : y = e
    ·subst hye; exact .inr fun x hx => (g3' x).2 (.inr hx)
    ·by_cases hym : y = s ∨ y ∈ m.map (·.1)
     ·rcases hc y hym with h | h
      ·rcases List.mem_cons.1 h with h | h
       ·exact absurd h hye
       ·exact .inl (List.mem_append_left _ h)
      ·exact .inr fun x hx => (g3' x).2 (.inl (h x hx))
     ·-- a name that came now
      have hym' : y ∈ m'.map (·.1) := by
       rcases hy with h | h
       ·exact absurd (.inl h) hym
       ·exact h
      exact .inl (List.mem_append_right _ (((g6 y).1 hym').resolve_left fun h => hym (.inr h)))
   ·dsimp only
    have l1 := g2.le
    have l2 := hR.le
    rw [List.length_append, List.length_cons]; omega
end Go.Proofs.Ytconjkgifdfhdaa
