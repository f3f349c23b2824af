/- Reaches of the reference, Unknown of both; the law's small functions. -/
import Derived.Test.YtconjkgifdfhdaaDk
set_option linter.all false
set_option maxRecDepth 100000
namespace Go.Proofs.Ytconjkgifdfhdaa
open Go Go.RowKit Go.Eng Go.EV Go.Grf
variable [Fuel]
omit [Fuel] in
theorem flat_len {α : Type} {f : α → List Nm} {b : Nat} : ∀ l : List α, (∀ x ∈ l, (f x).length ≤ b) → (l.flatMap f).length ≤ l.length * b
 | [], _ => by simp
 | x :: l, h => by
  have h1 := h x (List.mem_cons_self ..)
  have h2 := flat_len l fun y hy => h y (List.mem_cons_of_mem _ hy)
  rw [List.flatMap_cons, List.length_append, List.length_cons, Nat.succ_mul]; omega
omit [Fuel] in
theorem Small.un {p : Plan} (h : Small p) : (Un p.Defs).length ≤ 1200 := by
 have := flat_len (f := fun d : Def => namesL d.Body) (b := 60) p.Defs fun d hd => Nat.le_trans (names_le _) (h.body d hd)
 have := h.defs
 unfold Un; omega
omit [Fuel] in
theorem Small.pb {p : Plan} (h : Small p) : PB p.Defs := ⟨by have := h.defs; omega, by have := h.un; omega, fun x hx => by
 obtain ⟨d, h1, h2⟩ := List.mem_flatMap.1 hx
 exact h.keyD d h1 x h2⟩
theorem sNames {p : Plan} (h : Small p) {i : Nat} (hi : i < p.Defs.length) : s_define_Names (p.Defs.getD i default).Body = some (namesV (p.Defs.getD i default).Body) := by
 have hx := getD_mem hi
 exact s_Names (by have := names_le (p.Defs.getD i default).Body; have := h.body _ hx; omega) (h.keyD _ hx)
theorem sameTexts_is {a b : List Nm} (ha : a.length < 2 ^ 62) : s_greenbeltref01_SameTexts a b = some (decide (a = b)) := by
 unfold s_greenbeltref01_SameTexts
 by_cases hl : a.length = b.length
 ·rw [decide_eq_true (by omega), Bool.not_true, cond_false]
  have key := for_all (L := s_greenbeltref01_SameTexts_L1 a b) (s := (0 : Int)) (fun i q => q = (i : Int) ∧ ∀ j, j < i → a.getD j default = b.getD j default) (fun t => match t with | .inl r => r = false ∧ a ≠ b | .inr _ => a = b) a.length (by omega) ⟨rfl, fun j hj => by omega⟩ (fun K i q h hi => ?_) (fun K q h => ?_)
  ·obtain ⟨t, h1, h2⟩ := key
   rw [h1, Option.bind_some]
   cases t with
   | inl r => dsimp only at h2 ⊢; rw [h2.1, decide_eq_false h2.2]
   | inr u => dsimp only at h2 ⊢; rw [decide_eq_true h2]
  ·obtain ⟨rfl, h⟩ := h
   rw [s_greenbeltref01_SameTexts_L1, decide_eq_true (by omega), cond_true, idx_of hi, Option.bind_some, idx_of (by omega), Option.bind_some, w64_succ hi (by omega)]
   by_cases e : a.getD i default = b.getD i default
   ·rw [decide_eq_true e, Bool.not_true, cond_false]
    refine .inr ⟨_, ⟨rfl, fun j hj => ?_⟩, rfl⟩
    by_cases hji : j = i
    ·subst hji; exact e
    ·exact h j (by omega)
   ·rw [decide_eq_false e, Bool.not_false, cond_true]
    exact .inl ⟨_, rfl, rfl, fun h => e (by rw [h])⟩
  ·obtain ⟨rfl, h⟩ := h
   refine ⟨.inr (), by rw [s_greenbeltref01_SameTexts_L1, decide_eq_false (by omega), cond_false], ?_⟩
   dsimp only
   refine List.ext_getElem hl fun i h1 h2 => ?_
   have := h i h1
   rwa [getD_of h1, getD_of h2] at this
 ·rw [decide_eq_false (by omega), Bool.not_false, cond_true, decide_eq_false fun h => hl (by rw [h])]
theorem sameNums_is {a b : List Int} (ha : a.length < 2 ^ 62) : s_greenbeltref01_SameNums a b = some (decide (a = b)) := by
 unfold s_greenbeltref01_SameNums
 by_cases hl : a.length = b.length
 ·rw [decide_eq_true (by omega), Bool.not_true, cond_false]
  have key := for_all (L := s_greenbeltref01_SameNums_L1 a b) (s := (0 : Int)) (fun i q => q = (i : Int) ∧ ∀ j, j < i → a.getD j default = b.getD j default) (fun t => match t with | .inl r => r = false ∧ a ≠ b | .inr _ => a = b) a.length (by omega) ⟨rfl, fun j hj => by omega⟩ (fun K i q h hi => ?_) (fun K q h => ?_)
  ·obtain ⟨t, h1, h2⟩ := key
   rw [h1, Option.bind_some]
   cases t with
   | inl r => dsimp only at h2 ⊢; rw [h2.1, decide_eq_false h2.2]
   | inr u => dsimp only at h2 ⊢; rw [decide_eq_true h2]
  ·obtain ⟨rfl, h⟩ := h
   rw [s_greenbeltref01_SameNums_L1, decide_eq_true (by omega), cond_true, idx_of hi, Option.bind_some, idx_of (by omega), Option.bind_some, w64_succ hi (by omega)]
   by_cases e : a.getD i default = b.getD i default
   ·rw [decide_eq_true e, Bool.not_true, cond_false]
    refine .inr ⟨_, ⟨rfl, fun j hj => ?_⟩, rfl⟩
    by_cases hji : j = i
    ·subst hji; exact e
    ·exact h j (by omega)
   ·rw [decide_eq_false e, Bool.not_false, cond_true]
    exact .inl ⟨_, rfl, rfl, fun h => e (by rw [h])⟩
  ·obtain ⟨rfl, h⟩ := h
   refine ⟨.inr (), by rw [s_greenbeltref01_SameNums_L1, decide_eq_false (by omega), cond_false], ?_⟩
   dsimp only
   refine List.ext_getElem hl fun i h1 h2 => ?_
   have := h i h1
   rwa [getD_of h1, getD_of h2] at this
 ·rw [decide_eq_false (by omega), Bool.not_false, cond_true, decide_eq_false fun h => hl (by rw [h])]
theorem asc_nodup {l : List Nm} (h : asc l) : l.Nodup := List.Pairwise.imp (fun {a b} (hlt : a < b) (e : a = b) => by subst e; exact nm_irrefl _ hlt) h
theorem Reaches_len {p : Plan} (hp : PB p.Defs) {s : Nm} {r : List Nm} (ha : asc r) (hm : ∀ x, x ∈ r ↔ Rch p.Defs s x) : r.length ≤ (Un p.Defs).length := nodup_sub _ _ (asc_nodup ha) fun x hx => rch_un ((hm x).1 hx)
structure RR (U : List Nm) (s : Nm) (out td : List Nm) : Prop where
 ha : asc out
 tl : ∃ t, td = s :: t ∧ (∀ x, x ∈ t ↔ x ∈ out) ∧ t.length = out.length
 sub : ∀ x ∈ out, x ∈ U
theorem RR.len {U : List Nm} {s : Nm} {out td : List Nm} (h : RR U s out td) : out.length ≤ U.length ∧ td.length = out.length + 1 := by
 obtain ⟨t, rfl, h1, h2⟩ := h.tl
 exact ⟨nodup_sub _ _ (asc_nodup h.ha) h.sub, by rw [List.length_cons, h2]⟩
omit [Fuel] in
theorem insV_new {s : Nm} {l : List Nm} (h : s ∉ l) : (insV s l).length = l.length + 1 := by
 unfold insV
 rw [if_neg h]
 have := congrArg List.length (List.takeWhile_append_dropWhile (p := fun x => decide (x < s)) (l := l))
 rw [List.length_append] at this
 rw [List.length_append, List.length_append, List.length_singleton]
 have : l.length + 1 = _ + 1 := congrArg (· + 1) this.symm
 refine Eq.trans ?_ this.symm
 rw [Nat.add_right_comm]
theorem RR.push {U : List Nm} {s x : Nm} {out td : List Nm} (h : RR U s out td) (hx : x ∈ U) (hn : x ∉ out) : RR U s (insV x out) (td ++ [x]) := by
 obtain ⟨t, rfl, h1, h2⟩ := h.tl
 refine ⟨insV_asc h.ha, ⟨t ++ [x], by simp, fun y => ?_, by rw [List.length_append, List.length_singleton, insV_new hn, h2]⟩, fun y hy => ?_⟩
 ·rw [List.mem_append, List.mem_singleton, insV_mem, h1]
 ·rcases insV_mem.1 hy with h3 | rfl
  ·exact h.sub y h3
  ·exact hx
theorem rr_L3 {U : List Nm} (hU : U.length ≤ 1000000) {ys : List Nm} (hy : ys.length ≤ 1000000) (hys : ∀ x ∈ ys, x ∈ U) {s : Nm} {out td : List Nm} (h : RR U s out td) :
  ∃ r, s_greenbeltref16_Reaches_L3 ys KK (out, 0, td) = some r ∧ RR U s r.1 r.2 ∧ (∀ x, x ∈ r.1 ↔ x ∈ out ∨ x ∈ ys) ∧ ∃ new, r.2 = td ++ new := by
 refine for_all (L := s_greenbeltref16_Reaches_L3 ys) (s := (out, (0 : Int), td)) (fun i q => q.2.1 = (i : Int) ∧ RR U s q.1 q.2.2 ∧ (∀ x, x ∈ q.1 ↔ x ∈ out ∨ x ∈ ys.take i) ∧ ∃ new, q.2.2 = td ++ new) (fun r => RR U s r.1 r.2 ∧ (∀ x, x ∈ r.1 ↔ x ∈ out ∨ x ∈ ys) ∧ ∃ new, r.2 = td ++ new) ys.length (by omega) ⟨rfl, h, fun x => by simp, [], by simp⟩ (fun K i q h hi => .inr ?_) (fun K q h => ?_)
 ·obtain ⟨o, a, t⟩ := q
  obtain ⟨e1, hR, hm, new, hnew⟩ := h
  dsimp only at e1 hR hm hnew; subst e1
  obtain ⟨l1, l2⟩ := hR.len
  have ht : ys.take (i + 1) = ys.take i ++ [ys.getD i default] := by rw [getD_of hi, List.take_append_getElem]
  rw [s_greenbeltref16_Reaches_L3, decide_eq_true (by dsimp only; omega), cond_true, idx_of hi, Option.bind_some]
  dsimp only
  rw [has_is (by omega), Option.bind_some, w64_succ hi (by omega)]
  by_cases e : ys.getD i default ∈ o
  ·rw [decide_eq_true e, Bool.not_true, cond_false, Option.bind_some]
   refine ⟨(o, ((i + 1 : Nat) : Int), t), ⟨rfl, hR, fun x => ?_, new, hnew⟩, rfl⟩
   dsimp only
   rw [hm, ht, List.mem_append, List.mem_singleton]
   constructor
   ·rintro (h | h)
    ·exact .inl h
    ·exact .inr (.inl h)
   ·rintro (h | h | rfl)
    ·exact .inl h
    ·exact .inr h
    ·exact (hm _).1 e
  ·rw [decide_eq_false e, Bool.not_false, cond_true, Option.bind_some, s_With (by omega), Option.bind_some, Option.bind_some, grd_of (by rw [List.length_append, List.length_singleton]; omega), Option.bind_some, Option.bind_some]
   refine ⟨(insV (ys.getD i default) o, ((i + 1 : Nat) : Int), t ++ [ys.getD i default]), ⟨rfl, hR.push (hys _ (getD_mem hi)) e, fun x => ?_, new ++ [ys.getD i default], by dsimp only; rw [hnew, List.append_assoc]⟩, rfl⟩
   dsimp only
   rw [insV_mem, hm, ht, List.mem_append, List.mem_singleton, or_assoc]
 ·obtain ⟨o, a, t⟩ := q
  obtain ⟨e1, hR, hm, hnew⟩ := h
  dsimp only at e1 hR hm hnew; subst e1
  rw [List.take_length] at hm
  exact ⟨(o, t), by rw [s_greenbeltref16_Reaches_L3, decide_eq_false (by simp), cond_false], hR, hm, hnew⟩
theorem rr_L2 {p : Plan} (hp : Small p) {s e : Nm} {out td : List Nm} {i : Nat} (hi : i < td.length) (he : td.getD i default = e) (h : RR (Un p.Defs) s out td) :
  ∃ r, s_greenbeltref16_Reaches_L2 p (out, (i : Int), td) KK (out, 0, td) = some r ∧ RR (Un p.Defs) s r.1 r.2 ∧ (∀ x, x ∈ r.1 ↔ x ∈ out ∨ Use1 p.Defs e x) ∧ ∃ new, r.2 = td ++ new := by
 have hN := hp.defs
 have hun := hp.un
 refine for_all (L := s_greenbeltref16_Reaches_L2 p (out, (i : Int), td)) (s := (out, (0 : Int), td)) (fun k q => q.2.1 = (k : Int) ∧ RR (Un p.Defs) s q.1 q.2.2 ∧ (∀ x, x ∈ q.1 ↔ x ∈ out ∨ Use1 (p.Defs.take k) e x) ∧ ∃ new, q.2.2 = td ++ new) (fun r => RR (Un p.Defs) s r.1 r.2 ∧ (∀ x, x ∈ r.1 ↔ x ∈ out ∨ Use1 p.Defs e x) ∧ ∃ new, r.2 = td ++ new) p.Defs.length (by omega) ⟨rfl, h, fun x => by simp [Use1], [], by simp⟩ (fun K k q h hk => .inr ?_) (fun K q h => ?_)
 ·obtain ⟨o, a, t⟩ := q
  obtain ⟨e1, hR, hm, new, hnew⟩ := h
  dsimp only at e1 hR hm hnew; subst e1 hnew
  have hx := getD_mem hk
  have ht : p.Defs.take (k + 1) = p.Defs.take k ++ [p.Defs.getD k default] := by rw [getD_of hk, List.take_append_getElem]
  have hu : ∀ x, Use1 (p.Defs.take (k + 1)) e x ↔ Use1 (p.Defs.take k) e x ∨ ((p.Defs.getD k default).Name = e ∧ x ∈ namesL (p.Defs.getD k default).Body) := fun x => by
   unfold Use1
   rw [ht]
   constructor
   ·rintro ⟨d, h1, h2, h3⟩
    rcases List.mem_append.1 h1 with h1 | h1
    ·exact .inl ⟨d, h1, h2, h3⟩
    ·rw [List.mem_singleton.1 h1] at h2 h3; exact .inr ⟨h2, h3⟩
   ·rintro (⟨d, h1, h2, h3⟩ | ⟨h2, h3⟩)
    ·exact ⟨d, List.mem_append_left _ h1, h2, h3⟩
    ·exact ⟨_, List.mem_append_right _ (List.mem_singleton.2 rfl), h2, h3⟩
  have hge : (td ++ new).getD i default = e := by
   rw [← he, List.getD_eq_getElem?_getD, List.getD_eq_getElem?_getD, List.getElem?_append_left hi]
  rw [s_greenbeltref16_Reaches_L2, decide_eq_true (by dsimp only; omega), cond_true, idx_of hk, Option.bind_some]
  dsimp only
  rw [grd_of ⟨by omega, by rw [List.length_append]; omega⟩, Option.bind_some, Option.bind_some, toNat_nat, hge, w64_succ hk (by omega)]
  by_cases e2 : (p.Defs.getD k default).Name = e
  ·rw [decide_eq_true e2, Bool.not_true, cond_false, Option.bind_some, rnames (by have := hp.body _ hx; omega), Option.bind_some]
   have hnl := len_namesV (p.Defs.getD k default).Body
   have hnl2 := names_le (p.Defs.getD k default).Body
   have hnl3 := hp.body _ hx
   obtain ⟨⟨o2, t2⟩, g1, g2, g3, new2, g4⟩ := rr_L3 (U := Un p.Defs) (by omega) (ys := namesV (p.Defs.getD k default).Body) (by omega) (fun x hx' => List.mem_flatMap.2 ⟨_, hx, mem_namesV.1 hx'⟩) hR
   dsimp only at g2 g3 g4; subst g4
   rw [g1, Option.bind_some, Option.bind_some]
   refine ⟨(o2, ((k + 1 : Nat) : Int), td ++ new ++ new2), ⟨rfl, g2, fun x => ?_, new ++ new2, by dsimp only; rw [List.append_assoc]⟩, rfl⟩
   dsimp only
   rw [g3, hm, hu, mem_namesV, or_assoc]
   simp only [e2, true_and]
  ·rw [decide_eq_false e2, Bool.not_false, cond_true, Option.bind_some]
   refine ⟨(o, ((k + 1 : Nat) : Int), td ++ new), ⟨rfl, hR, fun x => ?_, new, rfl⟩, rfl⟩
   dsimp only
   rw [hm, hu]
   simp only [e2, false_and, or_false]
 ·obtain ⟨o, a, t⟩ := q
  obtain ⟨e1, hR, hm, hnew⟩ := h
  dsimp only at e1 hR hm hnew; subst e1
  rw [List.take_length] at hm
  exact ⟨(o, t), by rw [s_greenbeltref16_Reaches_L2, decide_eq_false (by simp), cond_false], hR, hm, hnew⟩
theorem refReaches_gen {p : Plan} (hp : Small p) (s : Nm) : ∃ r, s_greenbeltref16_Reaches p s = some r ∧ asc r ∧ ∀ x, x ∈ r ↔ Rch p.Defs s x := by
 have hun := hp.un
 have key := loop_inv (L := s_greenbeltref16_Reaches_L1 p)
  (fun q => ∃ i : Nat, q.2.1 = i ∧ i ≤ q.2.2.length ∧ RR (Un p.Defs) s q.1 q.2.2 ∧ (∀ x ∈ q.1, Rch p.Defs s x) ∧ ∀ j, j < i → ∀ x, Use1 p.Defs (q.2.2.getD j default) x → x ∈ q.1)
  (fun q => (Un p.Defs).length + 2 - q.2.1.toNat) (fun r => asc r ∧ ∀ x, x ∈ r ↔ Rch p.Defs s x) (fun K q h => ?_) ((Un p.Defs).length + 2) KK (([] : List Nm), (0 : Int), [s])
  ⟨0, rfl, by simp, ⟨List.Pairwise.nil, ⟨[], rfl, fun x => by simp, rfl⟩, fun x h => by cases h⟩, fun x h => (by cases h), fun j hj => by omega⟩ (by dsimp only; omega) (by have := KK_big; omega)
 ·obtain ⟨r, h1, h2⟩ := key
  refine ⟨r, ?_, h2⟩
  unfold s_greenbeltref16_Reaches
  rw [h1, Option.bind_some]
 ·obtain ⟨o, a, t⟩ := q
  obtain ⟨i, e1, hi, hR, hs, hc⟩ := h
  dsimp only at e1 hi hR hs hc; subst e1
  obtain ⟨l1, l2⟩ := hR.len
  obtain ⟨t0, et, ht1, ht2⟩ := hR.tl
  rw [s_greenbeltref16_Reaches_L1]
  dsimp only
  by_cases hlt : i < t.length
  ·rw [decide_eq_true (by omega), cond_true]
   obtain ⟨⟨o2, t2⟩, g1, g2, g3, new, g4⟩ := rr_L2 hp (e := t.getD i default) hlt rfl hR
   dsimp only at g2 g3 g4; subst g4
   rw [g1, Option.bind_some, w64_id (by omega) (by omega)]
   have hti : t.getD i default = s ∨ t.getD i default ∈ o := by
    have hm := getD_mem hlt
    have hm2 : t.getD i default ∈ s :: t0 := by rw [← et]; exact hm
    rcases List.mem_cons.1 hm2 with h | h
    ·exact .inl h
    ·exact .inr ((ht1 _).1 h)
   refine .inr ⟨(o2, ((i : Int) + 1), t ++ new), ⟨i + 1, by dsimp only; omega, by dsimp only; rw [List.length_append]; omega, g2, fun x hx => ?_, fun j hj x hx => ?_⟩, by dsimp only; omega, rfl⟩
   ·rcases (g3 x).1 hx with h | h
    ·exact hs x h
    ·rcases hti with e | e
     ·rw [e] at h; exact .base h
     ·exact .step (hs _ e) h
   ·dsimp only at hx ⊢
    have hj2 : (t ++ new).getD j default = t.getD j default := by
     rw [List.getD_eq_getElem?_getD, List.getD_eq_getElem?_getD, List.getElem?_append_left (by omega)]
    rw [hj2] at hx
    by_cases e : j = i
    ·subst e; exact (g3 x).2 (.inr hx)
    ·exact (g3 x).2 (.inl (hc j (by omega) x hx))
  ·rw [decide_eq_false (by omega), cond_false]
   have hcl : ∀ y, (y = s ∨ y ∈ o) → ∀ x, Use1 p.Defs y x → x ∈ o := fun y hy x hx => by
    have hm : y ∈ t := by
     rw [et]
     rcases hy with rfl | h
     ·exact List.mem_cons_self ..
     ·exact List.mem_cons_of_mem _ ((ht1 y).2 h)
    obtain ⟨j, hj, rfl⟩ := mem_getD hm
    exact hc j (by omega) x hx
   refine .inl ⟨o, rfl, hR.ha, fun x => ⟨hs x, fun hx => ?_⟩⟩
   induction hx with
   | base h => exact hcl s (.inl rfl) _ h
   | step _ u ih => exact hcl _ (.inr ih) _ u
theorem reaches_same {p : Plan} (hp : Small p) (s : Nm) : ∃ r, s_define_Reaches_2 p s = some r ∧ s_greenbeltref16_Reaches p s = some r ∧ r.length ≤ 1200 := by
 obtain ⟨r, h1, h2, h3⟩ := Reaches_gen hp.pb s
 obtain ⟨r', k1, k2, k3⟩ := refReaches_gen hp s
 have e : r = r' := asc_ext h2 k2 fun x => by rw [h3, k3]
 subst e
 exact ⟨r, h1, k1, by have := Reaches_len hp.pb h2 h3; have := hp.un; omega⟩
def Unk (p : Plan) (x : Nm) : Prop := ((∃ d ∈ p.Defs, x ∈ namesL d.Body) ∨ ∃ r ∈ p.Rules, x ∈ namesL r.Test) ∧ (∀ d ∈ p.Defs, d.Name ≠ x) ∧ x ∉ measL
structure PU (p : Plan) : Prop where
 defs : p.Defs.length ≤ 5000
 rules : p.Rules.length ≤ 5000
 und : (Un p.Defs).length ≤ 1000000
 unr : (p.Rules.flatMap fun r => namesL r.Test).length ≤ 1000000
 keyD : ∀ d ∈ p.Defs, ∀ k ∈ namesL d.Body, k.length ≤ 9223372036854775807
 keyR : ∀ d ∈ p.Rules, ∀ k ∈ namesL d.Test, k.length ≤ 9223372036854775807
omit [Fuel] in
theorem mdel_keys {β : Type} (a : Nm) : ∀ l : List (Nm × β), (l.map (·.1)).Nodup → ((mdel a l).map (·.1)).Nodup ∧ (∀ x, x ∈ (mdel a l).map (·.1) ↔ x ∈ l.map (·.1) ∧ x ≠ a) ∧ (mdel a l).length ≤ l.length
 | [], _ => ⟨List.nodup_nil, fun x => by simp [mdel], Nat.le_refl _⟩
 | (k, c) :: r, h => by
  rw [List.map_cons, List.nodup_cons] at h
  obtain ⟨h1, h2, h3⟩ := mdel_keys a r h.2
  rw [mdel]
  by_cases e : a = k
  ·subst e
   rw [if_pos rfl]
   refine ⟨h.2, fun x => ?_, by simp⟩
   rw [List.map_cons, List.mem_cons]
   constructor
   ·intro hx; exact ⟨.inr hx, fun e => h.1 (e ▸ hx)⟩
   ·rintro ⟨rfl | hx, hne⟩
    ·exact absurd rfl hne
    ·exact hx
  ·rw [if_neg e]
   refine ⟨?_, fun x => ?_, by simpa using h3⟩
   ·rw [List.map_cons, List.nodup_cons]
    exact ⟨fun hx => h.1 ((h2 k).1 hx).1, h1⟩
   ·rw [List.map_cons, List.mem_cons, List.map_cons, List.mem_cons, h2]
    constructor
    ·rintro (rfl | ⟨hx, hne⟩)
     ·exact ⟨.inl rfl, fun h => e h.symm⟩
     ·exact ⟨.inr hx, hne⟩
    ·rintro ⟨rfl | hx, hne⟩
     ·exact .inl rfl
     ·exact .inr ⟨hx, hne⟩
theorem unk_L2 : ∀ (xs : List Nm) (m : List (Nm × Bool)), s_define_Unknown_L2 xs m = some (xs.foldl (fun m x => mset x true m) m)
 | [], m => rfl
 | x :: xs, m => by rw [s_define_Unknown_L2, unk_L2 xs]; rfl
theorem unk_L4 : ∀ (xs : List Nm) (m : List (Nm × Bool)), s_define_Unknown_L4 xs m = some (xs.foldl (fun m x => mset x true m) m)
 | [], m => rfl
 | x :: xs, m => by rw [s_define_Unknown_L4, unk_L4 xs]; rfl
theorem Unknown_gen {p : Plan} (hp : PU p) : ∃ r, s_define_Unknown p = some r ∧ asc r ∧ ∀ x, x ∈ r ↔ Unk p x := by
 have snoc : ∀ {α : Type} [Inhabited α] (l : List α) (f : α → List Nm) (i : Nat), i < l.length → ∀ x, (∃ d ∈ l.take (i + 1), x ∈ f d) ↔ (∃ d ∈ l.take i, x ∈ f d) ∨ x ∈ f (l.getD i default) := fun l f i hi x => by
  rw [show l.take (i + 1) = l.take i ++ [l.getD i default] by rw [getD_of hi, List.take_append_getElem]]
  constructor
  ·rintro ⟨d, h1, h2⟩
   rcases List.mem_append.1 h1 with h1 | h1
   ·exact .inl ⟨d, h1, h2⟩
   ·rw [List.mem_singleton.1 h1] at h2; exact .inr h2
  ·rintro (⟨d, h1, h2⟩ | h2)
   ·exact ⟨d, List.mem_append_left _ h1, h2⟩
   ·exact ⟨_, List.mem_append_right _ (List.mem_singleton.2 rfl), h2⟩
 have snocl : ∀ {α : Type} [Inhabited α] (l : List α) (f : α → List Nm) (i : Nat), i < l.length → ((l.take (i + 1)).flatMap f).length = ((l.take i).flatMap f).length + (f (l.getD i default)).length := fun l f i hi => by
  rw [show l.take (i + 1) = l.take i ++ [l.getD i default] by rw [getD_of hi, List.take_append_getElem], List.flatMap_append, List.length_append]; simp
 have hd := hp.defs
 have hr := hp.rules
 -- the definitions
 obtain ⟨v1, a1, a2, a3, a4⟩ := for_all (L := s_define_Unknown_L1 p) (s := ((0 : Int), ([] : List (Nm × Bool)))) (fun i q => q.1 = (i : Int) ∧ (q.2.map (·.1)).Nodup ∧ (∀ x, x ∈ q.2.map (·.1) ↔ ∃ d ∈ p.Defs.take i, x ∈ namesL d.Body) ∧ q.2.length ≤ ((p.Defs.take i).flatMap fun d => namesL d.Body).length)
  (fun v => (v.map (·.1)).Nodup ∧ (∀ x, x ∈ v.map (·.1) ↔ ∃ d ∈ p.Defs, x ∈ namesL d.Body) ∧ v.length ≤ (Un p.Defs).length) p.Defs.length (by omega) ⟨rfl, List.nodup_nil, fun x => by simp, by simp⟩ (fun K i q h hi => .inr (by
   obtain ⟨a, m⟩ := q
   obtain ⟨e1, h1, h2, h3⟩ := h
   dsimp only at e1 h1 h2 h3; subst e1
   rw [s_define_Unknown_L1, decide_eq_true (by dsimp only; omega), cond_true, idx_of hi, Option.bind_some]
   unfold s_define_names
   rw [Option.bind_some]
   dsimp only
   rw [expr_eta, unk_L2, Option.bind_some, w64_succ hi (by omega)]
   obtain ⟨k1, k2, k3⟩ := set_keys (namesL (p.Defs.getD i default).Body) m h1
   refine ⟨_, ⟨rfl, k1, fun x => ?_, ?_⟩, rfl⟩
   ·dsimp only
    rw [k2, h2, snoc p.Defs (fun d => namesL d.Body) i hi]
   ·dsimp only
    rw [snocl p.Defs (fun d => namesL d.Body) i hi]
    exact Nat.le_trans k3 (by omega))) (fun K q h => by
   obtain ⟨a, m⟩ := q
   obtain ⟨e1, h1, h2, h3⟩ := h
   dsimp only at e1 h1 h2 h3; subst e1
   rw [List.take_length] at h2 h3
   exact ⟨m, by rw [s_define_Unknown_L1, decide_eq_false (by simp), cond_false], h1, h2, h3⟩)
 obtain ⟨v3, b1, b2, b3, b4⟩ := for_all (L := s_define_Unknown_L3 p) (s := ((0 : Int), v1)) (fun i q => q.1 = (i : Int) ∧ (q.2.map (·.1)).Nodup ∧ (∀ x, x ∈ q.2.map (·.1) ↔ (∃ d ∈ p.Defs, x ∈ namesL d.Body) ∨ ∃ d ∈ p.Rules.take i, x ∈ namesL d.Test) ∧ q.2.length ≤ (Un p.Defs).length + ((p.Rules.take i).flatMap fun d => namesL d.Test).length)
  (fun v => (v.map (·.1)).Nodup ∧ (∀ x, x ∈ v.map (·.1) ↔ (∃ d ∈ p.Defs, x ∈ namesL d.Body) ∨ ∃ d ∈ p.Rules, x ∈ namesL d.Test) ∧ v.length ≤ 2000000) p.Rules.length (by omega) ⟨rfl, a2, fun x => by simp [a3 x], by simpa using a4⟩ (fun K i q h hi => .inr (by
   obtain ⟨a, m⟩ := q
   obtain ⟨e1, h1, h2, h3⟩ := h
   dsimp only at e1 h1 h2 h3; subst e1
   rw [s_define_Unknown_L3, decide_eq_true (by dsimp only; omega), cond_true, idx_of hi, Option.bind_some]
   unfold s_define_names
   rw [Option.bind_some]
   dsimp only
   rw [expr_eta, unk_L4, Option.bind_some, w64_succ hi (by omega)]
   obtain ⟨k1, k2, k3⟩ := set_keys (namesL (p.Rules.getD i default).Test) m h1
   refine ⟨_, ⟨rfl, k1, fun x => ?_, ?_⟩, rfl⟩
   ·dsimp only
    rw [k2, h2, snoc p.Rules (fun d => namesL d.Test) i hi, or_assoc]
   ·dsimp only
    rw [snocl p.Rules (fun d => namesL d.Test) i hi]
    exact Nat.le_trans k3 (by omega))) (fun K q h => by
   obtain ⟨a, m⟩ := q
   obtain ⟨e1, h1, h2, h3⟩ := h
   dsimp only at e1 h1 h2 h3; subst e1
   rw [List.take_length] at h2 h3
   have := hp.und; have := hp.unr
   exact ⟨m, by rw [s_define_Unknown_L3, decide_eq_false (by simp), cond_false], h1, h2, by omega⟩)
 obtain ⟨v5, c1, c2, c3, c4⟩ := for_all (L := s_define_Unknown_L5 p) (s := ((0 : Int), v3)) (fun i q => q.1 = (i : Int) ∧ (q.2.map (·.1)).Nodup ∧ (∀ x, x ∈ q.2.map (·.1) ↔ x ∈ v3.map (·.1) ∧ ∀ d ∈ p.Defs.take i, d.Name ≠ x) ∧ q.2.length ≤ v3.length)
  (fun v => (v.map (·.1)).Nodup ∧ (∀ x, x ∈ v.map (·.1) ↔ x ∈ v3.map (·.1) ∧ ∀ d ∈ p.Defs, d.Name ≠ x) ∧ v.length ≤ v3.length) p.Defs.length (by omega) ⟨rfl, b2, fun x => by simp, Nat.le_refl _⟩ (fun K i q h hi => .inr (by
   obtain ⟨a, m⟩ := q
   obtain ⟨e1, h1, h2, h3⟩ := h
   dsimp only at e1 h1 h2 h3; subst e1
   rw [s_define_Unknown_L5, decide_eq_true (by dsimp only; omega), cond_true, idx_of hi, Option.bind_some, w64_succ hi (by omega)]
   obtain ⟨k1, k2, k3⟩ := mdel_keys (p.Defs.getD i default).Name m h1
   refine ⟨_, ⟨rfl, k1, fun x => ?_, by dsimp only; omega⟩, rfl⟩
   dsimp only
   rw [k2, h2, show p.Defs.take (i + 1) = p.Defs.take i ++ [p.Defs.getD i default] by rw [getD_of hi, List.take_append_getElem]]
   constructor
   ·rintro ⟨⟨h5, h6⟩, h7⟩
    refine ⟨h5, fun d hd => ?_⟩
    rcases List.mem_append.1 hd with hd | hd
    ·exact h6 d hd
    ·rw [List.mem_singleton.1 hd]; exact Ne.symm h7
   ·rintro ⟨h5, h6⟩
    exact ⟨⟨h5, fun d hd => h6 d (List.mem_append_left _ hd)⟩, fun e => h6 _ (List.mem_append_right _ (List.mem_singleton.2 rfl)) e.symm⟩)) (fun K q h => by
   obtain ⟨a, m⟩ := q
   obtain ⟨e1, h1, h2, h3⟩ := h
   dsimp only at e1 h1 h2 h3; subst e1
   rw [List.take_length] at h2
   exact ⟨m, by rw [s_define_Unknown_L5, decide_eq_false (by simp), cond_false], h1, h2, h3⟩)
 obtain ⟨v6, d1, d2, d3, d4⟩ := for_all (L := s_define_Unknown_L6 measL) (s := ((0 : Int), v5)) (fun i q => q.1 = (i : Int) ∧ (q.2.map (·.1)).Nodup ∧ (∀ x, x ∈ q.2.map (·.1) ↔ x ∈ v5.map (·.1) ∧ x ∉ measL.take i) ∧ q.2.length ≤ v5.length)
  (fun v => (v.map (·.1)).Nodup ∧ (∀ x, x ∈ v.map (·.1) ↔ x ∈ v5.map (·.1) ∧ x ∉ measL) ∧ v.length ≤ v5.length) measL.length (by decide) ⟨rfl, c2, fun x => by simp, Nat.le_refl _⟩ (fun K i q h hi => .inr (by
   obtain ⟨a, m⟩ := q
   obtain ⟨e1, h1, h2, h3⟩ := h
   dsimp only at e1 h1 h2 h3; subst e1
   rw [s_define_Unknown_L6, decide_eq_true (by dsimp only; omega), cond_true, idx_of hi, Option.bind_some, w64_succ hi (by decide)]
   obtain ⟨k1, k2, k3⟩ := mdel_keys (measL.getD i default) m h1
   refine ⟨_, ⟨rfl, k1, fun x => ?_, by dsimp only; omega⟩, rfl⟩
   dsimp only
   rw [k2, h2, show measL.take (i + 1) = measL.take i ++ [measL.getD i default] by rw [getD_of hi, List.take_append_getElem], List.mem_append, List.mem_singleton, and_assoc]
   constructor
   ·rintro ⟨h5, h6, h7⟩; exact ⟨h5, fun h => h.elim h6 h7⟩
   ·rintro ⟨h5, h6⟩; exact ⟨h5, fun h => h6 (.inl h), fun h => h6 (.inr h)⟩)) (fun K q h => by
   obtain ⟨a, m⟩ := q
   obtain ⟨e1, h1, h2, h3⟩ := h
   dsimp only at e1 h1 h2 h3; subst e1
   rw [List.take_length] at h2
   exact ⟨m, by rw [s_define_Unknown_L6, decide_eq_false (by simp), cond_false], h1, h2, h3⟩)
 have hm : ∀ x, x ∈ v6.map (·.1) ↔ Unk p x := fun x => by
  rw [d3, c3, b3]; unfold Unk; rw [and_assoc]
 unfold s_define_Unknown s_maps_Keys
 rw [a1, Option.bind_some, b1, Option.bind_some, c1, Option.bind_some, show s_define_Measures = some measL from rfl, Option.bind_some, d1, Option.bind_some, Option.bind_some]
 rw [grd_of ⟨d2, fun k hk => by
  obtain ⟨h | h, _⟩ := (hm k).1 hk
  ·obtain ⟨d, h1, h2⟩ := h; exact hp.keyD d h1 k h2
  ·obtain ⟨d, h1, h2⟩ := h; exact hp.keyR d h1 k h2, by omega⟩, Option.bind_some]
 exact ⟨_, rfl, sortKeys_asc d2, fun x => by rw [mem_sortKeys, hm]⟩
omit [Fuel] in
theorem Small.pu {p : Plan} (h : Small p) : PU p := ⟨by have := h.defs; omega, by have := h.rules; omega, by have := h.un; omega, by
 have := flat_len (f := fun d : Rule => namesL d.Test) (b := 60) p.Rules fun d hd => Nat.le_trans (names_le _) (h.test d hd)
 have := h.rules
 omega, h.keyD, h.keyR⟩
end Go.Proofs.Ytconjkgifdfhdaa
