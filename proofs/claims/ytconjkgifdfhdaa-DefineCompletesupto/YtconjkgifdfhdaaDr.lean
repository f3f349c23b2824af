/- DefineCompletes in plain Lean. -/
import Derived.Test.YtconjkgifdfhdaaDo
set_option linter.all false
set_option maxRecDepth 100000
namespace Go.Proofs.Ytconjkgifdfhdaa
open Go Go.RowKit Go.Eng Go.EV Go.Grf
variable [Fuel]
def newD (u : List Nm) (n : Nat) : List Def := (List.range n).map fun i => Def.mk (u.getD i default) (Expr.mk 0 (i : Int) [] [] [])
theorem newD_len (u : List Nm) (n : Nat) : (newD u n).length = n := by simp [newD]
theorem newD_get {u : List Nm} {n i : Nat} (hi : i < n) : (newD u n).getD i default = Def.mk (u.getD i default) (Expr.mk 0 (i : Int) [] [] []) := by
 rw [getD_of (by rw [newD_len]; exact hi)]; simp [newD]
theorem newD_body {u : List Nm} {n : Nat} {d : Def} (h : d ∈ newD u n) : namesL d.Body = [] ∧ ∃ i, i < n ∧ d.Name = u.getD i default := by
 obtain ⟨i, hi, rfl⟩ := List.mem_map.1 h
 exact ⟨by simp [namesL, namesLs], i, by simpa using hi, rfl⟩
theorem newD_name {u : List Nm} {x : Nm} (h : x ∈ u) : ∃ d ∈ newD u u.length, d.Name = x := by
 obtain ⟨i, hi, rfl⟩ := mem_getD h
 exact ⟨_, List.mem_map.2 ⟨i, by simpa using hi, rfl⟩, rfl⟩
section
variable {l : List Def} {u : List Nm}
theorem com_old {i : Nat} (hi : i < l.length) : (l ++ newD u u.length).getD i default = l.getD i default := by
 rw [List.getD_eq_getElem?_getD, List.getD_eq_getElem?_getD, List.getElem?_append_left hi]
theorem com_new {i : Nat} (hi : i < u.length) : (l ++ newD u u.length).getD (l.length + i) default = Def.mk (u.getD i default) (Expr.mk 0 (i : Int) [] [] []) := by
 rw [List.getD_eq_getElem?_getD, List.getElem?_append_right (by omega), Nat.add_sub_cancel_left, ← List.getD_eq_getElem?_getD, newD_get hi]
theorem com_uses {i k : Nat} (hk : k < l.length) : Uses (l ++ newD u u.length) i k ↔ Uses l i k := by
 unfold Uses
 by_cases hi : i < l.length
 ·unfold nameAt
  rw [com_old hi, com_old hk, List.length_append]
  constructor
  ·rintro ⟨_, _, h⟩; exact ⟨hi, hk, h⟩
  ·rintro ⟨_, _, h⟩; exact ⟨by omega, by omega, h⟩
 ·constructor
  ·rintro ⟨h1, _, h3⟩
   rw [List.length_append, newD_len] at h1
   obtain ⟨j, rfl⟩ : ∃ j, i = l.length + j := ⟨i - l.length, by omega⟩
   rw [com_new (by omega)] at h3
   simp [namesL, namesLs] at h3
  ·rintro ⟨h, _⟩; exact absurd h hi
theorem com_src {i k : Nat} (h : Uses (l ++ newD u u.length) i k) : i < l.length := by
 refine Nat.lt_of_not_le fun hi => ?_
 obtain ⟨h1, _, h3⟩ := h
 rw [List.length_append, newD_len] at h1
 obtain ⟨j, rfl⟩ : ∃ j, i = l.length + j := ⟨i - l.length, by omega⟩
 rw [com_new (by omega)] at h3
 simp [namesL, namesLs] at h3
theorem com_walk : ∀ (w : List Nat) (t a : Nat), t < l.length → (Wk (Uses (l ++ newD u u.length)) t a w ↔ Wk (Uses l) t a w)
 | [], t, a, ht => com_uses ht
 | b :: w, t, a, ht => by
  have ih := com_walk w t b ht
  constructor
  ·rintro ⟨h1, h2⟩
   have h3 := ih.1 h2
   have hb : b < l.length := by
    cases w with
    | nil => exact com_src h2
    | cons => exact com_src h2.1
   exact ⟨(com_uses hb).1 h1, h3⟩
  ·rintro ⟨h1, h2⟩
   exact ⟨(com_uses h1.2.1).2 h1, ih.2 h2⟩
theorem com_closed (i : Nat) (w : List Nat) : Wk (Uses (l ++ newD u u.length)) i i w ↔ Wk (Uses l) i i w := by
 constructor
 ·intro h
  have hi : i < l.length := by
   cases w with
   | nil => exact com_src h
   | cons => exact com_src h.1
  exact (com_walk w i i hi).1 h
 ·intro h
  have hi : i < l.length := by
   cases w with
   | nil => exact h.1
   | cons => exact h.1.1
  exact (com_walk w i i hi).2 h
theorem wk_mem_lt : ∀ (w : List Nat) (t a : Nat), Wk (Uses l) t a w → ∀ x ∈ a :: w, x < l.length
 | [], t, a, h, x, hx => by rw [List.mem_singleton.1 hx]; exact h.1
 | b :: w, t, a, h, x, hx => by
  rcases List.mem_cons.1 hx with rfl | hx
  ·exact h.1.1
  ·exact wk_mem_lt w t b h.2 x hx
theorem com_names {i : Nat} {w : List Nat} (h : Wk (Uses l) i i w) : cnm (nameAt (l ++ newD u u.length)) i w = cnm (nameAt l) i w := by
 have hx := wk_mem_lt w i i h
 show (i :: w).map _ = (i :: w).map _
 refine List.map_congr_left fun x hm => ?_
 unfold nameAt
 rw [com_old (hx x hm)]
theorem com_small {c : List Nm} (h : SmallC (Uses l) (nameAt l) c) : SmallC (Uses (l ++ newD u u.length)) (nameAt (l ++ newD u u.length)) c := h.congr com_closed fun i w hw => com_names hw
theorem com_proper (hu : asc u) (hn : ∀ x ∈ u, (∀ d ∈ l, d.Name ≠ x) ∧ x ∉ measL) : Proper (l ++ newD u u.length) ↔ Proper l := by
 constructor
 ·intro h j hj
  have := h j (by rw [List.length_append]; omega)
  unfold nameAt at this ⊢
  rw [com_old hj] at this
  exact ⟨this.1, fun j' hj' => by have := this.2 j' hj'; rwa [com_old (by omega)] at this⟩
 ·intro h j hj
  rw [List.length_append, newD_len] at hj
  unfold nameAt
  by_cases hjl : j < l.length
  ·rw [com_old hjl]
   exact ⟨(h j hjl).1, fun j' hj' => by rw [com_old (by omega)]; exact (h j hjl).2 j' hj'⟩
  ·obtain ⟨m, rfl⟩ : ∃ m, j = l.length + m := ⟨j - l.length, by omega⟩
   have hm : m < u.length := by omega
   rw [com_new hm]
   have hx := hn _ (getD_mem hm)
   refine ⟨hx.2, fun j' hj' => ?_⟩
   by_cases hj2 : j' < l.length
   ·rw [com_old hj2]; exact hx.1 _ (getD_mem hj2)
   ·obtain ⟨m', rfl⟩ : ∃ m', j' = l.length + m' := ⟨j' - l.length, by omega⟩
    rw [com_new (by omega)]
    intro e
    have e : u.getD m' default = u.getD m default := e
    rw [getD_of (by omega), getD_of hm] at e
    have := (List.getElem_inj (asc_nodup hu)).1 e
    omega
theorem com_un : Un (l ++ newD u u.length) = Un l := by
 unfold Un
 rw [List.flatMap_append]
 have : (newD u u.length).flatMap (fun d => namesL d.Body) = [] := List.flatMap_eq_nil_iff.2 fun d hd => (newD_body hd).1
 rw [this, List.append_nil]
end
theorem unknown_two (D : List Def) (t : List Table) (z : List Zone) (r : List Rule) (c : List Cap) (v : List View) (s : List Point3) (h : Int) : s_define_Unknown_2 D t z r c v s h = s_define_Unknown (Plan.mk D t z r c v s h) := by kernel_rfl
theorem completes_true (p : Plan) (hb : Bnd p) : s_greenbeltlaw16_DefineCompletes p = some true := by
 obtain ⟨b, hf, hs⟩ := few_is hb
 unfold s_greenbeltlaw16_DefineCompletes
 rw [small_true, Option.bind_some, hf, Option.bind_some]
 cases b with
 | false => rfl
 | true =>
  have hp := hs rfl
  have hN := hp.defs
  obtain ⟨u, u1, ua, um⟩ := Unknown_gen hp.pu
  obtain ⟨u', v1, _, v3⟩ := unknown_same hp
  rw [u1] at v1
  obtain rfl : u = u' := Option.some.inj v1
  rw [Bool.not_true, cond_false, u1, Option.bind_some, grd_of (by omega), Option.bind_some]
  have key := for_all (L := s_greenbeltlaw16_DefineCompletes_L1 u) (s := ((0 : Int), p.Defs)) (fun i q => q.1 = (i : Int) ∧ q.2 = p.Defs ++ newD u i) (fun t => t = .inr (p.Defs ++ newD u u.length)) u.length (by omega) ⟨rfl, by simp [newD]⟩ (fun K i q h hi => .inr ?_) (fun K q h => ?_)
  ·obtain ⟨t, g1, rfl⟩ := key
   rw [g1, Option.bind_some]
   dsimp only
   have hmu : ∀ x ∈ u, (∀ d ∈ p.Defs, d.Name ≠ x) ∧ x ∉ measL := fun x hx => ((um x).1 hx).2
   have hqlen : (p.Defs ++ newD u u.length).length ≤ 2500 := by rw [List.length_append, newD_len]; omega
   have hqok : okD (p.Defs ++ newD u u.length) := fun d hd => by
    rcases List.mem_append.1 hd with hd | hd
    ·exact hp.okD d hd
    ·rw [(newD_body hd).1]; simp
   obtain ⟨r, r1, r2, r3⟩ := Order_gen2 (p := p) (by omega) hp.okD
   obtain ⟨r', k1, k2, k3⟩ := Order_gen hqlen hqok p.Tables p.Zones p.Rules p.Caps p.Views p.Sun p.Hours
   have hPP := com_proper (l := p.Defs) ua hmu
   have hCC : (∀ i, i < p.Defs.length → ¬ Cyc (Uses p.Defs) i) → ∀ i, i < (p.Defs ++ newD u u.length).length → ¬ Cyc (Uses (p.Defs ++ newD u u.length)) i := fun h i _ hc => by
    obtain ⟨w, hw⟩ := cyc_wk.1 hc
    have h2 := (com_closed i w).1 hw
    exact h i (wk_mem_lt w i i h2 i (List.mem_cons_self ..)) (cyc_wk.2 ⟨w, h2⟩)
   have hsame : r.2.2 = r'.2.2 ∧ r.2.1 = r'.2.1 ∧ (r'.2.2 = 0 → r'.1.length = (p.Defs ++ newD u u.length).length) := by
    rcases r2 with ⟨hn, rfl⟩ | ⟨hP, c, hne, hsm, rfl⟩ | ⟨hP, hac, o, ho, hol, rfl⟩
    ·rcases k2 with ⟨_, rfl⟩ | ⟨hP', _⟩ | ⟨hP', _⟩
     ·exact ⟨rfl, rfl, fun h => by simp at h⟩
     ·exact absurd (hPP.1 hP') hn
     ·exact absurd (hPP.1 hP') hn
    ·rcases k2 with ⟨hn', _⟩ | ⟨_, c', _, hsm', rfl⟩ | ⟨_, hac', _⟩
     ·exact absurd (hPP.2 hP) hn'
     ·exact ⟨rfl, (com_small hsm).unique hsm', fun h => by simp at h⟩
     ·obtain ⟨i, hi, hc⟩ := small_cyc (com_small (u := u) hsm)
      exact absurd hc (hac' i hi)
    ·rcases k2 with ⟨hn', _⟩ | ⟨_, c', _, hsm', rfl⟩ | ⟨_, hac', o', _, hol', rfl⟩
     ·exact absurd (hPP.2 hP) hn'
     ·obtain ⟨i, hi, hc⟩ := small_cyc hsm'
      exact absurd hc (hCC hac i hi)
     ·exact ⟨rfl, rfl, fun _ => by rw [← hol']; simp [nInts]⟩
   obtain ⟨e1, e2, e3⟩ := hsame
   rw [r1, Option.bind_some, k1, Option.bind_some]
   have hpu : PU (Plan.mk (p.Defs ++ newD u u.length) p.Tables p.Zones p.Rules p.Caps p.Views p.Sun p.Hours) := by
    have h0 := hp.pu
    refine ⟨by show (p.Defs ++ newD u u.length).length ≤ 5000; omega, h0.rules, by show (Un (p.Defs ++ newD u u.length)).length ≤ 1000000; rw [com_un]; exact h0.und, h0.unr, fun d hd => ?_, h0.keyR⟩
    rcases List.mem_append.1 (show d ∈ p.Defs ++ newD u u.length from hd) with hd | hd
    ·exact h0.keyD d hd
    ·rw [(newD_body hd).1]; intro k hk; cases hk
   obtain ⟨q, q1, q2, q3⟩ := Unknown_gen hpu
   have hq0 : q = [] := by
    refine List.eq_nil_iff_forall_not_mem.2 fun x hx => ?_
    obtain ⟨h1, h2, h3⟩ := (q3 x).1 hx
    have hxu : x ∈ u := (um x).2 ⟨by
     rcases h1 with ⟨d, hd, hx⟩ | h
     ·rcases List.mem_append.1 (show d ∈ p.Defs ++ newD u u.length from hd) with hd | hd
      ·exact .inl ⟨d, hd, hx⟩
      ·rw [(newD_body hd).1] at hx; cases hx
     ·exact .inr h, fun d hd => h2 d (List.mem_append_left _ hd), h3⟩
    obtain ⟨d, hd, e⟩ := newD_name hxu
    exact h2 d (List.mem_append_right _ hd) e
   subst hq0
   have hlen : ((bif (decide (r'.2.2 = 0)) then some (!(decide ((List.length r'.1 : Int) = ((p.Defs ++ newD u u.length).length : Int)))) else some false) : Option Bool) = some false := by
    by_cases h0 : r'.2.2 = 0
    ·rw [decide_eq_true h0, cond_true, decide_eq_true (by rw [e3 h0]), Bool.not_true]
    ·rw [decide_eq_false h0, cond_false]
   rw [hlen, Option.bind_some, cond_false, cond_true, unknown_two, q1, Option.bind_some, show decide ((List.length ([] : List Nm) : Int) = 0) = true from rfl, cond_true, decide_eq_true e1, cond_true, sameTexts_is (by omega), Option.bind_some, decide_eq_true e2]
   rfl
  ·obtain ⟨a, D⟩ := q
   obtain ⟨e1, e2⟩ := h
   dsimp only at e1 e2; subst e1 e2
   have hnm := ((um _).1 (getD_mem hi)).2.2
   rw [s_greenbeltlaw16_DefineCompletes_L1, decide_eq_true (by dsimp only; omega), cond_true]
   dsimp only
   have hchk : ((bif (decide ((i : Int) > 0)) then (idx u (w64 ((i : Int) - 1))).bind fun x2 => (idx u (i : Int)).bind fun x3 => (bif (!(Op.bytesLess x2 x3)) then some true else (s_define_Measures ).bind fun y6 => (idx u (i : Int)).bind fun x4 => (s_greenbeltlaw16_has y6 x4).bind fun y7 => some y7) else (s_define_Measures ).bind fun y4 => (idx u (i : Int)).bind fun x1 => (s_greenbeltlaw16_has y4 x1).bind fun y5 => some y5) : Option Bool) = some false := by
    have hm : s_greenbeltlaw16_has measL (u.getD i default) = some false := by rw [lhas_is (by decide), decide_eq_false hnm]
    cases i with
    | zero =>
     rw [decide_eq_false (by omega), cond_false, show s_define_Measures = some measL from rfl, Option.bind_some, idx_of hi, Option.bind_some, hm]; rfl
    | succ i =>
     have : u.getD i default < u.getD (i + 1) default := by
      rw [getD_of (by omega), getD_of hi]
      exact List.pairwise_iff_getElem.1 ua i (i + 1) (by omega) hi (by omega)
     rw [decide_eq_true (by omega), cond_true, w64_id (by omega) (by omega), show ((i + 1 : Nat) : Int) - 1 = (i : Int) by omega, idx_of (by omega), Option.bind_some, idx_of hi, Option.bind_some, bytesLess_eq, decide_eq_true this, Bool.not_true, cond_false, show s_define_Measures = some measL from rfl, Option.bind_some, Option.bind_some, hm]; rfl
   rw [hchk, Option.bind_some, cond_false, idx_of hi, Option.bind_some, grd_of (by rw [List.length_append, List.length_append, newD_len, List.length_singleton]; omega), Option.bind_some, w64_succ hi (by omega)]
   exact ⟨_, ⟨rfl, by dsimp only; rw [List.append_assoc]; simp [newD, List.range_succ]⟩, rfl⟩
  ·obtain ⟨a, D⟩ := q
   obtain ⟨e1, e2⟩ := h
   dsimp only at e1 e2; subst e1 e2
   exact ⟨_, by rw [s_greenbeltlaw16_DefineCompletes_L1, decide_eq_false (by simp), cond_false], rfl⟩
end Go.Proofs.Ytconjkgifdfhdaa
