/- DefineCircles in plain Lean. -/
import Derived.Test.YtconjkgifdfhdaaDo
set_option linter.all false
set_option maxRecDepth 100000
namespace Go.Proofs.Ytconjkgifdfhdaa
open Go Go.RowKit Go.Eng Go.EV Go.Grf
theorem wk_nodup {U : Nat → Nat → Prop} {t L : Nat} (hL : ∀ j m, Wk U j j m → L ≤ m.length) : ∀ (l : List Nat) (a : Nat), Wk U t a l → l.length ≤ L → (a :: l).Nodup
 | [], a, _, _ => by simp
 | b :: l, a, h, hl => by
  have ih := wk_nodup hL l b h.2 (by simp at hl; omega)
  refine List.nodup_cons.2 ⟨fun hm => ?_, ih⟩
  obtain ⟨p, s, e⟩ := List.append_of_mem hm
  rw [e] at h hl
  have h1 := hL _ _ (wk_suffix p a a s h).1
  rw [List.length_append, List.length_cons] at hl
  omega
theorem wk_next {U : Nat → Nat → Prop} {t : Nat} : ∀ (l : List Nat) (a i : Nat), Wk U t a l → i ≤ l.length → U ((a :: l).getD i default) ((l ++ [t]).getD i default)
 | [], a, i, h, hi => by
  obtain rfl : i = 0 := by simpa using hi
  exact h
 | b :: l, a, 0, h, _ => h.1
 | b :: l, a, i + 1, h, hi => wk_next l b i h.2 (by simpa using hi)
variable [Fuel]
theorem use_nm {l : List Def} (hd : Dis l) {i : Nat} (hi : i < l.length) {x : Nm} : Use1 l (nameAt l i) x ↔ x ∈ namesL (l.getD i default).Body := by
 constructor
 ·rintro ⟨d, h1, h2, h3⟩
  obtain ⟨j, hj, rfl⟩ := mem_getD h1
  rw [hd i j hi hj h2.symm]; exact h3
 ·exact fun h => ⟨_, getD_mem hi, rfl, h⟩
theorem use_uses {l : List Def} (hd : Dis l) {i k : Nat} (hi : i < l.length) (hk : k < l.length) : Use1 l (nameAt l i) (nameAt l k) ↔ Uses l i k := by
 rw [use_nm hd hi]
 exact ⟨fun h => ⟨hi, hk, h⟩, fun h => h.2.2⟩
theorem use_src {l : List Def} {s x : Nm} (h : Use1 l s x) : ∃ i, i < l.length ∧ nameAt l i = s := by
 obtain ⟨d, h1, h2, _⟩ := h
 obtain ⟨j, hj, rfl⟩ := mem_getD h1
 exact ⟨j, hj, h2⟩
theorem rch_path {l : List Def} (hd : Dis l) {i k : Nat} (hi : i < l.length) (hk : k < l.length) : Rch l (nameAt l i) (nameAt l k) ↔ ∃ n, Path (Uses l) (n + 1) i k := by
 constructor
 ·intro h
  have : ∀ x, Rch l (nameAt l i) x → ∀ k, k < l.length → nameAt l k = x → ∃ n, Path (Uses l) (n + 1) i k := fun x h => by
   induction h with
   | base h =>
    rintro k hk rfl
    exact ⟨0, .cons ((use_uses hd hi hk).1 h) (.nil _)⟩
   | @step y x h u ih =>
    rintro k hk rfl
    obtain ⟨j, hj, rfl⟩ := use_src u
    obtain ⟨n, hn⟩ := ih j hj rfl
    exact ⟨n + 1, hn.trans (.cons ((use_uses hd hj hk).1 u) (.nil _))⟩
  exact this _ h k hk rfl
 ·rintro ⟨n, hn⟩
  have : ∀ n i k, Path (Uses l) n i k → i < l.length → k = i ∨ Rch l (nameAt l i) (nameAt l k) := fun n i k h => by
   induction h with
   | nil => exact fun _ => .inl rfl
   | @cons n i j k h p ih =>
    intro hi
    have hu := (use_uses hd h.1 h.2.1).2 h
    rcases ih h.2.1 with rfl | ih
    ·exact .inr (.base hu)
    ·exact .inr (ih.head hu)
  cases hn with
  | @cons _ _ j _ h p =>
   have hu := (use_uses hd h.1 h.2.1).2 h
   rcases this _ _ _ p h.2.1 with rfl | h2
   ·exact .base hu
   ·exact h2.head hu
theorem circles_true (p : Plan) (hb : Bnd p) : s_greenbeltlaw16_DefineCircles p = some true := by
 obtain ⟨b, hf, hs⟩ := few_is hb
 unfold s_greenbeltlaw16_DefineCircles
 rw [small_true, Option.bind_some, hf, Option.bind_some]
 cases b with
 | false => rfl
 | true =>
  have hp := hs rfl
  have hN := hp.defs
  obtain ⟨r, h1, h2, h3⟩ := Order_gen2 (p := p) (by omega) hp.okD
  rw [Bool.not_true, cond_false, h1, Option.bind_some]
  have hno : ¬ Proper p.Defs → ((bif (decide (r.2.2 = 5)) then some (decide ((List.length r.2.1 : Int) = 0)) else some false) : Option Bool) = some true := fun hnp => by
   rcases h2 with ⟨_, rfl⟩ | ⟨hP, _⟩ | ⟨hP, _⟩
   ·rfl
   ·exact absurd hP hnp
   ·exact absurd hP hnp
  have key := for_all (L := s_greenbeltlaw16_DefineCircles_L1 p true r) (s := (false, (0 : Int))) (fun i q => q.2 = (i : Int) ∧ (∀ j, j < i → nameAt p.Defs j ∉ measL ∧ ∀ j', j' < j → nameAt p.Defs j' ≠ nameAt p.Defs j) ∧ (q.1 = true ↔ ∃ j, j < i ∧ Rch p.Defs (nameAt p.Defs j) (nameAt p.Defs j)))
   (fun t => t = .inl true ∨ ∃ self, t = .inr self ∧ Proper p.Defs ∧ (self = true ↔ ∃ j, j < p.Defs.length ∧ Rch p.Defs (nameAt p.Defs j) (nameAt p.Defs j))) p.Defs.length (by omega) ⟨rfl, fun j hj => by omega, by simp⟩ (fun K i q h hi => ?_) (fun K q h => ?_)
  ·obtain ⟨t, g1, g2⟩ := key
   rw [g1, Option.bind_some]
   rcases g2 with rfl | ⟨self, rfl, hP, hself⟩
   ·rfl
   ·dsimp only
    have hD := hP.dis
    have hcyc : self = true ↔ ∃ j, j < p.Defs.length ∧ Cyc (Uses p.Defs) j := by
     rw [hself]
     constructor
     ·rintro ⟨j, hj, h⟩; exact ⟨j, hj, (rch_path hD hj hj).1 h⟩
     ·rintro ⟨j, hj, h⟩; exact ⟨j, hj, (rch_path hD hj hj).2 h⟩
    rcases h2 with ⟨hnp, _⟩ | ⟨_, c, hne, hsm, rfl⟩ | ⟨_, hac, o, _, _, rfl⟩
    ·exact absurd hP hnp
    ·have hst : self = true := by
      obtain ⟨i, hi, hc⟩ := small_cyc hsm
      exact hcyc.2 ⟨i, hi, hc⟩
     subst hst
     have hcl : (c.length : Int) ≠ 0 := by cases c with | nil => exact absurd rfl hne | cons => simp; omega
     dsimp only at h3 ⊢
     rw [Bool.not_true, cond_false, decide_eq_true rfl, Bool.not_true, cond_false, decide_eq_false hcl, Option.bind_some, cond_false]
     obtain ⟨⟨i0, w, hw, rfl⟩, hbest⟩ := hsm
     have hL : ∀ j m, Wk (Uses p.Defs) j j m → w.length ≤ m.length := fun j m hm => by
      rcases hbest j m hm with h | ⟨h, _⟩
      ·rw [cnm_len, cnm_len] at h; omega
      ·rw [cnm_len, cnm_len] at h; omega
     have hnd := wk_nodup hL w i0 hw (Nat.le_refl _)
     have hltN : ∀ x ∈ i0 :: w, x < p.Defs.length := fun x hx => by
      obtain ⟨i, hi, rfl⟩ := mem_getD hx
      exact (wk_next w i0 i hw (by simpa using Nat.lt_succ_iff.1 (by simpa using hi))).1
     have hcl2 : (cnm (nameAt p.Defs) i0 w).length = w.length + 1 := cnm_len ..
     have hcget : ∀ i, i < w.length + 1 → (cnm (nameAt p.Defs) i0 w).getD i default = nameAt p.Defs ((i0 :: w).getD i default) := fun i hi => by
      rw [show cnm (nameAt p.Defs) i0 w = (i0 :: w).map (nameAt p.Defs) from rfl, getD_of (by simpa using hi), getD_of (by simpa using hi), List.getElem_map]
     have hwl : w.length ≤ 5000 := by rw [hcl2] at h3; omega
     have keyc := for_all (L := s_greenbeltlaw16_DefineCircles_L3 p ([], cnm (nameAt p.Defs) i0 w, 16)) (s := (0 : Int)) (fun i a => a = (i : Int)) (fun t => t = .inr ()) (w.length + 1) (by omega) rfl (fun K i a h hi => .inr ?_) (fun K a h => ?_)
     ·obtain ⟨t, k1, rfl⟩ := keyc
      rw [k1, Option.bind_some]
      dsimp only
      have keyd := for_all (L := s_greenbeltlaw16_DefineCircles_L4 p ([], cnm (nameAt p.Defs) i0 w, 16)) (s := (0 : Int)) (fun i a => a = (i : Int)) (fun t => t = .inr ()) p.Defs.length (by omega) rfl (fun K i a h hi => .inr ?_) (fun K a h => ?_)
      ·obtain ⟨t, k2, rfl⟩ := keyd
       rw [k2]; rfl
      ·subst h
       rw [s_greenbeltlaw16_DefineCircles_L4, decide_eq_true (by omega), cond_true, idx_of hi, Option.bind_some]
       have keye := for_all (L := s_greenbeltlaw16_DefineCircles_L5 p ([], cnm (nameAt p.Defs) i0 w, 16) (i : Int)) (s := ([nameAt p.Defs i], (1 : Int))) (fun n q => q.2 = ((n + 1 : Nat) : Int) ∧ q.1.length ≤ 1200 ∧ ∀ k, k < p.Defs.length → nameAt p.Defs k ∈ q.1 → Path (Uses p.Defs) n i k) (fun t => t = .inr ()) w.length (by omega) ⟨rfl, by simp, fun k hk hm => by
        rw [List.mem_singleton] at hm
        rw [hD k i hk hi hm]; exact .nil _⟩ (fun K n q h hn => .inr ?_) (fun K q h => ?_)
       ·obtain ⟨t, k3, rfl⟩ := keye
        refine ⟨((i + 1 : Nat) : Int), rfl, ?_⟩
        show (s_greenbeltlaw16_DefineCircles_L5 p ([], cnm (nameAt p.Defs) i0 w, 16) (i : Int) KK ([nameAt p.Defs i], 1)).bind _ = _
        rw [k3, Option.bind_some, w64_succ hi (by omega)]
       ·obtain ⟨at_, a⟩ := q
        obtain ⟨e1, hal, ha⟩ := h
        dsimp only at e1 hal ha; subst e1
        obtain ⟨u, u1, u2, u3, u4⟩ := used_is hp (l := at_) (by omega)
        have hpath : ∀ k, k < p.Defs.length → nameAt p.Defs k ∈ u → Path (Uses p.Defs) (n + 1) i k := fun k hk hm => by
         obtain ⟨s, hs, hu⟩ := (u3 _).1 hm
         obtain ⟨j, hj, rfl⟩ := use_src hu
         exact (ha j hj hs).trans (.cons ((use_uses hD hj hk).1 hu) (.nil _))
        have hno2 : nameAt p.Defs i ∉ u := fun hm => by
         obtain ⟨m, hm1, hm2⟩ := path_wk n i (hpath i hi hm)
         have := hL i m hm2; omega
        rw [s_greenbeltlaw16_DefineCircles_L5, decide_eq_true (by dsimp only; omega), cond_true, u1, Option.bind_some, idx_of hi, Option.bind_some, lhas_is (by omega), Option.bind_some, decide_eq_false hno2, cond_false]
        dsimp only
        rw [w64_id (by omega) (by omega)]
        exact ⟨_, ⟨by omega, u4, hpath⟩, rfl⟩
       ·obtain ⟨at_, a⟩ := q
        obtain ⟨e1, _⟩ := h
        dsimp only at e1; subst e1
        exact ⟨_, by rw [s_greenbeltlaw16_DefineCircles_L5, decide_eq_false (by dsimp only; omega), cond_false], rfl⟩
      ·subst h
       exact ⟨_, by rw [s_greenbeltlaw16_DefineCircles_L4, decide_eq_false (by omega), cond_false], rfl⟩
     ·subst h
      have hic : i < (cnm (nameAt p.Defs) i0 w).length := by omega
      have h0c : 0 < (cnm (nameAt p.Defs) i0 w).length := by omega
      have hiw : i < (i0 :: w).length := by simpa using hi
      have hbN := hltN _ (getD_mem hiw)
      have hcut : cut (cnm (nameAt p.Defs) i0 w) 0 (i : Int) = some ((cnm (nameAt p.Defs) i0 w).take i) := by
       have := cut_of (l := cnm (nameAt p.Defs) i0 w) (a := 0) (b := i) (by omega) (by omega)
       rw [List.drop_zero, Nat.sub_zero] at this; exact this
      have hnot : (cnm (nameAt p.Defs) i0 w).getD i default ∉ (cnm (nameAt p.Defs) i0 w).take i := fun hm => by
       obtain ⟨j, hj, e⟩ := mem_getD hm
       rw [List.length_take] at hj
       have e2 : ((cnm (nameAt p.Defs) i0 w).take i).getD j default = (cnm (nameAt p.Defs) i0 w).getD j default := by
        rw [List.getD_eq_getElem?_getD, List.getElem?_take, if_pos (by omega), ← List.getD_eq_getElem?_getD]
       rw [e2, hcget i hi, hcget j (by omega)] at e
       have hjw : j < (i0 :: w).length := by simp; omega
       have e3 := hD _ _ hbN (hltN _ (getD_mem hjw)) e
       rw [getD_of hiw, getD_of hjw] at e3
       have := (List.getElem_inj hnd).1 e3
       omega
      have hlt : ¬ (cnm (nameAt p.Defs) i0 w).getD i default < (cnm (nameAt p.Defs) i0 w).getD 0 default := fun hlt => by
       rw [hcget i hi, hcget 0 (by omega)] at hlt
       cases i with
       | zero => exact nm_irrefl _ hlt
       | succ i =>
        have hi2 : i < w.length := by omega
        have e : w = w.take i ++ w.getD i default :: w.drop (i + 1) := by rw [← drop_cons hi2, List.take_append_drop]
        rw [e] at hw
        obtain ⟨q1, q2⟩ := wk_suffix _ _ _ _ hw
        have q3 := wk_join _ _ _ _ q2 q1
        have hlen : (w.drop (i + 1) ++ i0 :: w.take i).length = w.length := by
         rw [List.length_append, List.length_cons, List.length_drop, List.length_take]; omega
        rcases hbest _ _ q3 with h | ⟨_, h⟩
        ·rw [cnm_len, cnm_len, hlen] at h; omega
        ·rcases h with h | ⟨h, _⟩
         ·exact nm_asymm h hlt
         ·exact nm_irrefl (nameAt p.Defs (w.getD i default)) (by rw [List.getD_cons_succ, List.getD_cons_zero, h] at hlt; exact hlt)
      have hmod : (i + 1) % (w.length + 1) < w.length + 1 := Nat.mod_lt _ (by omega)
      obtain ⟨u, u1, u2, u3, u4⟩ := used_is hp (l := [(cnm (nameAt p.Defs) i0 w).getD i default]) (by simp)
      have hnext : (cnm (nameAt p.Defs) i0 w).getD ((i + 1) % (w.length + 1)) default ∈ u := by
       have hU := wk_next w i0 i hw (by omega)
       have e : (i0 :: w).getD ((i + 1) % (w.length + 1)) default = (w ++ [i0]).getD i default := by
        by_cases h : i + 1 < w.length + 1
        ·rw [Nat.mod_eq_of_lt h, List.getD_cons_succ, List.getD_eq_getElem?_getD, List.getD_eq_getElem?_getD, List.getElem?_append_left (by omega)]
        ·obtain rfl : i = w.length := by omega
         rw [Nat.mod_self, List.getD_cons_zero, List.getD_eq_getElem?_getD, List.getElem?_append_right (Nat.le_refl _), Nat.sub_self]; rfl
       rw [u3]
       refine ⟨_, List.mem_singleton.2 rfl, ?_⟩
       rw [hcget i hi, hcget _ hmod, e]
       exact (use_uses hD hU.1 hU.2.1).2 hU
      rw [s_greenbeltlaw16_DefineCircles_L3, hcl2, decide_eq_true (by omega), cond_true, hcut, Option.bind_some, idx_of hic, Option.bind_some, lhas_is (by rw [List.length_take]; omega), Option.bind_some, decide_eq_false hnot, cond_false, Option.bind_some, show idx (cnm (nameAt p.Defs) i0 w) 0 = some ((cnm (nameAt p.Defs) i0 w).getD 0 default) from idx_of h0c, Option.bind_some, bytesLess_eq, decide_eq_false hlt, cond_false, Option.bind_some, u1, Option.bind_some, grd_of (by omega), Option.bind_some, w64_succ (N := w.length + 1) hi (by omega), show Int.tmod ((i + 1 : Nat) : Int) ((w.length + 1 : Nat) : Int) = (((i + 1) % (w.length + 1) : Nat) : Int) from rfl, idx_of (show (i + 1) % (w.length + 1) < (cnm (nameAt p.Defs) i0 w).length by omega), Option.bind_some, lhas_is (by omega), Option.bind_some, decide_eq_true hnext, Bool.not_true, Option.bind_some, cond_false]
      exact ⟨_, rfl, rfl⟩
     ·subst h
      exact ⟨_, by rw [s_greenbeltlaw16_DefineCircles_L3, hcl2, decide_eq_false (by omega), cond_false], rfl⟩
    ·have hsf : self = false := by
      cases hv : self with
      | false => rfl
      | true =>
       obtain ⟨j, hj, hc⟩ := hcyc.1 hv
       exact absurd hc (hac j hj)
     subst hsf
     rfl
  ·obtain ⟨self, a⟩ := q
   obtain ⟨e1, hpr, hself⟩ := h
   dsimp only at e1 hself; subst e1
   rw [s_greenbeltlaw16_DefineCircles_L1, decide_eq_true (by dsimp only; omega), cond_true]
   dsimp only
   have key2 := for_all (L := s_greenbeltlaw16_DefineCircles_L2 p true r (self, (i : Int))) (s := (0 : Int)) (fun j a => a = (j : Int) ∧ ∀ j', j' < j → nameAt p.Defs j' ≠ nameAt p.Defs i) (fun t => t = .inl true ∨ t = .inr () ∧ ∀ j', j' < i → nameAt p.Defs j' ≠ nameAt p.Defs i) i (by omega) ⟨rfl, fun j hj => by omega⟩ (fun K j a h hj => ?_) (fun K a h => ?_)
   ·obtain ⟨t, g1, g2⟩ := key2
    rw [g1, Option.bind_some]
    rcases g2 with rfl | ⟨rfl, hdis⟩
    ·exact .inl ⟨_, rfl, .inl rfl⟩
    ·dsimp only
     rw [show s_define_Measures = some measL from rfl, Option.bind_some, idx_of hi, Option.bind_some, lhas_is (by decide), Option.bind_some]
     by_cases hm : (p.Defs.getD i default).Name ∈ measL
     ·rw [decide_eq_true hm, cond_true, cond_true, hno fun hP => (hP i hi).1 hm, Option.bind_some]
      exact .inl ⟨_, rfl, .inl rfl⟩
     ·rw [decide_eq_false hm, cond_false, w64_succ hi (by omega)]
      obtain ⟨q, q1, q2, q3⟩ := Reaches_gen hp.pb (p.Defs.getD i default).Name
      have hql := Reaches_len hp.pb q2 q3
      have hun := hp.un
      have hpr' : ∀ j, j < i + 1 → nameAt p.Defs j ∉ measL ∧ ∀ j', j' < j → nameAt p.Defs j' ≠ nameAt p.Defs j := fun j hj => by
       by_cases e : j = i
       ·subst e; exact ⟨hm, hdis⟩
       ·exact hpr j (by omega)
      cases hsv : self with
      | true =>
       rw [cond_true, Option.bind_some]
       refine .inr ⟨_, ⟨rfl, hpr', ?_⟩, rfl⟩
       obtain ⟨j, hj, h⟩ := hself.1 hsv
       exact ⟨fun _ => ⟨j, by omega, h⟩, fun _ => rfl⟩
      | false =>
       rw [cond_false, Option.bind_some, q1, Option.bind_some, Option.bind_some, lhas_is (by omega), Option.bind_some, Option.bind_some]
       refine .inr ⟨_, ⟨rfl, hpr', ?_⟩, rfl⟩
       dsimp only
       rw [decide_eq_true_eq, q3]
       constructor
       ·exact fun h => ⟨i, by omega, h⟩
       ·rintro ⟨j, hj, h⟩
        by_cases e : j = i
        ·subst e; exact h
        ·have := hself.2 ⟨j, by omega, h⟩
         rw [hsv] at this; cases this
   ·obtain ⟨rfl, h⟩ := h
    have hjl : j < p.Defs.length := by omega
    rw [s_greenbeltlaw16_DefineCircles_L2, decide_eq_true (by dsimp only; omega), cond_true, idx_of hjl, Option.bind_some]
    dsimp only
    rw [idx_of hi, Option.bind_some, w64_succ hjl (by omega)]
    by_cases e : (p.Defs.getD j default).Name = (p.Defs.getD i default).Name
    ·rw [decide_eq_true e, cond_true, cond_true, hno fun hP => (hP i hi).2 j hj e, Option.bind_some]
     exact .inl ⟨_, rfl, .inl rfl⟩
    ·rw [decide_eq_false e, cond_false]
     refine .inr ⟨_, ⟨rfl, fun j' hj' => ?_⟩, rfl⟩
     by_cases h2 : j' = j
     ·subst h2; exact e
     ·exact h j' (by omega)
   ·obtain ⟨rfl, h⟩ := h
    exact ⟨_, by rw [s_greenbeltlaw16_DefineCircles_L2, decide_eq_false (by dsimp only; omega), cond_false], .inr ⟨rfl, h⟩⟩
  ·obtain ⟨self, a⟩ := q
   obtain ⟨e1, hpr, hself⟩ := h
   dsimp only at e1 hself; subst e1
   exact ⟨_, by rw [s_greenbeltlaw16_DefineCircles_L1, decide_eq_false (by dsimp only; omega), cond_false], .inr ⟨self, rfl, hpr, hself⟩⟩
end Go.Proofs.Ytconjkgifdfhdaa
