/- define.Order, to the sign. -/
import Derived.Test.YtconjkgifdfhdaaDa
set_option linter.all false
set_option maxRecDepth 100000
namespace Go.Proofs.Ytconjkgifdfhdaa
open Go Go.RowKit Go.Eng Go.EV Go.Grf
variable [Fuel]
def Ready (U : Nat → Nat → Prop) (done : List Bool) (i : Nat) : Prop := done.getD i default = false ∧ ∀ k, U i k → done.getD k default = true
def LeastR (l : List Def) (U : Nat → Nat → Prop) (done : List Bool) (n : Nat) (r : Int) : Prop :=
 (r = -1 ∧ ∀ j, j < n → ¬ Ready U done j) ∨ ∃ k : Nat, r = k ∧ k < l.length ∧ Ready U done k ∧ ∀ j, j < n → Ready U done j → ¬ nameAt l j < nameAt l k
theorem LeastR.stay {l : List Def} {U : Nat → Nat → Prop} {done : List Bool} {n : Nat} {r : Int} (h : LeastR l U done n r) (hn : ¬ Ready U done n) : LeastR l U done (n + 1) r := by
 rcases h with ⟨h1, h2⟩ | ⟨k, h1, h2, h3, h4⟩
 ·refine .inl ⟨h1, fun j hj => ?_⟩
  by_cases e : j = n
  ·subst e; exact hn
  ·exact h2 j (by omega)
 ·refine .inr ⟨k, h1, h2, h3, fun j hj hr => ?_⟩
  by_cases e : j = n
  ·subst e; exact absurd hr hn
  ·exact h4 j (by omega) hr
theorem LeastR.keep {l : List Def} {U : Nat → Nat → Prop} {done : List Bool} {n k : Nat} (h : LeastR l U done n (k : Int)) (hk : k < l.length) (hn : ¬ nameAt l n < nameAt l k) : LeastR l U done (n + 1) (k : Int) := by
 rcases h with ⟨h1, h2⟩ | ⟨k', h1, h2, h3, h4⟩
 ·omega
 ·obtain rfl : k = k' := by omega
  refine .inr ⟨k, rfl, h2, h3, fun j hj hr => ?_⟩
  by_cases e : j = n
  ·subst e; exact hn
  ·exact h4 j (by omega) hr
theorem LeastR.first {l : List Def} {U : Nat → Nat → Prop} {done : List Bool} {n : Nat} (h : LeastR l U done n (-1)) (hn : n < l.length) (hr : Ready U done n) : LeastR l U done (n + 1) (n : Int) := by
 rcases h with ⟨h1, h2⟩ | ⟨k', h1, _⟩
 ·refine .inr ⟨n, rfl, hn, hr, fun j hj hr' => ?_⟩
  by_cases e : j = n
  ·subst e; exact nm_irrefl _
  ·exact absurd hr' (h2 j (by omega))
 ·omega
theorem LeastR.take {l : List Def} {U : Nat → Nat → Prop} {done : List Bool} {n k : Nat} (h : LeastR l U done n (k : Int)) (hn : n < l.length) (hr : Ready U done n) (hlt : nameAt l n < nameAt l k) : LeastR l U done (n + 1) (n : Int) := by
 rcases h with ⟨h1, h2⟩ | ⟨k', h1, h2, h3, h4⟩
 ·omega
 ·obtain rfl : k = k' := by omega
  refine .inr ⟨n, rfl, hn, hr, fun j hj hr' hj2 => ?_⟩
  by_cases e : j = n
  ·subst e; exact nm_irrefl _ hj2
  ·exact h4 j (by omega) hr' (nm_trans hj2 hlt)
theorem order_L2g {l : List Def} {U : Nat → Nat → Prop} {us : List (List Int)} (hg : Gr l.length U us) (hN : l.length ≤ 5000) {done : List Bool} (hd : done.length = l.length) :
  ∃ r, s_define_graph_order_L2 l us KK (-1, 0, done) = some (r, done) ∧ LeastR l U done l.length r := by
 have key := for_all (L := s_define_graph_order_L2 l us) (s := ((-1 : Int), (0 : Int), done))
  (fun i q => q.2.1 = (i : Int) ∧ q.2.2 = done ∧ LeastR l U done i q.1)
  (fun t => ∃ r, t = (r, done) ∧ LeastR l U done l.length r) l.length (by omega) ⟨rfl, rfl, .inl ⟨rfl, fun j hj => by omega⟩⟩ (fun K i q h hi => .inr ?_) (fun K q h => ?_)
 ·obtain ⟨t, h1, r, rfl, h2⟩ := key
  exact ⟨r, h1, h2⟩
 ·obtain ⟨r, a, d⟩ := q
  obtain ⟨e1, e2, h⟩ := h
  dsimp only at e1 e2 h; subst e1 e2
  have hiu : i < us.length := by rw [hg.len]; exact hi
  obtain ⟨b, hb, hbs⟩ := cf_is (s := us.getD i default) (done := d) (by have := hg.few i hi; omega) fun x hx => by
   obtain ⟨k, e, hu⟩ := (hg.mem i hi x).1 hx
   exact ⟨k, e, by rw [hd]; exact (hg.dom _ _ hu).2⟩
  have hrd : (b = false ∧ d.getD i default = false) ↔ Ready U d i := by
   unfold Ready
   constructor
   ·rintro ⟨hb0, hd0⟩
    refine ⟨hd0, fun k hu => ?_⟩
    cases hk : d.getD k default with
    | true => rfl
    | false => exact absurd (hbs.2 ⟨k, (hg.mem i hi _).2 ⟨k, rfl, hu⟩, hk⟩) (by rw [hb0]; simp)
   ·rintro ⟨hd0, hk⟩
    refine ⟨?_, hd0⟩
    cases hbv : b with
    | false => rfl
    | true =>
     obtain ⟨k, hm, hf⟩ := hbs.1 hbv
     obtain ⟨k', e, hu⟩ := (hg.mem i hi _).1 hm
     obtain rfl : k = k' := by omega
     rw [hk k hu] at hf; cases hf
  rw [s_define_graph_order_L2, decide_eq_true (by dsimp only; rw [hg.len]; omega), cond_true, idx_of hiu, Option.bind_some]
  dsimp only
  rw [hb, Option.bind_some]
  dsimp only
  rw [grd_of ⟨by omega, by omega⟩, Option.bind_some, Option.bind_some, toNat_nat, w64_succ hi (by omega)]
  cases hd0 : d.getD i default with
  | true =>
   rw [Bool.not_true, cond_false, Option.bind_some, cond_false, Option.bind_some]
   exact ⟨(r, ((i + 1 : Nat) : Int), d), ⟨rfl, rfl, h.stay fun hr => by rw [hr.1] at hd0; cases hd0⟩, rfl⟩
  | false =>
   rw [Bool.not_false, cond_true]
   cases hbv : b with
   | true =>
    rw [Bool.not_true, cond_false, Option.bind_some, cond_false, Option.bind_some]
    exact ⟨(r, ((i + 1 : Nat) : Int), d), ⟨rfl, rfl, h.stay fun hr => by rw [(hrd.2 hr).1] at hbv; cases hbv⟩, rfl⟩
   | false =>
    have hri := hrd.1 ⟨hbv, hd0⟩
    rw [Bool.not_false, cond_true]
    by_cases hr0 : r = -1
    ·subst hr0
     rw [decide_eq_true (by omega), cond_true, Option.bind_some, cond_true, Option.bind_some]
     exact ⟨((i : Int), ((i + 1 : Nat) : Int), d), ⟨rfl, rfl, h.first hi hri⟩, rfl⟩
    ·obtain ⟨k, rfl, hk⟩ : ∃ k : Nat, r = k ∧ k < l.length := by
      rcases h with ⟨h1, _⟩ | ⟨k, h1, h2, _⟩
      ·exact absurd h1 hr0
      ·exact ⟨k, h1, h2⟩
     rw [decide_eq_false (by omega), cond_false, idx_of hi, Option.bind_some, idx_of hk, Option.bind_some, Option.bind_some, bytesLess_eq]
     by_cases hlt : nameAt l i < nameAt l k
     ·rw [decide_eq_true hlt, cond_true, Option.bind_some]
      exact ⟨((i : Int), ((i + 1 : Nat) : Int), d), ⟨rfl, rfl, h.take hi hri hlt⟩, rfl⟩
     ·rw [decide_eq_false hlt, cond_false, Option.bind_some]
      exact ⟨((k : Int), ((i + 1 : Nat) : Int), d), ⟨rfl, rfl, h.keep hk hlt⟩, rfl⟩
 ·obtain ⟨r, a, d⟩ := q
  obtain ⟨e1, e2, h⟩ := h
  dsimp only at e1 e2 h; subst e1 e2
  exact ⟨_, by rw [s_define_graph_order_L2, decide_eq_false (by dsimp only; rw [hg.len]; omega), cond_false], r, rfl, h⟩
theorem can_done {l : List Def} {U : Nat → Nat → Prop} (hU : ∀ i k, U i k → i < l.length ∧ k < l.length) {d : List Bool} {o : List Nat} (hdo : ∀ k, k < l.length → (d.getD k default = true ↔ k ∈ o)) {x : Nat} (hx : x < l.length) : Ready U d x ↔ Rdy l.length U o x := by
 unfold Ready Rdy
 rw [← Bool.not_eq_true, hdo x hx]
 constructor
 ·rintro ⟨a, b⟩; exact ⟨hx, a, fun k hu => (hdo k (hU _ _ hu).2).1 (b k hu)⟩
 ·rintro ⟨_, a, b⟩; exact ⟨a, fun k hu => (hdo k (hU _ _ hu).2).2 (b k hu)⟩
theorem done_set {l : List Def} {d : List Bool} {o : List Nat} (hd : d.length = l.length) (hdo : ∀ k, k < l.length → (d.getD k default = true ↔ k ∈ o)) {k : Nat} (hk : k < l.length) : ∀ x, x < l.length → ((d.set k true).getD x default = true ↔ x ∈ o ++ [k]) := fun x hx => by
 rw [getD_set (by omega)]
 by_cases e : x = k
 ·subst e; simp
 ·rw [if_neg e, hdo x hx]; simp [e]
theorem order_gen {l : List Def} {U : Nat → Nat → Prop} {us : List (List Int)} (hg : Gr l.length U us) (hN : l.length ≤ 5000) (hac : ∀ i, i < l.length → ¬ Cyc U i) :
  ∃ o : List Nat, s_define_graph_order l us = some (nInts o, l, us) ∧ CanO l.length U (nameAt l) o ∧ o.length = l.length := by
 have key := for_all (L := s_define_graph_order_L1 l us) (s := ((0 : Int), List.replicate l.length false, ([] : List Int)))
  (fun i q => q.1 = (i : Int) ∧ q.2.1.length = l.length ∧ ∃ o : List Nat, q.2.2 = nInts o ∧ o.length = i ∧ CanO l.length U (nameAt l) o ∧ ∀ k, k < l.length → (q.2.1.getD k default = true ↔ k ∈ o))
  (fun t => ∃ o : List Nat, t = nInts o ∧ CanO l.length U (nameAt l) o ∧ o.length = l.length) l.length (by omega) ⟨rfl, by simp, [], rfl, rfl, .nil, fun k hk => by dsimp only; rw [getD_rep hk]; simp⟩ (fun K i q h hi => .inr ?_) (fun K q h => ?_)
 ·obtain ⟨t, h1, o, rfl, h2⟩ := key
  refine ⟨o, ?_, h2⟩
  unfold s_define_graph_order
  rw [grd_of ⟨by omega, by omega, by omega⟩, Option.bind_some, toNat_nat, h1, Option.bind_some]
 ·obtain ⟨a, d, out⟩ := q
  obtain ⟨e1, hd, o, e2, hol, ht, hdo⟩ := h
  dsimp only at e1 e2 hd hdo; subst e1 e2
  obtain ⟨r, hr, hrs⟩ := order_L2g hg hN hd
  rcases hrs with ⟨_, hno⟩ | ⟨k, rfl, hk, hkr, hkm⟩
  ·obtain ⟨x, hx, hxo, hxd⟩ := ready_ex hg.dom hac (o := o) (by omega)
   exact absurd ((can_done hg.dom hdo hx).2 ⟨hx, hxo, hxd⟩) (hno x hx)
  ·have hkl : k < d.length := by omega
   rw [s_define_graph_order_L1, decide_eq_true (by dsimp only; omega), cond_true]
   dsimp only
   rw [hr, Option.bind_some]
   dsimp only
   rw [grd_of ⟨by omega, by omega⟩, Option.bind_some, Option.bind_some, toNat_nat, grd_of (by unfold nInts; rw [List.length_append, List.length_map, List.length_singleton]; omega), Option.bind_some, w64_succ hi (by omega)]
   exact ⟨(((i + 1 : Nat) : Int), d.set k true, nInts o ++ [(k : Int)]), ⟨rfl, by dsimp only; rw [List.length_set]; exact hd, o ++ [k], by simp [nInts], by simp [hol], ht.snoc ((can_done hg.dom hdo hk).1 hkr) fun y hy => hkm y hy.1 ((can_done hg.dom hdo hy.1).2 hy), done_set hd hdo hk⟩, rfl⟩
 ·obtain ⟨a, d, out⟩ := q
  obtain ⟨e1, hd, o, e2, hol, ht, hdo⟩ := h
  dsimp only at e1 e2 hd hdo; subst e1 e2
  exact ⟨_, by rw [s_define_graph_order_L1, decide_eq_false (by simp), cond_false], o, rfl, ht, hol⟩
def OrdS (l : List Def) (r : List Int × List (List UInt8) × Int) : Prop :=
 (¬ Proper l ∧ r = ([], [], 5)) ∨ (Proper l ∧ ∃ c, c ≠ [] ∧ SmallC (Uses l) (nameAt l) c ∧ r = ([], c, 16)) ∨
 (Proper l ∧ (∀ i, i < l.length → ¬ Cyc (Uses l) i) ∧ ∃ o, CanO l.length (Uses l) (nameAt l) o ∧ o.length = l.length ∧ r = (nInts o, [], 0))
omit [Fuel] in
theorem small_cyc {l : List Def} {c : List (List UInt8)} (h : SmallC (Uses l) (nameAt l) c) : ∃ i, i < l.length ∧ Cyc (Uses l) i := by
 obtain ⟨i, w, h1, _⟩ := h.1
 refine ⟨i, ?_, cyc_wk.2 ⟨w, h1⟩⟩
 cases w with
 | nil => exact h1.1
 | cons => exact h1.1.1
theorem OrdS.unique {l : List Def} {r r' : List Int × List (List UInt8) × Int} (h : OrdS l r) (h' : OrdS l r') : r = r' := by
 rcases h with ⟨h1, rfl⟩ | ⟨h1, c, h2, h3, rfl⟩ | ⟨h1, h2, o, h3, h4, rfl⟩
 ·rcases h' with ⟨_, rfl⟩ | ⟨k1, _⟩ | ⟨k1, _⟩
  ·rfl
  ·exact absurd k1 h1
  ·exact absurd k1 h1
 ·rcases h' with ⟨k1, _⟩ | ⟨k1, c', k2, k3, rfl⟩ | ⟨k1, k2, _⟩
  ·exact absurd h1 k1
  ·rw [h3.unique k3]
  ·obtain ⟨i, hi, hc⟩ := small_cyc h3
   exact absurd hc (k2 i hi)
 ·rcases h' with ⟨k1, _⟩ | ⟨k1, c', k2, k3, rfl⟩ | ⟨k1, k2, o', k3, k4, rfl⟩
  ·exact absurd h1 k1
  ·obtain ⟨i, hi, hc⟩ := small_cyc k3
   exact absurd hc (h2 i hi)
  ·rw [h3.unique h1.dis k3 (by omega)]
theorem Order_gen {l : List Def} (hN : l.length ≤ 2500) (hok : okD l) (t : List Table) (z : List Zone) (ru : List Rule) (ca : List Cap) (vi : List View) (su : List Point3) (ho : Int) : ∃ r, s_define_Order l t z ru ca vi su ho = some r ∧ OrdS l r ∧ r.2.1.length ≤ 5001 := by
 have key := for_all (L := s_define_Order_L2 l) (s := ((0 : Int), measL.map fun s => (s, true)))
  (fun i q => q.1 = (i : Int) ∧ (∀ s, (mfind s q.2).getD false = true ↔ s ∈ measL ∨ ∃ j, j < i ∧ nameAt l j = s) ∧ ∀ j, j < i → nameAt l j ∉ measL ∧ ∀ j', j' < j → nameAt l j' ≠ nameAt l j)
  (fun t => match t with | .inl r => r = ([], [], 5) ∧ ¬ Proper l | .inr _ => Proper l) l.length (by omega) ⟨rfl, fun s => by dsimp only; rw [find_true]; exact ⟨.inl, fun h => h.elim id fun ⟨j, hj, _⟩ => by omega⟩, fun j hj => by omega⟩ (fun K i q h hi => ?_) (fun K q h => ?_)
 ·obtain ⟨tt, h1, h2⟩ := key
  unfold s_define_Order
  rw [show s_define_Measures = some measL from rfl, Option.bind_some, meas_is, Option.bind_some, h1, Option.bind_some]
  cases tt with
  | inl r =>
   dsimp only at h2
   obtain ⟨rfl, hnp⟩ := h2
   exact ⟨_, rfl, .inl ⟨hnp, rfl⟩, by simp⟩
  | inr u =>
   dsimp only at h2
   dsimp only
   obtain ⟨us, hu, hg, hS⟩ := newGraph_gen (by omega) h2.dis hok
   rw [hu, Option.bind_some]
   dsimp only
   obtain ⟨c, hc, hcl, hcs⟩ := smallest_gen hg hS h2.dis hN
   rw [hc, Option.bind_some]
   dsimp only
   rcases hcs with ⟨rfl, hac⟩ | ⟨hne, hsm⟩
   ·obtain ⟨o, ho, ht, hl⟩ := order_gen hg (by omega) hac
    rw [List.isEmpty_nil, Bool.not_true, cond_false, ho, Option.bind_some]
    exact ⟨_, rfl, .inr (.inr ⟨h2, hac, o, ht, hl, rfl⟩), by simp⟩
   ·have : List.isEmpty c = false := by cases c with | nil => exact absurd rfl hne | cons => rfl
    rw [this, Bool.not_false, cond_true]
    exact ⟨_, rfl, .inr (.inl ⟨h2, c, hne, hsm, rfl⟩), hcl⟩
 ·obtain ⟨a, m⟩ := q
  obtain ⟨e1, hm, hp⟩ := h
  dsimp only at e1 hm hp; subst e1
  rw [s_define_Order_L2, decide_eq_true (by dsimp only; omega), cond_true, idx_of hi, Option.bind_some, w64_succ hi (by omega)]
  dsimp only
  cases hf : (mfind (l.getD i default).Name m).getD false with
  | true =>
   rw [cond_true]
   refine .inl ⟨_, rfl, rfl, fun hP => ?_⟩
   rcases (hm _).1 hf with h | ⟨j, hj, h⟩
   ·exact (hP i hi).1 h
   ·exact (hP i hi).2 j hj h
  | false =>
   rw [cond_false]
   have hno : ∀ j, j < i → nameAt l j ≠ nameAt l i := fun j hj e => by have := (hm _).2 (.inr ⟨j, hj, e⟩); rw [hf] at this; cases this
   have hnm : nameAt l i ∉ measL := fun e => by have := (hm _).2 (.inl e); rw [hf] at this; cases this
   refine .inr ⟨_, ⟨rfl, fun s => ?_, fun j hj => ?_⟩, rfl⟩
   ·dsimp only
    rw [mfind_mset]
    by_cases hs : s = nameAt l i
    ·rw [if_pos hs]; simp only [Option.getD_some, true_iff]
     exact .inr ⟨i, by omega, hs.symm⟩
    ·rw [if_neg hs, hm s]
     constructor
     ·rintro (h | ⟨j, hj, h⟩)
      ·exact .inl h
      ·exact .inr ⟨j, by omega, h⟩
     ·rintro (h | ⟨j, hj, h⟩)
      ·exact .inl h
      ·by_cases e : j = i
       ·subst e; exact absurd h.symm hs
       ·exact .inr ⟨j, by omega, h⟩
   ·by_cases e : j = i
    ·subst e; exact ⟨hnm, hno⟩
    ·exact hp j (by omega)
 ·obtain ⟨a, m⟩ := q
  obtain ⟨e1, hm, hp⟩ := h
  dsimp only at e1 hm hp; subst e1
  exact ⟨.inr (), by rw [s_define_Order_L2, decide_eq_false (by simp), cond_false], hp⟩
theorem Order_two (p : Plan) : s_define_Order_2 p = s_define_Order p.Defs p.Tables p.Zones p.Rules p.Caps p.Views p.Sun p.Hours := by kernel_rfl
theorem Order_gen2 {p : Plan} (hN : p.Defs.length ≤ 2500) (hok : okD p.Defs) : ∃ r, s_define_Order_2 p = some r ∧ OrdS p.Defs r ∧ r.2.1.length ≤ 5001 := by
 rw [Order_two]; exact Order_gen hN hok ..
end Go.Proofs.Ytconjkgifdfhdaa
