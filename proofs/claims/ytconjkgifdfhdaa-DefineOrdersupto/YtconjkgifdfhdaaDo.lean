/- DefineTells and DefineOrders in plain Lean. -/
import Derived.Test.YtconjkgifdfhdaaDn
set_option linter.all false
set_option maxRecDepth 100000
namespace Go.Proofs.Ytconjkgifdfhdaa
open Go Go.RowKit Go.Eng Go.EV Go.Grf
theorem cano_get {N : Nat} {U : Nat → Nat → Prop} {nm : Nat → Nm} {o : List Nat} (h : CanO N U nm o) : ∀ i, i < o.length → Rdy N U (o.take i) (o.getD i default) ∧ ∀ y, Rdy N U (o.take i) y → ¬ nm y < nm (o.getD i default) := by
 induction h with
 | nil => intro i hi; simp at hi
 | @snoc o x h hx hm ih =>
  intro i hi
  rw [List.length_append, List.length_singleton] at hi
  by_cases e : i < o.length
  ·rw [List.take_append_of_le_length (by omega), List.getD_eq_getElem?_getD, List.getElem?_append_left e, ← List.getD_eq_getElem?_getD]
   exact ih i e
  ·obtain rfl : i = o.length := by omega
   rw [List.take_left' rfl, List.getD_eq_getElem?_getD, List.getElem?_append_right (Nat.le_refl _), Nat.sub_self]
   exact ⟨hx, hm⟩
variable [Fuel]
theorem orders_true (p : Plan) (hb : Bnd p) : s_greenbeltlaw16_DefineOrders p = some true := by
 obtain ⟨b, hf, hs⟩ := few_is hb
 unfold s_greenbeltlaw16_DefineOrders
 rw [small_true, Option.bind_some, hf, Option.bind_some]
 cases b with
 | false => rfl
 | true =>
  have hp := hs rfl
  have hN := hp.defs
  obtain ⟨r, h1, h2, h3⟩ := Order_gen2 (p := p) (by omega) hp.okD
  rw [Bool.not_true, cond_false, h1, Option.bind_some]
  rcases h2 with ⟨_, rfl⟩ | ⟨_, c, _, _, rfl⟩ | ⟨hP, hac, o, ho, hol, rfl⟩
  ·rfl
  ·rfl
  ·dsimp only
   have hD := hP.dis
   have hnl : (nInts o).length = p.Defs.length := by simp [nInts, hol]
   have hget : ∀ i, i < o.length → (nInts o).getD i default = ((o.getD i default : Nat) : Int) := fun i hi => by
    unfold nInts
    rw [getD_of (by simpa using hi), getD_of hi, List.getElem_map]
   rw [decide_eq_true rfl, Bool.not_true, cond_false, hnl, decide_eq_true rfl, Bool.not_true, cond_false]
   have hmemD : ∀ j i, j < p.Defs.length → i ≤ o.length → (nameAt p.Defs j ∈ (o.take i).map (nameAt p.Defs) ↔ j ∈ o.take i) := fun j i hj hi => by
    constructor
    ·intro h
     obtain ⟨k, hk, e⟩ := List.mem_map.1 h
     have hkN : k < p.Defs.length := by
      obtain ⟨m, hm, rfl⟩ := mem_getD (List.mem_of_mem_take hk)
      exact (cano_get ho m hm).1.1
     rw [← hD k j hkN hj e]; exact hk
    ·exact fun h => List.mem_map_of_mem h
   have hfree : ∀ i x, i ≤ o.length → x < p.Defs.length → ((∀ j, j < p.Defs.length → nameAt p.Defs j ∈ namesL (p.Defs.getD x default).Body → nameAt p.Defs j ∈ (o.take i).map (nameAt p.Defs)) ↔ ∀ k, Uses p.Defs x k → k ∈ o.take i) := fun i x hi hx => by
    constructor
    ·intro h k hu
     exact (hmemD k i hu.2.1 hi).1 (h k hu.2.1 hu.2.2)
    ·intro h j hj hm
     exact (hmemD j i hj hi).2 (h j ⟨hx, hj, hm⟩)
   have key := for_all (L := s_greenbeltlaw16_DefineOrders_L1 p (nInts o, [], 0)) (s := ((0 : Int), ([] : List Nm))) (fun i q => q.1 = (i : Int) ∧ q.2 = (o.take i).map (nameAt p.Defs)) (fun t => t = .inr ()) o.length (by omega) ⟨rfl, by simp⟩ (fun K i q h hi => .inr ?_) (fun K q h => ?_)
   ·obtain ⟨t, g1, rfl⟩ := key
    rw [g1]; rfl
   ·obtain ⟨a, done⟩ := q
    obtain ⟨e1, e2⟩ := h
    dsimp only at e1 e2; subst e1 e2
    obtain ⟨⟨hx, hxo, hxu⟩, hmin⟩ := cano_get ho i hi
    have hdl : ((o.take i).map (nameAt p.Defs)).length < 2 ^ 62 := by rw [List.length_map, List.length_take]; omega
    obtain ⟨b, hb1, hb2⟩ := free_is hp (getD_mem hx) hdl
    have hbt : b = true := hb2.2 ((hfree i _ (by omega) hx).2 hxu)
    subst hbt
    have hii : i < (nInts o).length := by omega
    rw [s_greenbeltlaw16_DefineOrders_L1, decide_eq_true (by dsimp only; omega), cond_true]
    dsimp only
    rw [idx_of hii, Option.bind_some, hget i hi, decide_eq_false (by omega), cond_false, Option.bind_some, decide_eq_false (by omega), Option.bind_some, cond_false, Option.bind_some, idx_of hx, Option.bind_some, lhas_is hdl, Option.bind_some]
    have hno : (p.Defs.getD (o.getD i default) default).Name ∉ (o.take i).map (nameAt p.Defs) := fun h => hxo ((hmemD _ i hx (by omega)).1 h)
    rw [decide_eq_false hno, cond_false, hb1, Option.bind_some, Bool.not_true, Option.bind_some, cond_false]
    have key2 := for_all (L := s_greenbeltlaw16_DefineOrders_L2 p (p.Defs.getD (o.getD i default) default) ((i : Int), (o.take i).map (nameAt p.Defs))) (s := (0 : Int)) (fun k a => a = (k : Int)) (fun t => t = .inr ()) p.Defs.length (by omega) rfl (fun K k a h hk => .inr ?_) (fun K a h => ?_)
    ·obtain ⟨t, g1, rfl⟩ := key2
     rw [g1, Option.bind_some]
     dsimp only
     rw [grd_of (by rw [List.length_append, List.length_map, List.length_take, List.length_singleton]; omega), Option.bind_some, w64_succ hi (by omega)]
     exact ⟨_, ⟨rfl, by rw [take_snoc hi, List.map_append]; rfl⟩, rfl⟩
    ·subst h
     rw [s_greenbeltlaw16_DefineOrders_L2, decide_eq_true (by omega), cond_true, idx_of hk, Option.bind_some, bytesLess_eq, w64_succ hk (by omega)]
     dsimp only
     by_cases hlt : (p.Defs.getD k default).Name < (p.Defs.getD (o.getD i default) default).Name
     ·rw [decide_eq_true hlt, cond_true, Option.bind_some, lhas_is hdl, Option.bind_some]
      by_cases hkd : (p.Defs.getD k default).Name ∈ (o.take i).map (nameAt p.Defs)
      ·rw [decide_eq_true hkd, Bool.not_true, cond_false, Option.bind_some, cond_false]
       exact ⟨_, rfl, rfl⟩
      ·rw [decide_eq_false hkd, Bool.not_false, cond_true, Option.bind_some]
       obtain ⟨b, hb1, hb2⟩ := free_is hp (getD_mem hk) hdl
       cases b with
       | true =>
        exfalso
        exact hmin k ⟨hk, fun h => hkd ((hmemD k i hk (by omega)).2 h), (hfree i k (by omega) hk).1 (hb2.1 rfl)⟩ hlt
       | false =>
        rw [hb1, Option.bind_some, Option.bind_some, cond_false]
        exact ⟨_, rfl, rfl⟩
     ·rw [decide_eq_false hlt, cond_false, Option.bind_some, cond_false]
      exact ⟨_, rfl, rfl⟩
    ·subst h
     exact ⟨_, by rw [s_greenbeltlaw16_DefineOrders_L2, decide_eq_false (by omega), cond_false], rfl⟩
   ·obtain ⟨a, done⟩ := q
    obtain ⟨e1, e2⟩ := h
    dsimp only at e1 e2; subst e1 e2
    exact ⟨_, by rw [s_greenbeltlaw16_DefineOrders_L1, decide_eq_false (by dsimp only; omega), cond_false], rfl⟩
end Go.Proofs.Ytconjkgifdfhdaa
