/- DefineDepends in plain Lean. -/
import Derived.Test.YtconjkgifdfhdaaDo
set_option linter.all false
set_option maxRecDepth 100000
namespace Go.Proofs.Ytconjkgifdfhdaa
open Go Go.RowKit Go.Eng Go.EV Go.Grf
variable [Fuel]
theorem depends_at {p : Plan} (hp : Small p) (n : Nm) : ∃ y3 y4, s_greenbeltlaw16_used p [n] = some y3 ∧ s_define_Reaches_2 p n = some y4 ∧ s_greenbeltlaw16_DefineDepends_L2 p y3 y4 KK (0, 0) = some (.inr (y3.length : Int)) := by
 obtain ⟨y3, h1, hnd, hm, hl⟩ := used_is hp (l := [n]) (by simp)
 obtain ⟨y4, k1, ka, km⟩ := Reaches_gen hp.pb n
 have kl := Reaches_len hp.pb ka km
 have hun := hp.un
 have hm' : ∀ x, x ∈ y3 ↔ Use1 p.Defs n x := fun x => by rw [hm]; simp
 refine ⟨y3, y4, h1, k1, ?_⟩
 have cntl : (y4.filter fun x => decide (x ∈ y3)).length = y3.length := by
  have hsub : ∀ x ∈ y3, x ∈ y4 := fun x hx => (km x).2 (.base ((hm' x).1 hx))
  refine Nat.le_antisymm (nodup_sub _ _ ((asc_nodup ka).sublist List.filter_sublist) fun x hx => ?_) (nodup_sub _ _ hnd fun x hx => ?_)
  ·exact of_decide_eq_true (List.mem_filter.1 hx).2
  ·exact List.mem_filter.2 ⟨hsub x hx, decide_eq_true hx⟩
 have key := for_all (L := s_greenbeltlaw16_DefineDepends_L2 p y3 y4) (s := ((0 : Int), (0 : Int))) (fun k q => q.2 = (k : Int) ∧ q.1 = (((y4.take k).filter fun x => decide (x ∈ y3)).length : Int)) (fun t => t = .inr (y3.length : Int)) y4.length (by omega) ⟨rfl, by simp⟩ (fun K k q h hk => .inr ?_) (fun K q h => ?_)
 ·obtain ⟨t, g1, rfl⟩ := key; exact g1
 ·obtain ⟨m, a⟩ := q
  obtain ⟨e1, e2⟩ := h
  dsimp only at e1 e2; subst e1 e2
  have hmem := getD_mem hk
  have hR := (km _).1 hmem
  rw [s_greenbeltlaw16_DefineDepends_L2, decide_eq_true (by dsimp only; omega), cond_true]
  dsimp only
  have hasc : ((bif (decide ((k : Int) > 0)) then (idx y4 (w64 ((k : Int) - 1))).bind fun x2 => (idx y4 (k : Int)).bind fun x3 => some (!(Op.bytesLess x2 x3)) else some false) : Option Bool) = some false := by
   cases k with
   | zero => rfl
   | succ k =>
    rw [decide_eq_true (by omega), cond_true, w64_id (by omega) (by omega), show ((k + 1 : Nat) : Int) - 1 = (k : Int) by omega, idx_of (by omega), Option.bind_some, idx_of hk, Option.bind_some, bytesLess_eq]
    have : y4.getD k default < y4.getD (k + 1) default := by
     rw [getD_of (by omega), getD_of hk]
     exact List.pairwise_iff_getElem.1 ka k (k + 1) (by omega) hk (by omega)
    rw [decide_eq_true this]; rfl
  rw [hasc, Option.bind_some, cond_false, idx_of hk, Option.bind_some, lhas_is (by omega), Option.bind_some]
  -- every name is used, or something used depends on it
  have keyi := for_all (L := s_greenbeltlaw16_DefineDepends_L3 p y3 y4 ((((y4.take k).filter fun x => decide (x ∈ y3)).length : Int), (k : Int))) (s := (decide (y4.getD k default ∈ y3), (0 : Int))) (fun j q => q.2 = (j : Int) ∧ (q.1 = true ↔ y4.getD k default ∈ y3 ∨ ∃ j', j' < j ∧ Rch p.Defs (y3.getD j' default) (y4.getD k default)))
   (fun b => b = true) y3.length (by omega) ⟨rfl, by simp⟩ (fun K j q h hj => .inr ?_) (fun K q h => ?_)
  ·obtain ⟨bb, i1, rfl⟩ := keyi
   rw [i1, Option.bind_some, Bool.not_true, cond_false, Option.bind_some, lhas_is (by omega), Option.bind_some]
   obtain ⟨y9, n1, n2, n3, n4⟩ := used_is hp (l := [y4.getD k default]) (by simp)
   have keyn := for_all (L := s_greenbeltlaw16_DefineDepends_L4 y4 y9) (s := (0 : Int)) (fun j a => a = (j : Int)) (fun t => t = .inr ()) y9.length (by omega) rfl (fun K j a h hj => .inr ?_) (fun K a h => ?_)
   ·obtain ⟨t, g1, rfl⟩ := keyn
    have hcnt : ((((y4.take (k + 1)).filter fun x => decide (x ∈ y3)).length : Nat) : Int) = if y4.getD k default ∈ y3 then w64 ((((y4.take k).filter fun x => decide (x ∈ y3)).length : Int) + 1) else (((y4.take k).filter fun x => decide (x ∈ y3)).length : Int) := by
     have hle := List.length_filter_le (fun x => decide (x ∈ y3)) (y4.take k)
     rw [List.length_take] at hle
     rw [take_snoc hk, List.filter_append, List.length_append]
     by_cases e : y4.getD k default ∈ y3
     ·rw [if_pos e, List.filter_cons, if_pos (decide_eq_true e), w64_id (by omega) (by omega)]; simp
     ·rw [if_neg e, List.filter_cons, if_neg (by rw [decide_eq_true_eq]; exact e)]; simp
    by_cases e : y4.getD k default ∈ y3
    ·rw [if_pos e] at hcnt
     rw [decide_eq_true e, cond_true, Option.bind_some, Option.bind_some, n1, Option.bind_some, g1, Option.bind_some, w64_succ hk (by omega)]
     exact ⟨_, ⟨rfl, hcnt.symm⟩, rfl⟩
    ·rw [if_neg e] at hcnt
     rw [decide_eq_false e, cond_false, Option.bind_some, Option.bind_some, n1, Option.bind_some, g1, Option.bind_some, w64_succ hk (by omega)]
     exact ⟨_, ⟨rfl, hcnt.symm⟩, rfl⟩
   ·subst h
    have hin : y9.getD j default ∈ y4 := by
     obtain ⟨s, hs, hu⟩ := (n3 _).1 (getD_mem hj)
     rw [List.mem_singleton.1 hs] at hu
     exact (km _).2 (.step hR hu)
    rw [s_greenbeltlaw16_DefineDepends_L4, decide_eq_true (by omega), cond_true, idx_of hj, Option.bind_some, lhas_is (by omega), Option.bind_some, decide_eq_true hin, Bool.not_true, cond_false, w64_succ hj (by omega)]
    exact ⟨_, rfl, rfl⟩
   ·subst h
    exact ⟨_, by rw [s_greenbeltlaw16_DefineDepends_L4, decide_eq_false (by omega), cond_false], rfl⟩
  ·obtain ⟨b, a⟩ := q
   obtain ⟨e1, hb⟩ := h
   dsimp only at e1 hb; subst e1
   rw [s_greenbeltlaw16_DefineDepends_L3, decide_eq_true (by dsimp only; omega), cond_true]
   dsimp only
   rw [w64_succ hj (by omega)]
   cases b with
   | true =>
    rw [cond_true, Option.bind_some]
    refine ⟨(true, ((j + 1 : Nat) : Int)), ⟨rfl, fun _ => ?_, fun _ => rfl⟩, rfl⟩
    exact (hb.1 rfl).imp_right fun ⟨j', h1, h2⟩ => ⟨j', by omega, h2⟩
   | false =>
    obtain ⟨q, q1, q2, q3⟩ := Reaches_gen hp.pb (y3.getD j default)
    have ql := Reaches_len hp.pb q2 q3
    rw [cond_false, idx_of hj, Option.bind_some, q1, Option.bind_some, idx_of hk, Option.bind_some, lhas_is (by omega), Option.bind_some, Option.bind_some]
    refine ⟨(_, ((j + 1 : Nat) : Int)), ⟨rfl, ?_⟩, rfl⟩
    dsimp only
    rw [decide_eq_true_eq, q3]
    constructor
    ·exact fun h => .inr ⟨j, by omega, h⟩
    ·rintro (h | ⟨j', h1, h2⟩)
     ·exact absurd (hb.2 (.inl h)) (by simp)
     ·by_cases e : j' = j
      ·subst e; exact h2
      ·exact absurd (hb.2 (.inr ⟨j', by omega, h2⟩)) (by simp)
  ·obtain ⟨b, a⟩ := q
   obtain ⟨e1, hb⟩ := h
   dsimp only at e1 hb; subst e1
   refine ⟨b, by rw [s_greenbeltlaw16_DefineDepends_L3, decide_eq_false (by simp), cond_false], hb.2 ?_⟩
   have : ∀ x, Rch p.Defs n x → x ∈ y3 ∨ ∃ y ∈ y3, Rch p.Defs y x := fun x hx => by
    induction hx with
    | base h => exact .inl ((hm' _).2 h)
    | @step y x _ u ih =>
     rcases ih with ih | ⟨z, h1, h2⟩
     ·exact .inr ⟨y, ih, .base u⟩
     ·exact .inr ⟨z, h1, .step h2 u⟩
   rcases this _ hR with h | ⟨y, h1, h2⟩
   ·exact .inl h
   ·obtain ⟨j, hj, rfl⟩ := mem_getD h1
    exact .inr ⟨j, hj, h2⟩
 ·obtain ⟨m, a⟩ := q
  obtain ⟨e1, e2⟩ := h
  dsimp only at e1 e2; subst e1 e2
  rw [List.take_length, cntl]
  exact ⟨_, by rw [s_greenbeltlaw16_DefineDepends_L2, decide_eq_false (by simp), cond_false], rfl⟩
theorem depends_true (p : Plan) (s : Nm) (hb : Bnd p) : s_greenbeltlaw16_DefineDepends p s = some true := by
 obtain ⟨b, hf, hs⟩ := few_is hb
 unfold s_greenbeltlaw16_DefineDepends
 rw [small_true, Option.bind_some, hf, Option.bind_some]
 cases b with
 | false => rfl
 | true =>
  have hp := hs rfl
  have hN := hp.defs
  rw [Bool.not_true, cond_false]
  have key := for_all (L := s_greenbeltlaw16_DefineDepends_L1 p s) (s := (-1 : Int)) (fun i a => a = (i : Int) - 1) (fun t => t = .inr ()) (p.Defs.length + 1) (by omega) rfl (fun K i a h hi => .inr ?_) (fun K a h => ?_)
  ·obtain ⟨t, g1, rfl⟩ := key
   rw [g1]; rfl
  ·subst h
   rw [s_greenbeltlaw16_DefineDepends_L1, decide_eq_true (by omega), cond_true]
   have hn : ∃ n, ((bif (decide ((i : Int) - 1 ≥ 0)) then (idx p.Defs ((i : Int) - 1)).bind fun x1 => some x1.Name else some s) : Option Nm) = some n := by
    cases i with
    | zero => exact ⟨s, rfl⟩
    | succ i =>
     rw [decide_eq_true (by omega), cond_true, show ((i + 1 : Nat) : Int) - 1 = (i : Int) by omega, idx_of (by omega)]
     exact ⟨_, rfl⟩
   obtain ⟨n, hn⟩ := hn
   obtain ⟨y3, y4, u1, u2, u3⟩ := depends_at hp n
   rw [hn, Option.bind_some, u1, Option.bind_some, u2, Option.bind_some, u3, Option.bind_some]
   dsimp only
   rw [decide_eq_true rfl, Bool.not_true, cond_false, w64_id (by omega) (by omega)]
   exact ⟨_, by omega, rfl⟩
  ·subst h
   exact ⟨_, by rw [s_greenbeltlaw16_DefineDepends_L1, decide_eq_false (by omega), cond_false], rfl⟩
end Go.Proofs.Ytconjkgifdfhdaa
