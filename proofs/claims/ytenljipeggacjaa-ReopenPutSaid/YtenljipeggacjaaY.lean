/- The bounds, the list of the formulas as Make makes them, the examples of the documentation. -/
import Derived.Test.YtenljipeggacjaaX
set_option linter.all false
set_option maxRecDepth 100000
namespace Go.Proofs.Ytenljipeggacjaa
open Go Go.RowKit Go.Eng Go.EV

mutual
def okE : Expr → Prop
  | ⟨_, _, s, _, args⟩ => s.length ≤ 9223372036854775807 ∧ args.length ≤ 9223372036854775807 ∧ okEs args
def okEs : List Expr → Prop
  | [] => True
  | x :: r => okE x ∧ okEs r
end
theorem okEs_mem : ∀ {l : List Expr}, okEs l → ∀ x ∈ l, okE x
  | [], _, _, h => by cases h
  | y :: l, h, x, hx => by
    rw [okEs] at h
    rcases List.mem_cons.1 hx with rfl | hx
    · exact h.1
    · exact okEs_mem h.2 x hx
theorem okE_eq (e : Expr) : okE e = (e.S.length ≤ 9223372036854775807 ∧ e.Args.length ≤ 9223372036854775807 ∧ okEs e.Args) := by cases e; rw [okE]
theorem arg_size {e x : Expr} (h : x ∈ e.Args) : SizeOf.sizeOf x < SizeOf.sizeOf e := by
  have h1 := List.sizeOf_lt_of_mem h
  obtain ⟨a, b, c, d, l⟩ := e
  rw [Expr.mk.sizeOf_spec]
  simp only at h1
  omega
theorem namesLs_mem {k : List UInt8} : ∀ {l : List Expr}, k ∈ namesLs l → ∃ x ∈ l, k ∈ namesL x
  | [], h => by rw [namesLs] at h; cases h
  | y :: l, h => by
    rw [namesLs, List.mem_append] at h
    rcases h with h | h
    · exact ⟨y, List.mem_cons_self .., h⟩
    · obtain ⟨x, h1, h2⟩ := namesLs_mem h
      exact ⟨x, List.mem_cons_of_mem _ h1, h2⟩
theorem okE_names : ∀ (d : Nat) (e : Expr), SizeOf.sizeOf e ≤ d → okE e → ∀ k ∈ namesL e, k.length ≤ 9223372036854775807
  | 0, e, h, _ => by
    exfalso
    cases e
    rw [Expr.mk.sizeOf_spec] at h; omega
  | d + 1, e, h, ho => by
    intro k hk
    rw [okE_eq] at ho
    rw [namesL_eq, List.mem_append] at hk
    rcases hk with hk | hk
    · split at hk
      · rw [List.mem_singleton] at hk; subst hk; exact ho.1
      · cases hk
    · obtain ⟨x, h1, h2⟩ := namesLs_mem hk
      have := arg_size h1
      exact okE_names d x (by omega) (okEs_mem ho.2.2 x h1) k h2
variable [Fuel]
theorem size_loop (rc : Expr → Option Int) (e : Expr) (hl : e.Args.length ≤ 9223372036854775807) (hx : ∀ x ∈ e.Args, ∃ y, rc x = some y) : ∀ (n i K : Nat) (s : Int), i + n = e.Args.length → n < K → ∃ r, s_greenbeltref16_Size_L1 rc e K (s, (i : Int)) = some r
  | 0, i, K, s, h, hK => by
    obtain ⟨K, rfl⟩ : ∃ K', K = K' + 1 := ⟨K - 1, by omega⟩
    rw [s_greenbeltref16_Size_L1, decide_eq_false (by simp only; omega)]
    exact ⟨s, rfl⟩
  | n + 1, i, K, s, h, hK => by
    obtain ⟨K, rfl⟩ : ∃ K', K = K' + 1 := ⟨K - 1, by omega⟩
    have hi : i < e.Args.length := by omega
    obtain ⟨y, hy⟩ := hx _ (getD_mem hi)
    rw [s_greenbeltref16_Size_L1, decide_eq_true (by simp only; omega), cond_true, idx_of hi, Option.bind_some, hy, Option.bind_some]
    simp only
    rw [w64_id (n := (i : Int) + 1) (by omega) (by omega), show ((i : Int) + 1) = ((i + 1 : Nat) : Int) by omega]
    exact size_loop rc e hl hx n (i + 1) K _ (by omega) (by omega)
theorem size_ex : ∀ (d : Nat) (e : Expr), SizeOf.sizeOf e ≤ d → okE e → ∀ K, d < K → ∃ r, s_greenbeltref16_Size K e = some r
  | 0, e, h, _ => by
    exfalso
    cases e
    rw [Expr.mk.sizeOf_spec] at h; omega
  | d + 1, e, h, ho => by
    intro K hK
    obtain ⟨K, rfl⟩ : ∃ K', K = K' + 1 := ⟨K - 1, by omega⟩
    rw [okE_eq] at ho
    obtain ⟨r, hr⟩ := size_loop (s_greenbeltref16_Size K) e ho.2.1 (fun x hx => by
      have := arg_size hx
      exact size_ex d x (by omega) (okEs_mem ho.2.2 x hx) K (by omega)) e.Args.length 0 KK 1 (by omega) (by have := KK_big; omega)
    rw [show ((0 : Nat) : Int) = 0 from rfl] at hr
    rw [s_greenbeltref16_Size, hr]
    exact ⟨_, rfl⟩
/-- A formula whose body fits, and is no deeper than the fuel. -/
def okF (f : Formula) : Prop := okE f.Body ∧ SizeOf.sizeOf f.Body < KK
theorem okF.names {f : Formula} (h : okF f) : okN f := okE_names _ f.Body (Nat.le_refl _) h.1
theorem few_loop {l : List Formula} (h : ∀ f ∈ l, okF f) : ∀ (n i K : Nat), i + n = 9 → n < K → ∃ r, s_greenbeltref45_Few_L1 l K (i : Int) = some r ∧ ∀ b, r = .inl b → b = false
  | n, i, K, hi, hK => by
    obtain ⟨K, rfl⟩ : ∃ K', K = K' + 1 := ⟨K - 1, by omega⟩
    rw [s_greenbeltref45_Few_L1]
    by_cases h1 : i < l.length
    · by_cases h2 : i ≤ 8
      · obtain ⟨y, hy⟩ := size_ex _ _ (Nat.le_refl _) (h _ (getD_mem h1)).1 KK (h _ (getD_mem h1)).2
        rw [decide_eq_true (show (i : Int) < (l.length : Int) by omega), decide_eq_true (show (i : Int) ≤ 8 by omega), cond_true, Option.bind_some, cond_true, idx_of h1]
        simp only [Option.bind_some]
        rw [hy, Option.bind_some]
        obtain ⟨n, rfl⟩ : ∃ n', n = n' + 1 := ⟨n - 1, by omega⟩
        obtain ⟨r, hr, hb⟩ := few_loop h n (i + 1) K (by omega) (by omega)
        rw [w64_id (by omega) (by omega), show ((i : Int) + 1) = ((i + 1 : Nat) : Int) by omega, hr]
        cases decide (y > 40) with
        | true => exact ⟨_, rfl, fun b e => by cases e; rfl⟩
        | false =>
          simp only [cond_false, Option.bind_some]
          cases decide ((List.length (l.getD i default).Asked : Int) > 20) with
          | true => exact ⟨_, rfl, fun b e => by cases e; rfl⟩
          | false => exact ⟨_, rfl, hb⟩
      · rw [decide_eq_true (show (i : Int) < (l.length : Int) by omega), decide_eq_false (show ¬ (i : Int) ≤ 8 by omega)]
        exact ⟨_, rfl, fun b e => by cases e⟩
    · rw [decide_eq_false (show ¬ (i : Int) < (l.length : Int) by omega)]
      exact ⟨_, rfl, fun b e => by cases e⟩
theorem few_ex (base : List Fact) {l : List Formula} (h : ∀ f ∈ l, okF f) : ∃ b, s_greenbeltref45_Few base l = some b ∧ (b = true → base.length ≤ 30 ∧ l.length ≤ 8) := by
  obtain ⟨r, hr, hb⟩ := few_loop h 9 0 KK (by omega) (by have := KK_big; omega)
  rw [show ((0 : Nat) : Int) = 0 from rfl] at hr
  unfold s_greenbeltref45_Few
  rw [hr, Option.bind_some]
  cases r with
  | inl b => exact ⟨b, rfl, fun e => by have := hb b rfl; rw [e] at this; cases this⟩
  | inr u =>
    by_cases h1 : base.length ≤ 30
    · refine ⟨decide ((List.length l : Int) ≤ 8), by rw [decide_eq_true (show (base.length : Int) ≤ 30 by omega)]; rfl, fun e => ?_⟩
      have := of_decide_eq_true e
      omega
    · exact ⟨false, by rw [decide_eq_false (show ¬ (base.length : Int) ≤ 30 by omega)]; rfl, fun e => by cases e⟩
def goodB (base : List Fact) (f : Formula) : Bool := rightB base && RightB f
theorem made_loop {base : List Fact} {l : List Formula} (h : base.length < 2 ^ 62) (hl : l.length ≤ 1000) (hk : ∀ f ∈ l, okN f) :
    ∀ (n i K : Nat) (s : List Formula), i + n = l.length → n < K → s.length ≤ i → s_greenbeltlaw45_made_L1 base l K ((i : Int), s) = some (if (l.drop i).all (goodB base) = true then .inr (s ++ (l.drop i).map (makeF base)) else .inl ([], false))
  | 0, i, K, s, hi, hK, _ => by
    obtain ⟨K, rfl⟩ : ∃ K', K = K' + 1 := ⟨K - 1, by omega⟩
    rw [s_greenbeltlaw45_made_L1, decide_eq_false (by simp only; omega), cond_false, List.drop_of_length_le (by omega)]
    simp
  | n + 1, i, K, s, hi, hK, hs => by
    obtain ⟨K, rfl⟩ : ∃ K', K = K' + 1 := ⟨K - 1, by omega⟩
    have hlt : i < l.length := by omega
    rw [s_greenbeltlaw45_made_L1, decide_eq_true (by simp only; omega), cond_true, idx_of hlt, Option.bind_some, s_Make h (hk _ (getD_mem hlt)), Option.bind_some, drop_cons hlt, List.all_cons]
    by_cases hg : rightB base = true ∧ RightB (l.getD i default) = true
    · rw [if_pos hg]
      simp only [decide_true, Bool.not_true, cond_false]
      rw [grd_of (by simp; omega), Option.bind_some, w64_id (by omega) (by omega), show ((i : Int) + 1) = ((i + 1 : Nat) : Int) by omega, made_loop h hl hk n (i + 1) K _ (by omega) (by omega) (by simp; omega)]
      have : goodB base (l.getD i default) = true := by unfold goodB; rw [hg.1, hg.2]; rfl
      rw [this, Bool.true_and, List.map_cons, List.append_assoc]; rfl
    · have : goodB base (l.getD i default) = false := by
        unfold goodB
        cases h1 : rightB base with
        | false => rfl
        | true =>
          cases h2 : RightB (l.getD i default) with
          | false => rfl
          | true => exact absurd ⟨h1, h2⟩ hg
      rw [if_neg hg, this, Bool.false_and, if_neg (by simp)]
      rfl
theorem s_made {base : List Fact} {l : List Formula} (h : base.length < 2 ^ 62) (hl : l.length ≤ 1000) (hk : ∀ f ∈ l, okN f) : s_greenbeltlaw45_made base l = some (if l.all (goodB base) = true then (l.map (makeF base), true) else ([], false)) := by
  have key := made_loop h hl hk l.length 0 KK [] (by omega) (by have := KK_big; omega) (by simp)
  rw [show ((0 : Nat) : Int) = 0 from rfl, List.drop_zero] at key
  unfold s_greenbeltlaw45_made
  rw [key, Option.bind_some]
  by_cases hg : l.all (goodB base) = true
  · rw [if_pos hg, if_pos hg]; rfl
  · rw [if_neg hg, if_neg hg]
end Go.Proofs.Ytenljipeggacjaa
