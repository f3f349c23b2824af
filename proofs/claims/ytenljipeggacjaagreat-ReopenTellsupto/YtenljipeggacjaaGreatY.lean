/- The bounds, the list of the formulas as Make makes them, the examples of the documentation. -/
import Derived.Test.YtenljipeggacjaaGreatX
set_option linter.all false
set_option maxRecDepth 100000
namespace Go.Proofs.YtenljipeggacjaaGreat
open Go Go.RowKit Go.Eng Go.EV

mutual
def okE : Expr → Prop
 | ⟨_, _, s, _, args⟩ => s.length ≤ 9223372036854775807 ∧ args.length ≤ 9223372036854775807 ∧ okEs args
def okEs : List Expr → Prop
 | [] => True
 | x :: r => okE x ∧ okEs r
end
theorem okEs_mem : ∀ {l : List Expr}, okEs l → ∀ x ∈ l, okE x
 | [], _, _, h => by cases h
 | y :: l, h, x, hx => by
  rw [okEs] at h
  rcases List.mem_cons.1 hx with rfl | hx
  ·exact h.1
  ·exact okEs_mem h.2 x hx
theorem okE_eq (e : Expr) : okE e = (e.S.length ≤ 9223372036854775807 ∧ e.Args.length ≤ 9223372036854775807 ∧ okEs e.Args) := by cases e; rw [okE]
theorem arg_size {e x : Expr} (h : x ∈ e.Args) : SizeOf.sizeOf x < SizeOf.sizeOf e := by
 have h1 := List.sizeOf_lt_of_mem h
 obtain ⟨a, b, c, d, l⟩ := e
 rw [Expr.mk.sizeOf_spec]
 simp only at h1
 omega
theorem namesLs_mem {k : List UInt8} : ∀ {l : List Expr}, k ∈ namesLs l → ∃ x ∈ l, k ∈ namesL x
 | [], h => by rw [namesLs] at h; cases h
 | y :: l, h => by
  rw [namesLs, List.mem_append] at h
  rcases h with h | h
  ·exact ⟨y, List.mem_cons_self .., h⟩
  ·obtain ⟨x, h1, h2⟩ := namesLs_mem h
   exact ⟨x, List.mem_cons_of_mem _ h1, h2⟩
theorem okE_names : ∀ (d : Nat) (e : Expr), SizeOf.sizeOf e ≤ d → okE e → ∀ k ∈ namesL e, k.length ≤ 9223372036854775807
 | 0, e, h, _ => by
  exfalso
  cases e
  rw [Expr.mk.sizeOf_spec] at h; omega
 | d + 1, e, h, ho => by
  intro k hk
  rw [okE_eq] at ho
  rw [namesL_eq, List.mem_append] at hk
  rcases hk with hk | hk
  ·split at hk
   ·rw [List.mem_singleton] at hk; subst hk; exact ho.1
   ·cases hk
  ·obtain ⟨x, h1, h2⟩ := namesLs_mem hk
   have := arg_size h1
   exact okE_names d x (by omega) (okEs_mem ho.2.2 x h1) k h2
variable [Fuel]
theorem size_loop (rc : Expr → Option Int) (e : Expr) (hl : e.Args.length ≤ 9223372036854775807) (hx : ∀ x ∈ e.Args, ∃ y, rc x = some y) : ∀ (n i K : Nat) (s : Int), i + n = e.Args.length → n < K → ∃ r, s_greenbeltref16_Size_L1 rc e K (s, (i : Int)) = some r
 | 0, i, K, s, h, hK => by
  obtain ⟨K, rfl⟩ : ∃ K', K = K' + 1 := ⟨K - 1, by omega⟩
  rw [s_greenbeltref16_Size_L1, decide_eq_false (by simp only; omega)]
  exact ⟨s, rfl⟩
 | n + 1, i, K, s, h, hK => by
  obtain ⟨K, rfl⟩ : ∃ K', K = K' + 1 := ⟨K - 1, by omega⟩
  have hi : i < e.Args.length := by omega
  obtain ⟨y, hy⟩ := hx _ (getD_mem hi)
  rw [s_greenbeltref16_Size_L1, decide_eq_true (by simp only; omega), cond_true, idx_of hi, Option.bind_some, hy, Option.bind_some]
  simp only
  rw [w64_id (n := (i : Int) + 1) (by omega) (by omega), show ((i : Int) + 1) = ((i + 1 : Nat) : Int) by omega]
  exact size_loop rc e hl hx n (i + 1) K _ (by omega) (by omega)
theorem size_ex : ∀ (d : Nat) (e : Expr), SizeOf.sizeOf e ≤ d → okE e → ∀ K, d < K → ∃ r, s_greenbeltref16_Size K e = some r
 | 0, e, h, _ => by
  exfalso
  cases e
  rw [Expr.mk.sizeOf_spec] at h; omega
 | d + 1, e, h, ho => by
  intro K hK
  obtain ⟨K, rfl⟩ : ∃ K', K = K' + 1 := ⟨K - 1, by omega⟩
  rw [okE_eq] at ho
  obtain ⟨r, hr⟩ := size_loop (s_greenbeltref16_Size K) e ho.2.1 (fun x hx => by
   have := arg_size hx
   exact size_ex d x (by omega) (okEs_mem ho.2.2 x hx) K (by omega)) e.Args.length 0 KK 1 (by omega) (by have := KK_big; omega)
  rw [show ((0 : Nat) : Int) = 0 from rfl] at hr
  rw [s_greenbeltref16_Size, hr]
  exact ⟨_, rfl⟩
def okF (f : Formula) : Prop := okE f.Body ∧ SizeOf.sizeOf f.Body < KK
theorem okF.names {f : Formula} (h : okF f) : okN f := okE_names _ f.Body (Nat.le_refl _) h.1
end Go.Proofs.YtenljipeggacjaaGreat
