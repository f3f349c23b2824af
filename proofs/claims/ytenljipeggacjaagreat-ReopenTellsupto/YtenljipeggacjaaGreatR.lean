/- Expressions: what is right, and that it has a value. -/
import Derived.Test.YtenljipeggacjaaGreatP
set_option linter.all false
set_option maxRecDepth 100000
namespace Go.Proofs.YtenljipeggacjaaGreat
open Go Go.RowKit Go.Eng Go.EV
variable [Fuel]
theorem fold_loopS {α S T : Type} [Inhabited α] {L : Nat → S × Int → Option T} {l : List α} (step : α → S → Option S) (fin : S → T) (hl : l.length < 2 ^ 62)
  (heq : ∀ K i s, L (K + 1) (s, i) = (bif decide (i < (l.length : Int)) then (idx l i).bind fun x => (step x s).bind fun s' => L K (s', w64 (i + 1)) else some (fin s))) :
  ∀ (n i K : Nat) (s : S), i + n = l.length → n < K → L K (s, (i : Int)) = ((l.drop i).foldlM (fun s x => step x s) s).map fin
 | 0, i, K, s, h, hK => by
  obtain ⟨K, rfl⟩ : ∃ K', K = K' + 1 := ⟨K - 1, by omega⟩
  rw [heq, decide_eq_false (by omega), cond_false, List.drop_of_length_le (by omega)]
  rfl
 | n + 1, i, K, s, h, hK => by
  obtain ⟨K, rfl⟩ : ∃ K', K = K' + 1 := ⟨K - 1, by omega⟩
  have hi : i < l.length := by omega
  rw [heq, decide_eq_true (by omega), cond_true, idx_of hi, Option.bind_some, w64_id (by omega) (by omega), show ((i : Int) + 1) = ((i + 1 : Nat) : Int) by omega, drop_cons hi, List.foldlM_cons]
  cases hs : step (l.getD i default) s with
  | none => rfl
  | some s' =>
   rw [Option.bind_some, fold_loopS step fin hl heq n (i + 1) K s' (by omega) (by omega)]
   rfl
theorem foldlM_pure {α S : Type} (g : S → α → S) {f : S → α → Option S} : ∀ (l : List α) (s : S), (∀ x ∈ l, ∀ s, f s x = some (g s x)) → l.foldlM f s = some (l.foldl g s)
 | [], s, _ => rfl
 | x :: l, s, h => by
  rw [List.foldlM_cons, h x (List.mem_cons_self ..)]
  exact foldlM_pure g l _ fun y hy => h y (List.mem_cons_of_mem _ hy)
def levV : Nat → Expr → Int
 | 0, _ => 13
 | n + 1, e => if (arV e.Op).2 = false ∨ (arV e.Op).1 ≠ e.Args.length then 13 else (e.Args.foldl (fun m x => max m (levV n x)) 0) + 1
theorem foldl_max {α : Type} (g : α → Int) (b : Int) : ∀ (l : List α) (m : Int), (∀ x ∈ l, g x ≤ b) → m ≤ b → l.foldl (fun m x => max m (g x)) m ≤ b ∧ m ≤ l.foldl (fun m x => max m (g x)) m ∧ ∀ x ∈ l, g x ≤ l.foldl (fun m x => max m (g x)) m
 | [], m, _, hm => ⟨hm, Int.le_refl _, fun _ h => by cases h⟩
 | x :: l, m, h, hm => by
  obtain ⟨h1, h2, h3⟩ := foldl_max g b l (max m (g x)) (fun y hy => h y (List.mem_cons_of_mem _ hy)) (by have := h x (List.mem_cons_self ..); omega)
  refine ⟨h1, ?_, fun y hy => ?_⟩
  ·rw [List.foldl_cons]; omega
  ·rw [List.foldl_cons]
   rcases List.mem_cons.1 hy with rfl | hy
   ·omega
   ·exact h3 y hy
theorem levV_le : ∀ n e, levV n e ≤ 13 + n
 | 0, _ => by simp [levV]
 | n + 1, e => by
  rw [levV]
  split
  ·omega
  ·have := (foldl_max (levV n) (13 + n) e.Args 0 (fun x _ => levV_le n x) (by omega)).1
   omega
theorem arV_le (op : Int) : 0 ≤ (arV op).1 ∧ (arV op).1 ≤ 3 := by
 unfold arV
 repeat' split
 all_goals simp
theorem s_levels : ∀ (n : Nat) (e : Expr) (K : Nat), n ≤ 12 → n < K → s_expr_levels K e (12 - (n : Int)) = some (levV n e)
 | 0, e, K, hn, hK => by
  obtain ⟨K, rfl⟩ : ∃ K', K = K' + 1 := ⟨K - 1, by omega⟩
  rw [s_expr_levels, s_arity, Option.bind_some]
  cases (arV e.Op).2 <;> cases decide ((arV e.Op).1 = (e.Args.length : Int)) <;> rfl
 | n + 1, e, K, hn, hK => by
  obtain ⟨K, rfl⟩ : ∃ K', K = K' + 1 := ⟨K - 1, by omega⟩
  have hd : decide ((12 : Int) - ((n + 1 : Nat) : Int) ≥ 12) = false := decide_eq_false (by omega)
  rw [s_expr_levels, s_arity, Option.bind_some, levV, hd]
  by_cases h2 : (arV e.Op).2 = false
  ·rw [h2]; rfl
  ·by_cases h1 : (arV e.Op).1 = (e.Args.length : Int)
   ·rw [if_neg (by rintro (h | h) <;> contradiction), Bool.not_eq_false _ |>.mp h2, decide_eq_true h1]
    have hlen := (arV_le e.Op).2
    have key := fold_loopS (L := s_expr_levels_L1 (s_expr_levels K) e (12 - ((n + 1 : Nat) : Int))) (l := e.Args) (fun x m => (s_expr_levels K x (12 - (n : Int))).bind fun y => some (max m y)) id (by omega) (fun K' i s => by
     rw [s_expr_levels_L1, w64_id (n := 12 - ((n + 1 : Nat) : Int) + 1) (by omega) (by omega), show (12 - ((n + 1 : Nat) : Int) + 1) = 12 - (n : Int) by omega]
     cases decide (i < (e.Args.length : Int)) with
     | false => rfl
     | true =>
      simp only [cond_true]
      cases idx e.Args i with
      | none => rfl
      | some x =>
       simp only [Option.bind_some]
       cases s_expr_levels K x (12 - (n : Int)) <;> rfl) e.Args.length 0 KK 0 (by omega) (by have := KK_big; omega)
    rw [foldlM_pure (fun m x => max m (levV n x)) _ _ (fun x _ m => by rw [s_levels n x K (by omega) (by omega)]; rfl)] at key
    have hb := foldl_max (levV n) (13 + n) e.Args 0 (fun x _ => levV_le n x) (by omega)
    rw [show ((0 : Nat) : Int) = 0 from rfl] at key
    simp only [Bool.not_true, cond_false, Option.bind_some]
    rw [key, Option.map_some, Option.bind_some, List.drop_zero, id, w64_id (by omega) (by omega)]
   ·rw [if_pos (.inr h1), Bool.not_eq_false _ |>.mp h2, decide_eq_false h1]; rfl
def exRight (e : Expr) : Prop := levV 12 e ≤ 12
instance (e : Expr) : Decidable (exRight e) := inferInstanceAs (Decidable (levV 12 e ≤ 12))
theorem s_exRight (e : Expr) : s_expr_Right e = some (decide (exRight e)) := by
 unfold s_expr_Right
 have := s_levels 12 e KK (by omega) (by have := KK_big; omega)
 rw [show (12 : Int) - ((12 : Nat) : Int) = 0 from rfl] at this
 rw [this]; rfl
theorem lev_args {n : Nat} {e : Expr} (hn : n ≤ 11) (h : levV (n + 1) e ≤ n + 1) : (arV e.Op).2 = true ∧ (arV e.Op).1 = e.Args.length ∧ ∀ x ∈ e.Args, levV n x ≤ n := by
 rw [levV] at h
 split at h
 ·omega
 ·rename_i hh
  have hb := (foldl_max (levV n) (13 + n) e.Args 0 (fun x _ => levV_le n x) (by omega)).2.2
  refine ⟨?_, ?_, fun x hx => by have := hb x hx; omega⟩
  ·cases h2 : (arV e.Op).2 with
   | true => rfl
   | false => exact absurd (.inl h2) hh
  ·by_cases h1 : (arV e.Op).1 = e.Args.length
   ·exact h1
   ·exact absurd (.inr h1) hh
theorem namesLs_len {b : Nat} : ∀ l : List Expr, (∀ x ∈ l, (namesL x).length ≤ b) → (namesLs l).length ≤ l.length * b
 | [], _ => by simp [namesLs]
 | x :: l, h => by
  have h1 := h x (List.mem_cons_self ..)
  have h2 := namesLs_len l fun y hy => h y (List.mem_cons_of_mem _ hy)
  rw [namesLs, List.length_append, List.length_cons, Nat.add_mul]
  omega
theorem names_len : ∀ (n : Nat) (e : Expr), n ≤ 12 → levV n e ≤ n → (namesL e).length ≤ 3 ^ n
 | 0, e, _, h => by simp [levV] at h
 | n + 1, e, hn, h => by
  obtain ⟨h1, h2, h3⟩ := lev_args (by omega) h
  have h4 := namesLs_len (b := 3 ^ n) e.Args fun x hx => names_len n x (by omega) (h3 x hx)
  have h5 := (arV_le e.Op).2
  have h6 : e.Args.length * 3 ^ n ≤ 3 * 3 ^ n := Nat.mul_le_mul_right _ (by omega)
  have h7 : 0 < 3 ^ n := Nat.pow_pos (by omega)
  rw [namesL_eq, List.length_append, Nat.pow_succ]
  split
  ·rename_i ho
   have : (arV e.Op).1 = 0 := by rw [ho]; rfl
   have h8 : e.Args = [] := List.length_eq_zero_iff.1 (by omega)
   rw [h8, namesLs]; simp; omega
  ·simp; omega
theorem names_few {e : Expr} (h : exRight e) : (namesL e).length ≤ 1000000 := Nat.le_trans (names_len 12 e (by omega) h) (by decide)
end Go.Proofs.YtenljipeggacjaaGreat
