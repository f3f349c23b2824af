/- The law's bounds, and the reference's names. -/
import Derived.Test.YtconjkgifdfhdaaDd
set_option linter.all false
set_option maxRecDepth 100000
namespace Go.Proofs.Ytconjkgifdfhdaa
open Go Go.RowKit Go.Eng Go.EV Go.Grf
mutual
def cnt : Expr → Nat
 | ⟨_, _, _, _, l⟩ => cnts l + 1
def cnts : List Expr → Nat
 | [] => 0
 | x :: r => cnt x + cnts r
end
theorem cnt_eq (e : Expr) : cnt e = cnts e.Args + 1 := by cases e; rw [cnt]
theorem cnt_pos (e : Expr) : 1 ≤ cnt e := by rw [cnt_eq]; omega
theorem cnts_app : ∀ a b : List Expr, cnts (a ++ b) = cnts a + cnts b
 | [], b => by simp [cnts]
 | x :: a, b => by rw [List.cons_append, cnts, cnts, cnts_app a b]; omega
theorem len_cnts : ∀ l : List Expr, l.length ≤ cnts l
 | [] => by simp
 | x :: l => by have := len_cnts l; have := cnt_pos x; rw [cnts, List.length_cons]; omega
theorem mem_cnts {x : Expr} : ∀ {l : List Expr}, x ∈ l → cnt x ≤ cnts l
 | y :: l, h => by
  rw [cnts]
  rcases List.mem_cons.1 h with rfl | h
  ·omega
  ·have := mem_cnts h; omega
def lvl : Nat → Expr → Prop
 | 0, _ => False
 | n + 1, e => ∀ x ∈ e.Args, lvl n x
theorem names_cnt : ∀ (n : Nat) (e : Expr), lvl n e → (namesL e).length ≤ cnt e
 | 0, e, h => h.elim
 | n + 1, e, h => by
  have h2 : ∀ l : List Expr, (∀ x ∈ l, (namesL x).length ≤ cnt x) → (namesLs l).length ≤ cnts l := by
   intro l
   induction l with
   | nil => intro _; simp [namesLs]
   | cons y l ih =>
    intro hh
    have a := hh y (List.mem_cons_self ..)
    have b := ih fun x hx => hh x (List.mem_cons_of_mem _ hx)
    rw [namesLs, List.length_append, cnts]; omega
  have h3 := h2 e.Args fun x hx => names_cnt n x (h x hx)
  rw [namesL_eq, List.length_append, cnt_eq]
  split
  ·simp; omega
  ·simp; omega
variable [Fuel]
end Go.Proofs.Ytconjkgifdfhdaa
