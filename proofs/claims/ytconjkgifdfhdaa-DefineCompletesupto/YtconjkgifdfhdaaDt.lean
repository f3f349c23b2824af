/- What is read within the bound holds no more nodes. -/
import Derived.Test.YtconjkgifdfhdaaTP
import Derived.Test.YtconjkgifdfhdaaDm
set_option linter.all false
set_option maxRecDepth 100000
namespace Go.Proofs.Ytconjkgifdfhdaa
open Go Go.RowKit Go.Eng Go.EV Go.Grf
def wtE (e : Expr) : Nat := wtL (enc_Expr e)
def wtEs (l : List Expr) : Nat := (l.map wtE).sum
theorem wtLL_encs : ∀ l : List Expr, wtLL (encs_Expr l) = wtEs l
 | [] => by rw [encs_Expr, wtLL]; rfl
 | x :: l => by rw [encs_Expr, wtLL, wtLL_encs l, enc0_Expr_eq]; simp [wtEs, wtE]
theorem wtE_eq (e : Expr) : wtE e = e.S.length + e.Key.length + wtEs e.Args + 5 := by
 unfold wtE enc_Expr
 simp only [wtL, wtV, wtLL_encs]; omega
theorem wtEs_mem {l : List Expr} {x : Expr} (h : x ∈ l) : wtE x ≤ wtEs l := by
 induction l with
 | nil => cases h
 | cons y l ih =>
  simp only [wtEs, List.map_cons, List.sum_cons] at *
  rcases List.mem_cons.1 h with rfl | h
  ·omega
  ·have := ih h; omega
theorem arg_wt {e x : Expr} (h : x ∈ e.Args) : wtE x < wtE e := by
 have := wtEs_mem h
 have := wtE_eq e
 omega
theorem cnts_wt : ∀ l : List Expr, (∀ x ∈ l, cnt x ≤ wtE x) → cnts l ≤ wtEs l
 | [], _ => by simp [cnts]
 | x :: l, h => by
  have h1 := h x (List.mem_cons_self ..)
  have h2 := cnts_wt l fun y hy => h y (List.mem_cons_of_mem _ hy)
  rw [cnts]
  simp only [wtEs, List.map_cons, List.sum_cons] at *
  omega
theorem cnt_wt : ∀ (n : Nat) (e : Expr), wtE e ≤ n → cnt e ≤ wtE e
 | 0, e, h => by have := wtE_eq e; omega
 | n + 1, e, h => by
  have h1 := wtE_eq e
  have h2 := cnts_wt e.Args fun x hx => cnt_wt n x (by have := arg_wt hx; omega)
  rw [cnt_eq]; omega
theorem wtLL_mem {α : Type} {f : α → List V} {x : α} : ∀ {l : List α}, x ∈ l → wtL (f x) ≤ wtLL (l.map f)
 | y :: l, h => by
  rw [List.map_cons, wtLL]
  rcases List.mem_cons.1 h with rfl | h
  ·omega
  ·have := wtLL_mem (f := f) h; omega
theorem plan_bnd {p : Plan} (ho : okPlan p) (hw : wtL (enc_Plan p) ≤ 1048576) : Bnd p := by
 have h1 : wtLL (p.Defs.map enc_Def) ≤ 1048576 ∧ wtLL (p.Rules.map enc_Rule) ≤ 1048576 := by
  unfold enc_Plan at hw
  simp only [wtL, wtV] at hw
  omega
 refine ⟨fun d hd => ?_, fun d hd => ?_, plan_names ho, plan_rules ho⟩
 ·have h2 := wtLL_mem (f := enc_Def) hd
  have h3 : wtE d.Body ≤ wtL (enc_Def d) := by
   rw [wtE_eq]
   unfold enc_Def
   simp only [wtL, wtV, wtLL_encs]; omega
  have := cnt_wt _ d.Body (Nat.le_refl _)
  omega
 ·have h2 := wtLL_mem (f := enc_Rule) hd
  have h3 : wtE d.Test ≤ wtL (enc_Rule d) := by
   rw [wtE_eq]
   unfold enc_Rule
   simp only [wtL, wtV, wtLL_encs]; omega
  have := cnt_wt _ d.Test (Nat.le_refl _)
  omega
end Go.Proofs.Ytconjkgifdfhdaa
