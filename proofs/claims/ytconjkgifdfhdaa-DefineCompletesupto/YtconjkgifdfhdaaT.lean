/- The shell of the rows: arguments opened. -/
import Derived.Test.YtconjkgifdfhdaaRows
import Derived.Test.YtconjkgifdfhdaaA
import Derived.Test.YtconjkgifdfhdaaEvTwo
import Derived.LaidMore
import Derived.Test.YtconjkgifdfhdaaEwOne
import Derived.JoinedCond
set_option linter.all false
set_option maxRecDepth 100000
namespace Go.Proofs.Ytconjkgifdfhdaa
open Go Go.ChangeShapes Go.WideShapes Go.ChangeAt Go.RowKit Go.Deep Go.Joins Go.EV
theorem own : ownKnob Try.prog.godebug = none := by kernel_rfl
theorem laidOut : laidOutB Try.prog = true := by kernel_rfl
theorem tilesAll : ∀ t, t < Try.prog.types.size → tileT Try.prog t = true ∧ childB Try.prog t = true := tiles_of (by kernel_rfl)
theorem good_field {P : Program} {t : TypeId} {fs : Array Field} {cs : List V} (ht : P.underlying t = some (.struct fs)) (h : GoodC P t cs) (i : Nat) (off ty n : Nat) {f : Field} (hf : fs[i]? = some f) (ho : f.offset = off) (hy : f.type = ty) (hn : P.cellsOf ty = n) : GoodC P ty ((cs.drop off).take n) := by
  subst ho; subst hy; subst hn
  refine (good_struct ht h).2 f ?_
  rw [← Array.getElem?_toList] at hf
  exact List.mem_of_getElem? hf
theorem good_i64 {c : List V} (h : GoodC Try.prog 3 c) : ∃ n, c = EV.encI n ∧ okK .i64 n := good_int Try.underlying3 h
theorem bulk_sum {H : Type} : ∀ l : List (DataW H), (l.map Rows.uptoBulk).sum = Rows.uptoBulkAll l
  | [] => by simp [Rows.uptoBulkAll]
  | x :: l => by rw [List.map_cons, List.sum_cons, bulk_sum l]; simp only [Rows.uptoBulkAll]
theorem bulk_is {H : Type} : Bulk (H := H) Rows.uptoBulk where
  one d := by
    cases d with
    | lit l => cases l <;> simp [Rows.uptoBulk]
    | nil => simp [Rows.uptoBulk]
    | ptr d => simp [Rows.uptoBulk]
    | slice elems spare => simp [Rows.uptoBulk]
    | agg parts => simp [Rows.uptoBulk]
    | iface t d => simp [Rows.uptoBulk]
    | map entries => simp [Rows.uptoBulk]
    | held h => simp [Rows.uptoBulk]
  str s := by simp [Rows.uptoBulk]
  agg l := by rw [bulk_sum]; simp only [Rows.uptoBulk]; omega
  slice e s := by rw [bulk_sum]; simp only [Rows.uptoBulk]; omega
theorem bulk_part {H : Type} {d : DataW H} {l : List (DataW H)} (h : d ∈ l) : Rows.uptoBulk d ≤ Rows.uptoBulkAll l := by
  induction l with
  | nil => cases h
  | cons x r ih =>
    simp only [Rows.uptoBulkAll]
    cases List.mem_cons.1 h with
    | inl e => subst e; omega
    | inr e => have := ih e; omega
section
variable {H : Type} {enc : TypeId × Value → H} {W : World} {b0 : Nat} {r : Reach} {v : Value} {d : DataW H} {p : List MemPlace} {t : TypeId}
theorem arg_of (ht : Nat.ble (t + 1) Try.prog.types.size = true) (h : DataW.Trod enc Try.prog W 0 (fun _ => true) true t v d p) : ∃ vs, GoodC Try.prog t vs ∧ RepL none W.cell? vs v.cells.toList ∧ wtL vs ≤ Rows.uptoBulk d := by
  obtain ⟨fuel, hf⟩ := h
  exact good_ofW bulk_is tilesAll fuel t _ _ (Nat.le_of_ble_eq_true ht) hf
theorem arg_slice {e : TypeId} {c : V} (ht : Try.prog.underlying t = some (.slice e)) (hv : Value.okWide Try.prog W r b0 t v) (h : RepL none W.cell? [c] v.cells.toList) : Rep none W.cell? c v := by
  obtain ⟨a0, len0, cap0, rfl⟩ := okWide_slice ht hv
  obtain ⟨x, xs, e1, h2, h3⟩ := h
  cases e1; exact h2
theorem open_num (hv : Value.okWide Try.prog W r b0 3 v) (h : DataW.Trod enc Try.prog W 0 (fun _ => true) true 3 v d p) : ∃ n : Int, okK .i64 n ∧ Rep none W.cell? (.int .i64 n) v := by
  obtain ⟨vs, h1, h2, hw⟩ := arg_of (by kernel_rfl) h
  obtain ⟨s, rfl, hs⟩ := good_i64 h1
  obtain ⟨n, rfl, _⟩ := open_int Try.underlying3 hv h
  obtain ⟨x, xs, e1, h3, _⟩ := h2
  cases e1; exact ⟨s, hs, h3⟩
end
/-- A law's call. -/
theorem law_calls {f : FuncId} {args : List V} {vals : List Value} {W : World} (h : FnA Try.prog f args [] (.bool true) []) (hv : RepL none W.cell? args vals) :
    Calls Try.prog f vals.toArray W fun e W' => e = .returned (.bool true) ∧ Below W.heap.size W W' := by
  refine Calls.mono (fnIs_of (r := .bool true) (fun _ _ _ h => h) h hv) fun e W' ⟨v, he, hb, hx⟩ => ?_
  subst hx
  exact ⟨he, hb⟩
end Go.Proofs.Ytconjkgifdfhdaa
