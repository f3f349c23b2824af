/- The engine, third part: what the call itself holds in memory; the operations. -/
import Derived.Test.YtnnieebmbepjpaaEngB
import Derived.Laws.Entries
import Derived.Laws.Slices
import Derived.Laws.Strings
import Derived.Laws.Cells
import Derived.Laws.Rows
import Derived.Laws.NewBlocks
import Derived.Laws.OwnMore
set_option linter.all false
namespace Go.Eng
open Go Go.RowKit

inductive Own where
  | blk (b : Nat) (cs : List Value) (t : TypeId)
  | row (e k : Nat) (v : Value) (xs : List (List Value))
  | obj (b : Nat) (o : Obj)
  | objs (W : World)
def isCells' : Obj → Bool | .cells .. => true | _ => false
def Own.dom : Own → Option Nat
  | .blk b _ _ => some b
  | .row _ _ v _ => v.ownBlock
  | .obj b _ => some b
  | .objs _ => none
/-- An entry whose block is a block of cells. -/
def Own.cellish : Own → Bool | .obj .. => false | _ => true
def Own.holds (base : Nat) (w : World) : Own → Prop
  | .blk b cs t => base ≤ b ∧ w.heap[b]? = some (.cells cs.toArray t (0, 0))
  | .row e k v xs => w.ownsRow base e k v xs.length xs.flatten ∧ ∀ x ∈ xs, x.length = k
  | .obj b o => base ≤ b ∧ w.heap[b]? = some o
  | .objs W => W.heap.size ≤ w.heap.size ∧ ∀ (k : Nat) (o : Obj), W.heap[k]? = some o → isCells' o = false → w.heap[k]? = some o
def Own.apart (x y : Own) : Prop := ∀ b, x.dom = some b → y.dom ≠ some b
structure St (W0 : World) (L : List Own) (w : World) : Prop where
  below : Below W0.heap.size W0 w
  own : ∀ x ∈ L, x.holds W0.heap.size w
  apart : L.Pairwise Own.apart

theorem Own.apart_symm {x y : Own} (h : x.apart y) : y.apart x := fun b hy hx => h b hx hy
theorem Own.dom_lt {base : Nat} {w : World} {x : Own} (h : x.holds base w) : ∀ b, x.dom = some b → base ≤ b ∧ b < w.heap.size := by
  intro b hb
  cases x with
  | blk b' cs t =>
    obtain ⟨h1, h2⟩ := h
    simp only [Own.dom, Option.some.injEq] at hb
    subst hb
    exact ⟨h1, (Array.getElem?_eq_some_iff.1 h2).1⟩
  | row e k v xs => exact h.1.lt b hb
  | obj b' o =>
    obtain ⟨h1, h2⟩ := h
    simp only [Own.dom, Option.some.injEq] at hb
    subst hb
    exact ⟨h1, (Array.getElem?_eq_some_iff.1 h2).1⟩
  | objs W => simp [Own.dom] at hb
/-- The block is a block of cells. -/
theorem Own.dom_cells {base : Nat} {w : World} {x : Own} (h : x.holds base w) (hc : x.cellish = true) : ∀ b, x.dom = some b → ∃ o, w.heap[b]? = some o ∧ isCells' o = true := by
  intro b hb
  cases x with
  | blk b' cs t => simp only [Own.dom, Option.some.injEq] at hb; subst hb; exact ⟨_, h.2, rfl⟩
  | row e k v xs =>
    rcases h.1.2 with ⟨rfl, _⟩ | ⟨g, cap, cur, rfl, _, hg, _⟩
    · simp [Own.dom, Value.ownBlock] at hb
    · simp only [Own.dom, Value.ownBlock, Option.some.injEq] at hb; subst hb; exact ⟨_, hg, rfl⟩
  | obj b' o => cases hc
  | objs W => simp [Own.dom] at hb
theorem Own.keep {base : Nat} {w w' : World} {x : Own} {row : Option Nat} (h : x.holds base w) (hg : w.grownBy w' row) (hne : ∀ b, x.dom = some b → some b ≠ row)
    (hrow : ∀ b, row = some b → ∃ o, w.heap[b]? = some o ∧ isCells' o = true) : x.holds base w' := by
  cases x with
  | blk b cs t => exact ⟨h.1, (hg.block b (Array.getElem?_eq_some_iff.1 h.2).1 (hne b rfl)).trans h.2⟩
  | row e k v xs =>
    refine ⟨h.1.kept hg ?_, h.2⟩
    cases hv : v.ownBlock with
    | none => exact .inl rfl
    | some b => exact .inr (hne b hv)
  | obj b o => exact ⟨h.1, (hg.block b (Array.getElem?_eq_some_iff.1 h.2).1 (hne b rfl)).trans h.2⟩
  | objs W =>
    refine ⟨Nat.le_trans h.1 hg.size, fun k o hk ho => ?_⟩
    have h1 := h.2 k o hk ho
    refine (hg.block k (Array.getElem?_eq_some_iff.1 h1).1 (fun e => ?_)).trans h1
    obtain ⟨o', ho', hc⟩ := hrow k e.symm
    rw [h1] at ho'
    cases ho'
    rw [hc] at ho
    cases ho

section
variable {W0 w w' : World} {L : List Own} {x x' y : Own}
theorem St.start (w : World) : St w [] w := ⟨Below.refl _ _, (fun _ h => by cases h), List.Pairwise.nil⟩
theorem St.size (h : St W0 L w) : W0.heap.size ≤ w.heap.size := h.below.size
theorem St.keep (h : St W0 L w) (hg : w.grownBy w' none) : St W0 L w' :=
  ⟨h.below.grown hg h.size (fun _ e => (by cases e)), fun x hx => Own.keep (h.own x hx) hg (fun _ _ => by simp) (fun _ e => (by cases e)), h.apart⟩
theorem St.add (h : St W0 L w) (hg : w.grownBy w' none) (hx : x.holds W0.heap.size w') (hd : ∀ b, x.dom = some b → w.heap.size ≤ b) : St W0 (x :: L) w' := by
  have h' := h.keep hg
  refine ⟨h'.below, fun y hy => ?_, List.Pairwise.cons (fun y hy b hb hyb => ?_) h.apart⟩
  · rcases List.mem_cons.1 hy with rfl | hy
    · exact hx
    · exact h'.own y hy
  · have := hd b hb
    have := (Own.dom_lt (h.own y hy) b hyb).2
    omega
theorem St.change (h : St W0 (x :: L) w) (hcl : x.cellish = true) (hg : w.grownBy w' x.dom) (hx : x'.holds W0.heap.size w') (hd : ∀ b, x'.dom = some b → x.dom = some b ∨ w.heap.size ≤ b) : St W0 (x' :: L) w' := by
  have hp := List.pairwise_cons.1 h.apart
  refine ⟨h.below.grown hg h.size (fun b hb => (Own.dom_lt (h.own x (List.mem_cons_self ..)) b hb).1), fun y hy => ?_, List.Pairwise.cons (fun y hy b hb hyb => ?_) hp.2⟩
  · rcases List.mem_cons.1 hy with rfl | hy
    · exact hx
    · exact Own.keep (h.own y (List.mem_cons_of_mem _ hy)) hg (fun b hb he => hp.1 y hy b he.symm hb) (Own.dom_cells (h.own x (List.mem_cons_self ..)) hcl)
  · rcases hd b hb with hb' | hb'
    · exact hp.1 y hy b hb' hyb
    · have := (Own.dom_lt (h.own y (List.mem_cons_of_mem _ hy)) b hyb).2
      omega
theorem St.drop (h : St W0 (x :: L) w) : St W0 L w :=
  ⟨h.below, fun y hy => h.own y (List.mem_cons_of_mem _ hy), (List.pairwise_cons.1 h.apart).2⟩
theorem St.perm {L' : List Own} (h : St W0 L w) (hp : L.Perm L') : St W0 L' w :=
  ⟨h.below, fun y hy => h.own y (hp.mem_iff.2 hy), (hp.pairwise_iff (fun {_ _} => Own.apart_symm)).1 h.apart⟩
theorem St.drew (h : St W0 L w) : St W0 L w.drew := h.keep ⟨rfl, rfl, rfl, Nat.le_refl _, fun _ _ _ => rfl⟩
variable {a b c d e f g i : Own}
theorem St.f1 (h : St W0 (a :: b :: L) w) : St W0 (b :: a :: L) w := h.perm (.swap ..)
theorem St.f2 (h : St W0 (a :: b :: c :: L) w) : St W0 (c :: a :: b :: L) w := h.perm (List.perm_middle (l₁ := [a, b]))
theorem St.f3 (h : St W0 (a :: b :: c :: d :: L) w) : St W0 (d :: a :: b :: c :: L) w := h.perm (List.perm_middle (l₁ := [a, b, c]))
theorem St.f4 (h : St W0 (a :: b :: c :: d :: e :: L) w) : St W0 (e :: a :: b :: c :: d :: L) w := h.perm (List.perm_middle (l₁ := [a, b, c, d]))
theorem St.f5 (h : St W0 (a :: b :: c :: d :: e :: f :: L) w) : St W0 (f :: a :: b :: c :: d :: e :: L) w := h.perm (List.perm_middle (l₁ := [a, b, c, d, e]))
theorem St.f6 (h : St W0 (a :: b :: c :: d :: e :: f :: g :: L) w) : St W0 (g :: a :: b :: c :: d :: e :: f :: L) w := h.perm (List.perm_middle (l₁ := [a, b, c, d, e, f]))

/- what is read -/
theorem St.ro (h : St W0 L w) {p : Addr} {v : Value} (hc : W0.cell? p = some v) : w.cell? p = some v :=
  (h.below.cell (World.block_lt_of_cell? W0 p hc)).trans hc
theorem St.cell (h : St W0 L w) {n : Nat} {b : Nat} {cs : List Value} {t : TypeId} (hL : L[n]? = some (.blk b cs t)) {off : Nat} {v : Value} (hv : cs[off]? = some v) : w.cell? ⟨b, off, none⟩ = some v := by
  have := h.own _ (List.mem_of_getElem? hL)
  rw [cell_of_row w b off cs.toArray t (0, 0) this.2]
  simpa using hv
theorem flatten_at {k : Nat} : ∀ {xs : List (List Value)}, (∀ x ∈ xs, x.length = k) → ∀ {m j : Nat} {x : List Value} {u : Value}, xs[m]? = some x → x[j]? = some u → xs.flatten[m * k + j]? = some u := by
  intro xs
  induction xs with
  | nil => intro _ m j x u hm; simp at hm
  | cons y ys ih =>
    intro hk m j x u hm hj
    have hy := hk y (List.mem_cons_self ..)
    have hjl : j < x.length := (List.getElem?_eq_some_iff.1 hj).1
    cases m with
    | zero =>
      simp at hm
      subst hm
      rw [List.flatten_cons, Nat.zero_mul, Nat.zero_add, List.getElem?_append_left hjl]
      exact hj
    | succ m =>
      rw [List.flatten_cons, List.getElem?_append_right (by rw [hy, Nat.succ_mul]; omega)]
      have := ih (fun x hx => hk x (List.mem_cons_of_mem _ hx)) (m := m) (by simpa using hm) hj
      rw [← this]
      congr 1
      rw [hy, Nat.succ_mul]; omega
theorem St.rowCell (h : St W0 L w) {n : Nat} {e k : Nat} {v : Value} {xs : List (List Value)} (hL : L[n]? = some (.row e k v xs)) {g : Nat} (hg : v.ownBlock = some g)
    {m j : Nat} {x : List Value} {u : Value} (hm : xs[m]? = some x) (hj : x[j]? = some u) : w.cell? ⟨g, m * k + j, none⟩ = some u := by
  have hh := h.own _ (List.mem_of_getElem? hL)
  have := hh.1.cells hg (m * k + j) u (flatten_at hh.2 hm hj)
  rwa [Addr.add_lit, Nat.zero_add] at this
end

/- types -/
def notAgg : TypeDesc → Bool | .struct _ => false | .array _ _ => false | _ => true
def Scal (P : Program) (t : TypeId) : Prop := ∃ d i, P.underlying t = some d ∧ notAgg d = true ∧ P.info? t = some i ∧ i.size = 1
def AggT (P : Program) (t : TypeId) (k : Nat) : Prop := ∃ d i, P.underlying t = some d ∧ notAgg d = false ∧ P.info? t = some i ∧ i.size = k
def typeChk (P : Program) (t k : Nat) (ag : Bool) : Bool :=
  match P.underlying t, P.info? t with
  | some d, some i => (notAgg d == !ag) && Nat.beq i.size k
  | _, _ => false
theorem type_of {P : Program} {t k : Nat} {ag : Bool} (h : typeChk P t k ag = true) : ∃ d i, P.underlying t = some d ∧ notAgg d = !ag ∧ P.info? t = some i ∧ i.size = k := by
  unfold typeChk at h
  split at h
  · rename_i d i hd hi
    simp only [Bool.and_eq_true, beq_iff_eq] at h
    exact ⟨d, i, hd, h.1, hi, Nat.eq_of_beq_eq_true h.2⟩
  · cases h
theorem scal_of {P : Program} {t : Nat} (h : typeChk P t 1 false = true) : Scal P t := type_of h
theorem agg_of {P : Program} {t k : Nat} (h : typeChk P t k true = true) : AggT P t k := type_of h
def SizeT (P : Program) (t k : Nat) : Prop := ∃ i, P.info? t = some i ∧ i.size = k
theorem Scal.size {P : Program} {t : Nat} (h : Scal P t) : SizeT P t 1 := let ⟨_, i, _, _, hi, hk⟩ := h; ⟨i, hi, hk⟩
theorem AggT.size {P : Program} {t k : Nat} (h : AggT P t k) : SizeT P t k := let ⟨_, i, _, _, hi, hk⟩ := h; ⟨i, hi, hk⟩
/-- A slice type: the elements' type, cells, bytes, zero value. -/
def SliceT (P : Program) (t e k bytes : Nat) (zs : List Value) : Prop := ∃ i z, P.underlying t = some (.slice e) ∧ P.info? e = some i ∧ i.size = k ∧ i.bytes = bytes ∧ i.zero = some z ∧ z.cells.toList = zs ∧ zs.length = k ∧ 0 < k
section
variable {P : Program} {ρ : Slots} {w : World} {dst : Option Tmp} {ty : TypeId} {pos : String} {aft : Array Edge} {gd : Option (Nat × Bool)}
theorem run_isAgg_scal {t : TypeId} (h : Scal P t) : (isAgg t).run P w = .ok false w := by
  obtain ⟨d, _, hd, hs, _⟩ := h
  unfold isAgg
  cases d <;> simp [run_underlying hd, notAgg] at hs ⊢
theorem run_isAgg_agg {t k : TypeId} (h : AggT P t k) : (isAgg t).run P w = .ok true w := by
  obtain ⟨d, i, hd, hs, _⟩ := h
  unfold isAgg
  cases d <;> simp [run_underlying hd, notAgg] at hs ⊢
theorem run_load_scal {t : TypeId} {x : Operand} {p : Addr} {v : Value} (hs : Scal P t) (ha : ev ρ x = .pointer (some p)) (hc : w.cell? p = some v) :
    (execOp (ev ρ) ⟨dst, .load t x, ty, pos, aft, gd⟩).run P w = .ok (.value v) w := by
  simp [execOp, Instr.loadAt, ha, Instr.sureAddr, loadVar, run_isAgg_scal hs, load, Sem.run, hc]
theorem run_load_agg {t : TypeId} {x : Operand} {p : Addr} {k : Nat} (cs : List Value) (hs : AggT P t k) (ha : ev ρ x = .pointer (some p)) (hl : cs.length = k)
    (hc : ∀ j u, cs[j]? = some u → w.cell? (p.add j) = some u) :
    (execOp (ev ρ) ⟨dst, .load t x, ty, pos, aft, gd⟩).run P w = .ok (.value (.agg cs.toArray)) w := by
  obtain ⟨d, i, hd, _, hi, hk⟩ := id hs
  subst hl
  simp [execOp, Instr.loadAt, ha, Instr.sureAddr, loadVar, run_isAgg_agg hs, sizeOf, typeInfo, hi, hk, run_loadCells_list w p cs hc]
end
end Go.Eng
