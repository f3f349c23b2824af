/- The engine, eleventh part: parts of slices; equality of structs. -/
import Derived.Test.YtnnieebmbepjpaaEngJ
set_option linter.all false
namespace Go.Eng
open Go Go.RowKit
def sub (k : Nat) (v : Value) (lo hi : Nat) : Value :=
  match v with
  | .slice A _ c => .slice (if c = lo then A else A.map (·.add (lo * k))) (hi - lo) (c - lo)
  | v => v
section
variable {P : Program} {ρ : Slots} {w W : World} {dst : Option Tmp} {ty : TypeId} {pos : String} {aft : Array Edge} {gd : Option (Nat × Bool)} {α : Type} {enc : α → List Value} {k : Nat} {v : Value} {l : List α}
theorem Rd.sub (h : Rd W enc k v l) {hi : Nat} (hh : hi ≤ l.length) : Rd W enc k (sub k v 0 hi) (l.take hi) := by
  obtain ⟨A, c, hv, h1, h2, h3, h4⟩ := h
  subst hv
  have hlen : (l.take hi).length = hi := by simp; omega
  refine ⟨(if c = 0 then A else A.map (·.add (0 * k))), c, ?_, by omega, h2, ?_, ?_⟩
  · simp only [Eng.sub, hlen, Nat.sub_zero]
  · intro hp
    rw [hlen] at hp
    have hA := h3 (by omega)
    have e : (if c = 0 then A else A.map (·.add (0 * k))) = A := by
      split
      · rfl
      · rw [Nat.zero_mul]; cases A <;> simp [Addr.add_zero']
    simp only [Eng.sub]
    rw [e, hA]; rfl
  · intro i j x u hx hu
    rw [List.getElem?_take] at hx
    split at hx
    · rename_i hlt
      have hA := h3 (by omega)
      have e : adr (Eng.sub k (.slice A l.length c) 0 hi) = adr (.slice A l.length c) := by
        have e : (if c = 0 then A else A.map (·.add (0 * k))) = A := by
          split
          · rfl
          · rw [Nat.zero_mul]; cases A <;> simp [Addr.add_zero']
        simp only [Eng.sub]
        rw [e]; cases A <;> rfl
      rw [e]
      exact h4 i j x u hx hu
    · cases hx
theorem run_sub_h {t e : Nat} {x y : Operand} (hs : IsSliceT P t e k) (h : Rd w enc k v l) (ha : ev ρ x = v) {i : Int} (hb : ev ρ y = i64 i) (h0 : 0 ≤ i) (hh : i.toNat ≤ l.length) :
    (execOp (ev ρ) ⟨dst, .slice t x none (some y) none, ty, pos, aft, gd⟩).run P w = .ok (.value (sub k v 0 i.toNat)) w := by
  obtain ⟨A, c, hv, h1, h2, _, _⟩ := h
  obtain ⟨ht, ii, hi1, hk⟩ := hs
  have hic : i ≤ (c : Int) := by omega
  simp only [execOp, ha, hv, Option.map_none, Option.map_some, hb, Instr.sliceAt, Sem.run_bind, run_underlying ht, Result.andThen_ok, Instr.slice, Instr.sliceBounds, Instr.sliceBound, asIntOf, Sem.run_pure]
  simp [h0, hic, sizeOf, typeInfo, hi1, hk, Eng.sub]
end
end Go.Eng
namespace Go.Eng
open Go Go.RowKit
theorem w_slots {P : Program} {r : Option Nat} {N : Nat} {Q : Post} {ρ : Slots} {ds : List Deferred} {w : World} {c : Code} (live : List (Nat × Value)) (hl : Holds live ρ) (h : ∀ ρ0, Wp P r N c Q (upds live ρ0) ds w) : Wp P r N c Q ρ ds w := by
  have := h ρ
  rwa [upds_self _ _ hl] at this
end Go.Eng
namespace Go.Eng
open Go Go.RowKit
theorem Rd.cells {α : Type} {W : World} {enc : α → List Value} {k : Nat} {v : Value} {l : List α} (h : Rd W enc k v l) : v.cells.toList = [v] := by
  obtain ⟨A, c, hv, _⟩ := h
  subst hv; rfl
end Go.Eng
