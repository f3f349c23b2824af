/- The engine, fourteenth part: nil tests; a call with a row and a value; slices from a place on. -/
import Derived.Test.YtnnieebmbepjpaaEngM
set_option linter.all false
namespace Go.Eng
open Go Go.RowKit
def nilB : Value → Bool | .slice a _ _ => a.isNone | _ => false
section
variable {P : Program} {ρ : Slots} {w W : World} {dst : Option Tmp} {ty : TypeId} {pos : String} {aft : Array Edge} {gd : Option (Nat × Bool)} {α : Type} {enc : α → List Value} {k : Nat} {v : Value} {l : List α}
theorem run_nil_rd {t t' e : TypeId} {x y : Operand} (ht : P.underlying t = some (.slice e)) (h : Rd w enc k v l) (ha : ev ρ x = v) (hb : ev ρ y = .slice none 0 0) :
    (execOp (ev ρ) ⟨dst, .binOp .eql t x y t', ty, pos, aft, gd⟩).run P w = .ok (.value (.bool (nilB v))) w := by
  obtain ⟨A, c, hv, _⟩ := h
  subst hv
  exact run_nilSlice ht ha hb
theorem Rd.of_nil (h : Rd W enc k v l) (hn : nilB v = true) : l = [] := by
  obtain ⟨A, c, hv, _, _, hA, _⟩ := h
  subst hv
  cases l with
  | nil => rfl
  | cons a l =>
    cases A with
    | none => have := hA (by simp); cases this
    | some a => cases hn
theorem Rd.subl (h : Rd W enc k v l) {lo : Nat} (hh : lo ≤ l.length) : Rd W enc k (Eng.sub k v lo l.length) (l.drop lo) := by
  obtain ⟨A, c, hv, h1, h2, h3, h4⟩ := h
  subst hv
  have hlen : (l.drop lo).length = l.length - lo := by simp
  refine ⟨(if c = lo then A else A.map (·.add (lo * k))), c - lo, ?_, by omega, by omega, ?_, ?_⟩
  · simp only [Eng.sub, hlen]
  · intro hp
    rw [hlen] at hp
    have hA := h3 (by omega)
    simp only [Eng.sub, adr]
    cases A with
    | none => cases hA
    | some a => rw [if_neg (by omega)]; rfl
  · intro i j x u hx hu
    rw [List.getElem?_drop] at hx
    have hlt : lo + i < l.length := (List.getElem?_eq_some_iff.1 hx).1
    have hA := h3 (by omega)
    have e : adr (Eng.sub k (.slice A l.length c) lo l.length) = (adr (.slice A l.length c)).add (lo * k) := by
      simp only [Eng.sub]
      cases A with
      | none => cases hA
      | some a => rw [if_neg (by omega)]; rfl
    have := h4 (lo + i) j x u hx hu
    rw [e, Go.Deep.add_add, Go.Deep.add_add, ← Nat.add_assoc, ← Nat.add_mul]
    rw [Go.Deep.add_add] at this
    exact this
theorem run_sub_l {t e : TypeId} {x y : Operand} (hs : IsSliceT P t e k) (h : Rd w enc k v l) (ha : ev ρ x = v) {i : Int} (hb : ev ρ y = i64 i) (h0 : 0 ≤ i) (hh : i.toNat ≤ l.length) :
    (execOp (ev ρ) ⟨dst, .slice t x (some y) none none, ty, pos, aft, gd⟩).run P w = .ok (.value (sub k v i.toNat l.length)) w := by
  obtain ⟨A, c, hv, h1, h2, _, _⟩ := h
  obtain ⟨ht, ii, hi1, hk⟩ := hs
  have hic : i ≤ (l.length : Int) := by omega
  simp only [execOp, ha, hv, Option.map_none, Option.map_some, hb, Instr.sliceAt, Sem.run_bind, run_underlying ht, Result.andThen_ok, Instr.slice, Instr.sliceBounds, Instr.sliceBound, asIntOf, Sem.run_pure]
  simp [h0, hic, sizeOf, typeInfo, hi1, hk, Eng.sub]
end
section
variable {P : Program} {r : Option Nat} {N : Nat} {Q : Post} {ρ : Slots} {ds : List Deferred} {w W0 : World} {L : List Own}
variable {all rest : List Oper} {ty : TypeId} {pos : String} {aft : Array Edge} {gd : Option (Nat × Bool)}
/-- A call that hands back a row of its own and a value. -/
def FnRow2 {α : Type} (P : Program) (f : FuncId) (args : List Value) (w : World) (e k : Nat) (enc : α → List Value) (l : List α) (u : Value) : Prop :=
  Fn P f args w fun v w' => ∃ v1, v = .tuple #[v1, u] ∧ Own.holds w.heap.size w' (.row e k v1 (l.map enc))
theorem ops_callRow2 {α : Type} {enc : α → List Value} {d : Nat} {f : FuncId} {l : List Operand} {ts : Array TypeId} (vs : List Value) {e k : Nat} {res : List α} {u : Value} (S : St W0 L w) (hN : Nat.ble (d + 1) N = true)
    (hw : wanted all ρ ⟨some d, .call ⟨.value (.func f), l.toArray, ts⟩, ty, pos, aft, gd⟩ = true) (hf : hasBody P f) (ha : l.map (ev ρ) = vs) (hc : FnRow2 P f vs w e k enc res u)
    (h : ∀ v w', St W0 (.row e k v (res.map enc) :: L) w' → Ops P r N all Q rest (upd ρ d (.tuple #[v, u])) ds w') :
    Ops P r N all Q (⟨some d, .call ⟨.value (.func f), l.toArray, ts⟩, ty, pos, aft, gd⟩ :: rest) ρ ds w :=
  ops_enter d rfl hN hw rfl (run_call vs hf ha) hc fun _ w'' ⟨v, he, hb, v1, hv, hp⟩ => ⟨v, he, by subst hv; exact h v1 w'' (S.add (grownBy_of_below hb none) (Own.lower hp S.size) (fun b hb' => (Own.dom_lt hp b hb').1))⟩
theorem fin_row2 {α : Type} {enc : α → List Value} {res : List α} {fn : Func} {t t2 : Tmp} {e k : Nat} {v u : Value} (hr : fn.results = #[.tmp t, .tmp t2]) {n : Nat} (S : St W0 L w) (hv : ρ t = v) (hu : ρ t2 = u) (hL : L[n]? = some (.row e k v (res.map enc))) :
    finPost P fn W0 (fun v w' => ∃ v1, v = .tuple #[v1, u] ∧ Own.holds W0.heap.size w' (.row e k v1 (res.map enc))) .ret ρ [] w :=
  fin2 hr S hv hu ⟨v, rfl, S.own _ (List.mem_of_getElem? hL)⟩
theorem Rd.own {α : Type} {enc : α → List Value} {e k : Nat} {v : Value} {l : List α} (S : St W0 (.row e k v (l.map enc) :: L) w) : Rd w enc k v l := S.rdRow (n := 0) rfl
end
end Go.Eng
