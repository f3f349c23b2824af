/- The engine, fifth part: operations that turn the world; calls; a function's beginning and end. -/
import Derived.Test.YtnnieebmbepjpaaEngD
set_option linter.all false
namespace Go.Eng
open Go Go.RowKit

def ZeroT (P : Program) (t : Nat) (zs : List Value) : Prop := ∃ i z, P.info? t = some i ∧ i.zero = some z ∧ z.cells.toList = zs
def onesB (l : List Value) : Bool := l.all (·.oneCell')

section
variable {P : Program} {r : Option Nat} {N : Nat} {Q : Post} {ρ : Slots} {ds : List Deferred} {w W0 : World} {L : List Own}
variable {all rest : List Oper} {ty : TypeId} {pos : String} {aft : Array Edge} {gd : Option (Nat × Bool)}

theorem St.alloc {L : List Own} (S : St W0 L w) (vs : List Value) (t : TypeId) : St W0 (.blk w.heap.size vs t :: L) (w.alloc (.cells vs.toArray t)) :=
  S.add (World.grownBy_alloc w _ none) ⟨S.size, heap_alloc_new w _⟩ (fun b hb => by simp only [Own.dom, Option.some.injEq] at hb; omega)

theorem ops_box {d : Nat} {t : TypeId} {x : Operand} (vs : List Value) (S : St W0 L w) (hN : Nat.ble (d + 1) N = true) (hw : wanted all ρ ⟨some d, .box t x, ty, pos, aft, gd⟩ = true) (hv : (ev ρ x).cells.toList = vs)
    (h : ∀ b w', St W0 (.blk b vs t :: L) w' → Ops P r N all Q rest (upd ρ d (.pointer (some ⟨b, 0, none⟩))) ds w') : Ops P r N all Q (⟨some d, .box t x, ty, pos, aft, gd⟩ :: rest) ρ ds w := by
  have e : (ev ρ x).cells = vs.toArray := by rw [← hv]
  refine ops_val d (.pointer (some ⟨w.heap.size, 0, none⟩)) (w' := w.alloc (.cells vs.toArray t)) rfl hN hw rfl ?_ (h _ _ (S.alloc vs t))
  simp [execOp, Instr.box, newVar, newRow, newObj, e]
  rfl
theorem ops_alloc {d : Nat} {t : TypeId} (zs : List Value) (hz : ZeroT P t zs) (S : St W0 L w) (hN : Nat.ble (d + 1) N = true) (hw : wanted all ρ ⟨some d, .alloc t, ty, pos, aft, gd⟩ = true)
    (h : ∀ b w', St W0 (.blk b zs t :: L) w' → Ops P r N all Q rest (upd ρ d (.pointer (some ⟨b, 0, none⟩))) ds w') : Ops P r N all Q (⟨some d, .alloc t, ty, pos, aft, gd⟩ :: rest) ρ ds w := by
  obtain ⟨i, z, hi, hz1, hz2⟩ := hz
  have e : z.cells = zs.toArray := by rw [← hz2]
  refine ops_val d (.pointer (some ⟨w.heap.size, 0, none⟩)) (w' := w.alloc (.cells zs.toArray t)) rfl hN hw rfl ?_ (h _ _ (S.alloc zs t))
  simp [execOp, Instr.alloc, zeroValue, typeInfo, hi, hz1, newVar, newRow, newObj, e]
  rfl

theorem St.setBlk {b : Nat} {cs us cs' : List Value} {t : TypeId} {off : Nat} (S : St W0 (.blk b cs t :: L) w) (hc : cs.take off ++ us ++ cs.drop (off + us.length) = cs') :
    St W0 (.blk b cs' t :: L) (w.setRow b (cs.take off ++ us ++ cs.drop (off + us.length)).toArray) := by
  subst hc
  have hb := (S.own _ (List.mem_cons_self ..)).2
  refine S.change rfl ⟨rfl, rfl, rfl, by simp, fun k _ hk => setRow_other w b k _ (fun e => hk (by simp [Own.dom, e]))⟩ ⟨(S.own _ (List.mem_cons_self ..)).1, setRow_heap w b _ _ t _ hb⟩ (fun b' h => .inl h)

theorem ops_store {b : Nat} {cs us : List Value} (cs' : List Value) {t t' : TypeId} {x y : Operand} {off k : Nat} (S : St W0 (.blk b cs t' :: L) w)
    (hw : wanted all ρ ⟨none, .store t x y, ty, pos, aft, gd⟩ = true) (ht : SizeT P t k) (ha : ev ρ x = .pointer (some ⟨b, off, none⟩)) (hv : (ev ρ y).cells.toList = us) (hk : us.length = k) (h1 : onesB us = true)
    (hfit : off + us.length ≤ cs.length) (hc : cs.take off ++ us ++ cs.drop (off + us.length) = cs')
    (h : ∀ w', St W0 (.blk b cs' t' :: L) w' → Ops P r N all Q rest ρ ds w') : Ops P r N all Q (⟨none, .store t x y, ty, pos, aft, gd⟩ :: rest) ρ ds w := by
  obtain ⟨i, hi, hik⟩ := ht
  have hb := (S.own _ (List.mem_cons_self ..)).2
  have e : (ev ρ y).cells = us.toArray := by rw [← hv]
  have hst := run_storeCells_at P b off t' us 0 cs.toArray w hb (by simpa using hfit) (by simpa [onesB, List.all_eq_true] using h1)
  simp only [Nat.add_zero] at hst
  refine ops_unit (w' := w.setRow b (cs.take off ++ us ++ cs.drop (off + us.length)).toArray) rfl hw rfl ?_ (h _ (S.setBlk hc))
  simp [execOp, Instr.storeAt, ha, Instr.sureAddr, storeVar, sizeOf, typeInfo, hi, hik, e, hk, hst]

/-- A call whose callee turns nothing that was there. -/
def Fn (P : Program) (f : FuncId) (args : List Value) (w : World) (φ : Value → World → Prop) : Prop :=
  Calls P f args.toArray w fun e w' => ∃ v, e = .returned v ∧ Below w.heap.size w w' ∧ φ v w'
theorem Fn.mono {f : FuncId} {args : List Value} {φ ψ : Value → World → Prop} (h : Fn P f args w φ) (hm : ∀ v w', φ v w' → ψ v w') : Fn P f args w ψ :=
  Calls.mono h fun _ _ ⟨v, he, hb, hp⟩ => ⟨v, he, hb, hm _ _ hp⟩
def FnIs (P : Program) (f : FuncId) (args : List Value) (w : World) (v : Value) : Prop := Fn P f args w fun v' _ => v' = v
theorem grownBy_of_below {w w' : World} (h : Below w.heap.size w w') (row : Option Nat) : w.grownBy w' row := ⟨h.os, h.tape, h.output, h.size, fun i hi _ => h.block i hi⟩

def hasBody (P : Program) (f : FuncId) : Prop := ∃ fn, P.funcs[f]? = some fn ∧ (fn.name == "runtime.NumGoroutine") = false ∧ fn.body.isNone = false
theorem run_call {d : Option Tmp} {f : FuncId} {l : List Operand} {ts : Array TypeId} (vs : List Value) (hf : hasBody P f) (ha : l.map (ev ρ) = vs) :
    (execOp (ev ρ) ⟨d, .call ⟨.value (.func f), l.toArray, ts⟩, ty, pos, aft, gd⟩).run P w = .ok (.enter f vs.toArray) w := by
  obtain ⟨fn, h1, h2, h3⟩ := hf
  subst ha
  have h2' : ¬ fn.name = "runtime.NumGoroutine" := by simpa using h2
  have h3' : ¬ fn.body = none := by intro e; rw [e] at h3; cases h3
  simp [execOp, resolve, ev, Deferred.ofValue, invoke, callFunc, program, Sem.run, h1, h2', h3']
theorem ops_call {d : Nat} {f : FuncId} {l : List Operand} {ts : Array TypeId} (vs : List Value) {φ : Value → World → Prop} (S : St W0 L w) (hN : Nat.ble (d + 1) N = true)
    (hw : wanted all ρ ⟨some d, .call ⟨.value (.func f), l.toArray, ts⟩, ty, pos, aft, gd⟩ = true) (hf : hasBody P f) (ha : l.map (ev ρ) = vs) (hc : Fn P f vs w φ)
    (h : ∀ v w', St W0 L w' → Below w.heap.size w w' → φ v w' → Ops P r N all Q rest (upd ρ d v) ds w') :
    Ops P r N all Q (⟨some d, .call ⟨.value (.func f), l.toArray, ts⟩, ty, pos, aft, gd⟩ :: rest) ρ ds w :=
  ops_enter d rfl hN hw rfl (run_call vs hf ha) hc fun _ w'' ⟨v, he, hb, hp⟩ => ⟨v, he, h v w'' (S.keep (grownBy_of_below hb none)) hb hp⟩
/-- The same where the value is known. -/
theorem ops_callIs {d : Nat} {f : FuncId} {l : List Operand} {ts : Array TypeId} (vs : List Value) (v : Value) (S : St W0 L w) (hN : Nat.ble (d + 1) N = true)
    (hw : wanted all ρ ⟨some d, .call ⟨.value (.func f), l.toArray, ts⟩, ty, pos, aft, gd⟩ = true) (hf : hasBody P f) (ha : l.map (ev ρ) = vs) (hc : FnIs P f vs w v)
    (h : ∀ w', St W0 L w' → Ops P r N all Q rest (upd ρ d v) ds w') :
    Ops P r N all Q (⟨some d, .call ⟨.value (.func f), l.toArray, ts⟩, ty, pos, aft, gd⟩ :: rest) ρ ds w :=
  ops_call vs S hN hw hf ha hc fun v' w' S' _ hv => by subst hv; exact h w' S'

/- a function's beginning and end -/
def argSlots (l : List Value) : Slots := fun t => l.getD t undef
def finPost (P : Program) (fn : Func) (W0 : World) (φ : Value → World → Prop) : Post
  | .normal, ρ, ds, w | .ret, ρ, ds, w => ds = [] ∧ ∃ v, (∀ tmps : Array Value, (∀ t, tmps.getD t undef = ρ t) → (results fn tmps).run P w = .ok v w) ∧ Below W0.heap.size W0 w ∧ φ v w
  | _, _, _, _ => False
theorem fn_of_wp {f : FuncId} {fn : Func} {c : Code} {args : List Value} {φ : Value → World → Prop} (hf : P.funcs[f]? = some fn) (hb : fn.body = some c) (hN : fn.ntmps = N) (ha : Nat.ble args.length N = true)
    (h : St w [] w → Wp P none N c (finPost P fn w φ) (argSlots args) [] w) : Fn P f args w φ := by
  have h' := h (St.start w)
  have ha := Nat.le_of_ble_eq_true ha
  refine (callsIn_wide (n := 0)).1 (callsIn_of_wp hf hb trivial ?_)
  refine wpIn_mono (h' _ 0 ⟨?_, rfl, fun t => ?_⟩) fun e a w' hq => ?_
  · simp; omega
  · simp only [argSlots, Array.getD_eq_getD_getElem?, List.getD_eq_getElem?_getD]
    rw [Array.getElem?_append]
    split
    · simp
    · rename_i hlt
      simp only [List.size_toArray] at hlt
      rw [List.getElem?_eq_none (by omega)]
      simp only [List.size_toArray]
      rw [Array.getElem?_replicate]
      split <;> rfl
  · obtain ⟨ρ', ds', hf', hq⟩ := hq
    cases e with
    | normal =>
      obtain ⟨rfl, v, hr, hb', hp⟩ := hq
      exact ⟨hf'.defs, v, hr _ hf'.get, v, rfl, hb', hp⟩
    | ret =>
      obtain ⟨rfl, v, hr, hb', hp⟩ := hq
      exact ⟨hf'.defs, v, hr _ hf'.get, v, rfl, hb', hp⟩
    | panic c => exact hq.elim
    | exit id => exact hq.elim
    | goto l => exact hq.elim
    | outgrown => exact hq.elim
section
variable {fn : Func} {φ : Value → World → Prop}
theorem fin1 {t : Tmp} {v : Value} (hr : fn.results = #[.tmp t]) (S : St W0 L w) (hv : ρ t = v) (hp : φ v w) : finPost P fn W0 φ .ret ρ [] w :=
  ⟨rfl, v, fun tmps hg => by simp [results, hr, hg, hv], S.below, hp⟩
theorem fin2 {t u : Tmp} {v v' : Value} (hr : fn.results = #[.tmp t, .tmp u]) (S : St W0 L w) (hv : ρ t = v) (hv' : ρ u = v') (hp : φ (.tuple #[v, v']) w) : finPost P fn W0 φ .ret ρ [] w :=
  ⟨rfl, .tuple #[v, v'], fun tmps hg => by simp [results, hr, hg, hv, hv'], S.below, hp⟩
theorem fin0 (hr : fn.results = #[]) (S : St W0 L w) (hp : φ (.tuple #[]) w) : finPost P fn W0 φ .ret ρ [] w :=
  ⟨rfl, .tuple #[], fun tmps hg => by simp [results, hr], S.below, hp⟩
theorem fin_nrm (h : finPost P fn W0 φ .ret ρ ds w) : finPost P fn W0 φ .normal ρ ds w := h
end
end
end Go.Eng
