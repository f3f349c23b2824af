/- The engine: walking rules over frames that are functions from slots to values. -/
import Derived.TacticsIn
import Derived.OrdersIn
import Derived.OrdersHeld
import Derived.Below
import Derived.Laws.AppendOwn
import Derived.Laws.Entries
import Derived.Laws.Slices
import Derived.Laws.Strings
import Derived.Laws.Cells
import Derived.Laws.Rows
import Derived.Laws.NewBlocks
import Derived.Laws.OwnMore
import Derived.Laws.Small
import Derived.Laws.StructEq
import Derived.Maps.AppendAt
import Derived.Deep.Slices
import Derived.RangeFuncLeaves
import Derived.RangeFuncRecord
import Derived.RangeFuncSeq
import Derived.Laws.Tables
import Derived.Lib.SliceRun
import Derived.Sort.Row
import Derived.Sort.Grow
import Derived.Lib.SlicesCompact
set_option linter.all false
namespace Go.Eng
open Go Go.RowKit

abbrev Slots := Nat → Value
def upd (ρ : Slots) (d : Nat) (v : Value) : Slots := fun t => bif Nat.beq t d then v else ρ t
def upds (l : List (Nat × Value)) (ρ : Slots) : Slots := match l with | [] => ρ | (d, v) :: r => upd (upds r ρ) d v
def Holds : List (Nat × Value) → Slots → Prop | [], _ => True | (t, v) :: l, ρ => ρ t = v ∧ Holds l ρ
abbrev Post := Exit → Slots → List Deferred → World → Prop

def ev (ρ : Slots) : Operand → Value
 | .tmp t => ρ t
 | .const v => v
 | .global g => .pointer (some ⟨g, 0, none⟩)
 | .func f => .func (.func f) #[] #[]

structure Frm (N : Nat) (ds : List Deferred) (a : Act) (ρ : Slots) : Prop where
 size : a.tmps.size = N
 defs : a.defers = ds
 get : ∀ t, a.tmps.getD t undef = ρ t

theorem Frm.eval {N : Nat} {ds : List Deferred} {a : Act} {ρ : Slots} (h : Frm N ds a ρ) : a.eval = ev ρ := by
 funext x
 cases x with
 | tmp t => exact h.get t
 | const v => rfl
 | global g => rfl
 | func f => rfl

theorem Frm.put {N : Nat} {ds : List Deferred} {a : Act} {ρ : Slots} (h : Frm N ds a ρ) {d : Nat} (hd : d < N) (v : Value) : Frm N ds (a.put (some d) v) (upd ρ d v) := by
 refine ⟨by simp [Act.put, h.size], h.defs, fun t => ?_⟩
 simp only [Act.put, upd]
 by_cases htd : t = d
 ·subst htd
  simp [Array.getD_eq_getD_getElem?, Nat.beq_refl, h.size, hd]
 ·have hb : Nat.beq t d = false := by
   cases hx : Nat.beq t d with
   | false => rfl
   | true => exact absurd (Nat.eq_of_beq_eq_true hx) htd
  rw [hb, cond_false, ← h.get t]
  simp [Array.getD_eq_getD_getElem?, Array.getElem?_setIfInBounds_ne (Ne.symm htd)]
theorem Frm.putNone {N : Nat} {ds : List Deferred} {a : Act} {ρ : Slots} (h : Frm N ds a ρ) (v : Value) : Frm N ds (a.put none v) ρ := h

def Fw (r : Option Nat) : Fence := { fn := fun _ => True, depth := none, alive := false, round := r }
theorem callsIn_fw {n : Nat} {P : Program} {f : FuncId} {args : Array Value} {w : World} {R : Ending → World → Prop} (r : Option Nat) (h : Calls P f args w R) : CallsIn (Fw r) n P f args w R :=
 (callsIn_wide (n := n)).2 h

def lift (N : Nat) (Q : Post) : Exit → Act → World → Prop := fun e a w => ∃ ρ ds, Frm N ds a ρ ∧ Q e ρ ds w
theorem lift_mono {N : Nat} {Q Q' : Post} (h : ∀ e ρ ds w, Q e ρ ds w → Q' e ρ ds w) {e : Exit} {a : Act} {w : World} : lift N Q e a w → lift N Q' e a w :=
 fun ⟨ρ, ds, hf, hq⟩ => ⟨ρ, ds, hf, h _ _ _ _ hq⟩

def Wp (P : Program) (r : Option Nat) (N : Nat) (c : Code) (Q : Post) (ρ : Slots) (ds : List Deferred) (w : World) : Prop :=
 ∀ a n, Frm N ds a ρ → c.wpIn (Fw r) n P (lift N Q) a w

def andThen (K : Slots → List Deferred → World → Prop) (Q : Post) : Post
 | .normal, ρ, ds, w => K ρ ds w
 | e, ρ, ds, w => Q e ρ ds w
def inBlk (id : Nat) (Q : Post) : Post
 | .exit i, ρ, ds, w => if i = id then Q .normal ρ ds w else Q (.exit i) ρ ds w
 | e, ρ, ds, w => Q e ρ ds w

section
variable {P : Program} {r : Option Nat} {N : Nat} {Q : Post} {ρ : Slots} {ds : List Deferred} {w : World}

theorem w_mono {c : Code} {Q' : Post} (h : Wp P r N c Q ρ ds w) (hq : ∀ e ρ ds w, Q e ρ ds w → Q' e ρ ds w) : Wp P r N c Q' ρ ds w :=
 fun a n hf => wpIn_mono (h a n hf) fun _ _ _ => lift_mono hq

theorem w_skip (h : Q .normal ρ ds w) : Wp P r N .skip Q ρ ds w := fun _ _ hf => wpIn_skip ⟨_, _, hf, h⟩
theorem w_exit {id : Nat} (h : Q (.exit id) ρ ds w) : Wp P r N (.exit id) Q ρ ds w := fun _ _ hf => wpIn_exit ⟨_, _, hf, h⟩
theorem w_ret (h : Q .ret ρ ds w) : Wp P r N .ret Q ρ ds w := fun _ _ hf => wpIn_ret ⟨_, _, hf, h⟩
theorem w_seq {x y : Code} (h : Wp P r N x (andThen (fun ρ ds w => Wp P r N y Q ρ ds w) Q) ρ ds w) : Wp P r N (.seq x y) Q ρ ds w :=
 fun a n hf => wpIn_seq (wpIn_mono (h a n hf) fun e a' w' hq => by
  obtain ⟨ρ', ds', hf', hq'⟩ := hq
  cases e with
  | normal => exact hq' a' n hf'
  | exit id => exact ⟨ρ', ds', hf', hq'⟩
  | goto l => exact ⟨ρ', ds', hf', hq'⟩
  | ret => exact ⟨ρ', ds', hf', hq'⟩
  | panic ch => exact ⟨ρ', ds', hf', hq'⟩
  | outgrown => exact ⟨ρ', ds', hf', hq'⟩)
theorem w_cond {c : Operand} {x y : Code} (t : Bool) (hc : ev ρ c = .bool t) (h1 : t = true → Wp P r N x Q ρ ds w) (h2 : t = false → Wp P r N y Q ρ ds w) : Wp P r N (.cond c x y) Q ρ ds w :=
 fun a n hf => wpIn_cond_split (by rw [hf.eval]; exact hc) (fun ht => h1 ht a n hf) (fun ht => h2 ht a n hf)
theorem w_block {id : Nat} {c : Code} (h : Wp P r N c (inBlk id Q) ρ ds w) : Wp P r N (.block id c) Q ρ ds w :=
 fun a n hf => wpIn_block (wpIn_mono (h a n hf) fun e a' w' hq => by
  obtain ⟨ρ', ds', hf', hq'⟩ := hq
  cases e with
  | exit i =>
   simp only [inBlk] at hq'
   simp only [Exit.inBlock]
   split
   ·rename_i he; rw [if_pos he] at hq'; exact ⟨ρ', ds', hf', hq'⟩
   ·rename_i he; rw [if_neg he] at hq'; exact ⟨ρ', ds', hf', hq'⟩
  | normal => exact ⟨ρ', ds', hf', hq'⟩
  | goto l => exact ⟨ρ', ds', hf', hq'⟩
  | ret => exact ⟨ρ', ds', hf', hq'⟩
  | panic ch => exact ⟨ρ', ds', hf', hq'⟩
  | outgrown => exact ⟨ρ', ds', hf', hq'⟩)

/- ways out of what stands around -/
theorem least (p : Nat → Prop) : ∀ n, p n → ∃ m, p m ∧ ∀ k, k < m → ¬ p k := by
 intro n
 induction n using Nat.strongRecOn with
 | _ n ih =>
  intro h
  by_cases hk : ∃ k, k < n ∧ p k
  ·obtain ⟨k, hkn, hpk⟩ := hk
   exact ih k hkn hpk
  ·exact ⟨n, h, fun k hkn hpk => hk ⟨k, hkn, hpk⟩⟩

def gv (all : List Oper) (ρ : Slots) (j : Nat) : Option Bool :=
 match (all[j]?).bind (·.dst) with
 | some d => match ρ d with | .bool b => some b | _ => none
 | none => none
def wanted (all : List Oper) (ρ : Slots) (o : Oper) : Bool :=
 match o.guard with
 | none => true
 | some (j, want) => gv all ρ j == some want
theorem Frm.yielded {a : Act} (hf : Frm N ds a ρ) (all : List Oper) (j : Nat) : Go.yielded all.toArray a.tmps j = gv all ρ j := by
 unfold Go.yielded gv
 simp only [List.getElem?_toArray]
 cases h : (all[j]?).bind (·.dst) with
 | none => rfl
 | some d =>
  simp only [Option.bind_some]
  have hg := hf.get d
  rw [Array.getD_eq_getD_getElem?] at hg
  cases hx : a.tmps[d]? with
  | none => rw [hx] at hg; rw [← hg]; rfl
  | some v => rw [hx] at hg; rw [← hg]; cases v <;> rfl
theorem Frm.wanted {a : Act} (hf : Frm N ds a ρ) (all : List Oper) (o : Oper) : Region.wanted o (Go.yielded all.toArray a.tmps) = wanted all ρ o := by
 unfold Region.wanted Eng.wanted
 cases o.guard with
 | none => rfl
 | some p => simp only [hf.yielded all]

def Ops (P : Program) (r : Option Nat) (N : Nat) (all : List Oper) (Q : Post) (l : List Oper) (ρ : Slots) (ds : List Deferred) (w : World) : Prop :=
 ∀ a n, Frm N ds a ρ → wpListIn (Fw r) n P all.toArray (lift N Q) l a w
theorem w_region {id : Nat} {l : List Oper} (h : Ops P r N l Q l ρ ds w) : Wp P r N (.region id l.toArray false) Q ρ ds w :=
 fun a n hf => wpIn_region_lit (h a n hf)
def notDefer : Op → Bool | .defer _ => false | _ => true
theorem semAt_fw {o : Oper} (h : notDefer o.op = true) (ρ : Operand → Value) (ro : Option Nat) : o.semAt ro ρ = execOp ρ o :=
 Oper.semAt_eq ro ρ o (fun c hc => by rw [hc] at h; cases h)
section
variable {all rest : List Oper} {o : Oper}
theorem ops_nil (h : Q .normal ρ ds w) : Ops P r N all Q [] ρ ds w := fun _ _ hf => ⟨_, _, hf, h⟩
theorem ops_skip (d : Nat) (hd : o.dst = some d) (hN : Nat.ble (d + 1) N = true) (hw : wanted all ρ o = false) (h : Ops P r N all Q rest (upd ρ d undef) ds w) : Ops P r N all Q (o :: rest) ρ ds w := by
 intro a n hf
 have hw' := (hf.wanted all o).trans hw
 simp only [wpListIn, hw', Bool.false_eq_true, if_false]
 exact ⟨fun _ _ => trivial, h _ n (by rw [hd]; exact hf.put (Nat.le_of_ble_eq_true hN) _)⟩
theorem ops_skip0 (hd : o.dst = none) (hw : wanted all ρ o = false) (h : Ops P r N all Q rest ρ ds w) : Ops P r N all Q (o :: rest) ρ ds w := by
 intro a n hf
 have hw' := (hf.wanted all o).trans hw
 simp only [wpListIn, hw', Bool.false_eq_true, if_false]
 exact ⟨fun _ _ => trivial, h _ n (by rw [hd]; exact hf.putNone _)⟩
theorem ops_val (d : Nat) (v : Value) {w' : World} (hd : o.dst = some d) (hN : Nat.ble (d + 1) N = true) (hw : wanted all ρ o = true) (hn : notDefer o.op = true)
  (hr : (execOp (ev ρ) o).run P w = .ok (.value v) w') (h : Ops P r N all Q rest (upd ρ d v) ds w') : Ops P r N all Q (o :: rest) ρ ds w := by
 intro a n hf
 have hw' := (hf.wanted all o).trans hw
 simp only [wpListIn, hw', if_true]
 refine ⟨fun _ _ => trivial, ?_⟩
 rw [semAt_fw hn, hf.eval, hr, Oper.uponIn_value, hd]
 exact h _ n (hf.put (Nat.le_of_ble_eq_true hN) _)
theorem ops_enter (d : Nat) {w' : World} {f : FuncId} {args : Array Value} {R : Ending → World → Prop} (hd : o.dst = some d) (hN : Nat.ble (d + 1) N = true) (hw : wanted all ρ o = true) (hn : notDefer o.op = true)
  (hr : (execOp (ev ρ) o).run P w = .ok (.enter f args) w') (hc : Calls P f args w' R)
  (h : ∀ e w'', R e w'' → ∃ v, e = .returned v ∧ Ops P r N all Q rest (upd ρ d v) ds w'') : Ops P r N all Q (o :: rest) ρ ds w := by
 intro a n hf
 have hw' := (hf.wanted all o).trans hw
 simp only [wpListIn, hw', if_true]
 refine ⟨fun _ _ => trivial, ?_⟩
 rw [semAt_fw hn, hf.eval, hr, Oper.uponIn_enter]
 refine ⟨fun hx => by simp [Fw] at hx, (callsIn_fw r hc).mono fun e w'' hR => ?_⟩
 obtain ⟨v, rfl, hk⟩ := h e w'' hR
 rw [hd]
 exact hk _ n (hf.put (Nat.le_of_ble_eq_true hN) _)
end
end
end Go.Eng
namespace Go.Eng
open Go Go.RowKit

def YieldsS (P : Program) (ops : Array Oper) (S : World → Prop) (o : Oper) (v : Value) (a : Act) : Prop :=
 (Region.wanted o (Go.yielded ops a.tmps) = true ∧ ∀ w, S w → (execOp a.eval o).run P w = .ok (.value v) w) ∨
 (Region.wanted o (Go.yielded ops a.tmps) = false ∧ v = undef)

def SD (jl : Nat) (S : World → Prop) (listed : Array Bool) (w : World) : Prop := listed.getD jl false = false → S w
def Closed (ops : Array Oper) (listed : Array Bool) : Prop :=
 ∀ j o, listed.getD j false = true → ops[j]? = some o → ∀ e ∈ o.after, Region.binds .any e = true → listed.getD e.on false = true
def closedB (ops : Array Oper) (listed : Array Bool) : Bool :=
 (List.range ops.size).all fun j => !listed.getD j false || ((ops[j]?).map (·.after.all fun e => !Region.binds .any e || listed.getD e.on false)).getD true
theorem Closed.set {ops : Array Oper} {listed : Array Bool} {i : Nat} (h : Closed ops listed) (hr : i ∈ Region.ready .any ops listed) : Closed ops (listed.setIfInBounds i true) := by
 intro j o hj ho e he hb
 refine getD_set_true ?_
 by_cases hji : i = j
 ·subst hji
  obtain ⟨_, o', ho', hall⟩ := mem_ready.1 hr
  rw [ho] at ho'; cases ho'
  exact hall e he hb
 ·rw [getD_set_ne false hji] at hj
  exact h j o hj ho e he hb
def anc (ops : Array Oper) : Nat → Nat → List Nat
 | 0, _ => []
 | n + 1, j => match ops[j]? with
  | some o => (o.after.toList.filter (Region.binds .any ·)).flatMap fun e => e.on :: anc ops n e.on
  | none => []
theorem Closed.anc {ops : Array Oper} {listed : Array Bool} (h : Closed ops listed) : ∀ (n j i : Nat), i ∈ Eng.anc ops n j → listed.getD j false = true → listed.getD i false = true := by
 intro n
 induction n with
 | zero => intro j i hi; cases hi
 | succ n ih =>
  intro j i hi hj
  simp only [Eng.anc] at hi
  split at hi
  ·rename_i o ho
   obtain ⟨e, he, hie⟩ := List.mem_flatMap.1 hi
   obtain ⟨he1, he2⟩ := List.mem_filter.1 he
   have h1 := h j o hj ho e (by simpa using he1) he2
   rcases List.mem_cons.1 hie with rfl | hie
   ·exact h1
   ·exact ih _ _ hie h1
  ·cases hi

def noDefers (ops : List Oper) : Bool := ops.all fun o => notDefer o.op

section
variable {P : Program} {r : Option Nat} {n : Nat} {ops : Array Oper} {jl : Nat} {S T : World → Prop} {Q : Exit → Act → World → Prop}

def AnyS (P : Program) (r : Option Nat) (n : Nat) (ops : Array Oper) (jl : Nat) (S : World → Prop) (Q : Exit → Act → World → Prop) : Nat → Array Bool → Act → World → Prop
 | 0, listed, a, w => Region.ready .any ops listed = [] ∧ Q .normal a w
 | fuel + 1, listed, a, w =>
  (Region.ready .any ops listed = [] → Q .normal a w) ∧
  ∀ i ∈ Region.ready .any ops listed, wpOpIn (Fw r) n P ops Q i (fun a' w' => SD jl S (listed.setIfInBounds i true) w' ∧ AnyS P r n ops jl S Q fuel (listed.setIfInBounds i true) a' w') a w

theorem YieldsS.wpOpIn {i : Nat} {o : Oper} {v : Value} {a : Act} (hi : ops[i]? = some o) (hn : notDefer o.op = true) (hy : YieldsS P ops T o v a)
  {K : Act → World → Prop} {w : World} (hS : T w) (h : K (a.put o.dst v) w) : wpOpIn (Fw r) n P ops Q i K a w := by
 unfold Go.wpOpIn
 simp only [hi]
 rcases hy with ⟨hw, hv⟩ | ⟨hw, rfl⟩
 ·simp only [hw, if_true, Oper.wpIn]
  refine ⟨fun _ _ => trivial, ?_⟩
  rw [semAt_fw hn, hv w hS, Oper.uponIn_value]
  exact h
 ·simp only [hw, Bool.false_eq_true, if_false]; exact ⟨fun _ _ => trivial, h⟩

end

def lst (m : Nat) (done : List Nat) : Array Bool := done.foldr (fun i l => l.setIfInBounds i true) (Array.replicate m false)
def onlyN (N : Nat) (K : Slots → List Deferred → World → Prop) : Exit → Act → World → Prop := fun e a w => e = .normal ∧ ∃ ρ ds, Frm N ds a ρ ∧ K ρ ds w

section
variable {P : Program} {r : Option Nat} {N : Nat} {Q : Post} {ρ : Slots} {ds : List Deferred} {w : World} {all : List Oper} {jl : Nat} {S : World → Prop} {K : Slots → List Deferred → World → Prop}

def Any (P : Program) (r : Option Nat) (N : Nat) (all : List Oper) (jl : Nat) (S : World → Prop) (K : Slots → List Deferred → World → Prop) (fuel : Nat) (done : List Nat) (ρ : Slots) (ds : List Deferred) (w : World) : Prop :=
 ∀ a n, Frm N ds a ρ → AnyS P r n all.toArray jl S (onlyN N K) fuel (lst all.length done) a w

def okSet (all : List Oper) : Bool := Region.noSelect all.toArray && noDefers all
def takable (all : List Oper) (done : List Nat) (i : Nat) : Bool := closedB all.toArray (lst all.length done) && Region.free .any all.toArray (lst all.length done) i && (Region.ready .any all.toArray (lst all.length done)).contains i

def leans (all : List Oper) (jl i : Nat) : Bool := Nat.ble all.length jl || (anc all.toArray all.length jl).contains i
def Step (P : Program) (r : Option Nat) (N : Nat) (all : List Oper) (o : Oper) (K : Slots → List Deferred → World → Prop) (ρ : Slots) (ds : List Deferred) (w : World) : Prop :=
 Ops P r N all (andThen K fun _ _ _ _ => False) [o] ρ ds w

end
end Go.Eng
namespace Go.Eng
open Go Go.RowKit

inductive Own where
 | blk (b : Nat) (cs : List Value) (t : TypeId)
 | row (e k : Nat) (v : Value) (xs : List (List Value))
 | obj (b : Nat) (o : Obj)
 | objs (W : World)
def isCells' : Obj → Bool | .cells .. => true | _ => false
def Own.dom : Own → Option Nat
 | .blk b _ _ => some b
 | .row _ _ v _ => v.ownBlock
 | .obj b _ => some b
 | .objs _ => none
def Own.cellish : Own → Bool | .obj .. => false | _ => true
def Own.holds (base : Nat) (w : World) : Own → Prop
 | .blk b cs t => base ≤ b ∧ w.heap[b]? = some (.cells cs.toArray t (0, 0))
 | .row e k v xs => w.ownsRow base e k v xs.length xs.flatten ∧ ∀ x ∈ xs, x.length = k
 | .obj b o => base ≤ b ∧ w.heap[b]? = some o
 | .objs W => W.heap.size ≤ w.heap.size ∧ ∀ (k : Nat) (o : Obj), W.heap[k]? = some o → isCells' o = false → w.heap[k]? = some o
def Own.apart (x y : Own) : Prop := ∀ b, x.dom = some b → y.dom ≠ some b
structure St (W0 : World) (L : List Own) (w : World) : Prop where
 below : Below W0.heap.size W0 w
 own : ∀ x ∈ L, x.holds W0.heap.size w
 apart : L.Pairwise Own.apart

theorem Own.apart_symm {x y : Own} (h : x.apart y) : y.apart x := fun b hy hx => h b hx hy
theorem Own.dom_lt {base : Nat} {w : World} {x : Own} (h : x.holds base w) : ∀ b, x.dom = some b → base ≤ b ∧ b < w.heap.size := by
 intro b hb
 cases x with
 | blk b' cs t =>
  obtain ⟨h1, h2⟩ := h
  simp only [Own.dom, Option.some.injEq] at hb
  subst hb
  exact ⟨h1, (Array.getElem?_eq_some_iff.1 h2).1⟩
 | row e k v xs => exact h.1.lt b hb
 | obj b' o =>
  obtain ⟨h1, h2⟩ := h
  simp only [Own.dom, Option.some.injEq] at hb
  subst hb
  exact ⟨h1, (Array.getElem?_eq_some_iff.1 h2).1⟩
 | objs W => simp [Own.dom] at hb
theorem Own.dom_cells {base : Nat} {w : World} {x : Own} (h : x.holds base w) (hc : x.cellish = true) : ∀ b, x.dom = some b → ∃ o, w.heap[b]? = some o ∧ isCells' o = true := by
 intro b hb
 cases x with
 | blk b' cs t => simp only [Own.dom, Option.some.injEq] at hb; subst hb; exact ⟨_, h.2, rfl⟩
 | row e k v xs =>
  rcases h.1.2 with ⟨rfl, _⟩ | ⟨g, cap, cur, rfl, _, hg, _⟩
  ·simp [Own.dom, Value.ownBlock] at hb
  ·simp only [Own.dom, Value.ownBlock, Option.some.injEq] at hb; subst hb; exact ⟨_, hg, rfl⟩
 | obj b' o => cases hc
 | objs W => simp [Own.dom] at hb
theorem Own.keep {base : Nat} {w w' : World} {x : Own} {row : Option Nat} (h : x.holds base w) (hg : w.grownBy w' row) (hne : ∀ b, x.dom = some b → some b ≠ row)
  (hrow : ∀ b, row = some b → ∃ o, w.heap[b]? = some o ∧ isCells' o = true) : x.holds base w' := by
 cases x with
 | blk b cs t => exact ⟨h.1, (hg.block b (Array.getElem?_eq_some_iff.1 h.2).1 (hne b rfl)).trans h.2⟩
 | row e k v xs =>
  refine ⟨h.1.kept hg ?_, h.2⟩
  cases hv : v.ownBlock with
  | none => exact .inl rfl
  | some b => exact .inr (hne b hv)
 | obj b o => exact ⟨h.1, (hg.block b (Array.getElem?_eq_some_iff.1 h.2).1 (hne b rfl)).trans h.2⟩
 | objs W =>
  refine ⟨Nat.le_trans h.1 hg.size, fun k o hk ho => ?_⟩
  have h1 := h.2 k o hk ho
  refine (hg.block k (Array.getElem?_eq_some_iff.1 h1).1 (fun e => ?_)).trans h1
  obtain ⟨o', ho', hc⟩ := hrow k e.symm
  rw [h1] at ho'
  cases ho'
  rw [hc] at ho
  cases ho

section
variable {W0 w w' : World} {L : List Own} {x x' y : Own}
theorem St.start (w : World) : St w [] w := ⟨Below.refl _ _, (fun _ h => by cases h), List.Pairwise.nil⟩
theorem St.size (h : St W0 L w) : W0.heap.size ≤ w.heap.size := h.below.size
theorem St.keep (h : St W0 L w) (hg : w.grownBy w' none) : St W0 L w' :=
 ⟨h.below.grown hg h.size (fun _ e => (by cases e)), fun x hx => Own.keep (h.own x hx) hg (fun _ _ => by simp) (fun _ e => (by cases e)), h.apart⟩
theorem St.add (h : St W0 L w) (hg : w.grownBy w' none) (hx : x.holds W0.heap.size w') (hd : ∀ b, x.dom = some b → w.heap.size ≤ b) : St W0 (x :: L) w' := by
 have h' := h.keep hg
 refine ⟨h'.below, fun y hy => ?_, List.Pairwise.cons (fun y hy b hb hyb => ?_) h.apart⟩
 ·rcases List.mem_cons.1 hy with rfl | hy
  ·exact hx
  ·exact h'.own y hy
 ·have := hd b hb
  have := (Own.dom_lt (h.own y hy) b hyb).2
  omega
theorem St.change (h : St W0 (x :: L) w) (hcl : x.cellish = true) (hg : w.grownBy w' x.dom) (hx : x'.holds W0.heap.size w') (hd : ∀ b, x'.dom = some b → x.dom = some b ∨ w.heap.size ≤ b) : St W0 (x' :: L) w' := by
 have hp := List.pairwise_cons.1 h.apart
 refine ⟨h.below.grown hg h.size (fun b hb => (Own.dom_lt (h.own x (List.mem_cons_self ..)) b hb).1), fun y hy => ?_, List.Pairwise.cons (fun y hy b hb hyb => ?_) hp.2⟩
 ·rcases List.mem_cons.1 hy with rfl | hy
  ·exact hx
  ·exact Own.keep (h.own y (List.mem_cons_of_mem _ hy)) hg (fun b hb he => hp.1 y hy b he.symm hb) (Own.dom_cells (h.own x (List.mem_cons_self ..)) hcl)
 ·rcases hd b hb with hb' | hb'
  ·exact hp.1 y hy b hb' hyb
  ·have := (Own.dom_lt (h.own y (List.mem_cons_of_mem _ hy)) b hyb).2
   omega
theorem St.drop (h : St W0 (x :: L) w) : St W0 L w :=
 ⟨h.below, fun y hy => h.own y (List.mem_cons_of_mem _ hy), (List.pairwise_cons.1 h.apart).2⟩
theorem St.perm {L' : List Own} (h : St W0 L w) (hp : L.Perm L') : St W0 L' w :=
 ⟨h.below, fun y hy => h.own y (hp.mem_iff.2 hy), (hp.pairwise_iff (fun {_ _} => Own.apart_symm)).1 h.apart⟩
theorem St.drew (h : St W0 L w) : St W0 L w.drew := h.keep ⟨rfl, rfl, rfl, Nat.le_refl _, fun _ _ _ => rfl⟩
variable {a b c d e f g i : Own}
theorem St.f1 (h : St W0 (a :: b :: L) w) : St W0 (b :: a :: L) w := h.perm (.swap ..)
theorem St.f2 (h : St W0 (a :: b :: c :: L) w) : St W0 (c :: a :: b :: L) w := h.perm (List.perm_middle (l₁ := [a, b]))
theorem St.f3 (h : St W0 (a :: b :: c :: d :: L) w) : St W0 (d :: a :: b :: c :: L) w := h.perm (List.perm_middle (l₁ := [a, b, c]))
theorem St.f4 (h : St W0 (a :: b :: c :: d :: e :: L) w) : St W0 (e :: a :: b :: c :: d :: L) w := h.perm (List.perm_middle (l₁ := [a, b, c, d]))
theorem St.ro (h : St W0 L w) {p : Addr} {v : Value} (hc : W0.cell? p = some v) : w.cell? p = some v :=
 (h.below.cell (World.block_lt_of_cell? W0 p hc)).trans hc
theorem St.cell (h : St W0 L w) {n : Nat} {b : Nat} {cs : List Value} {t : TypeId} (hL : L[n]? = some (.blk b cs t)) {off : Nat} {v : Value} (hv : cs[off]? = some v) : w.cell? ⟨b, off, none⟩ = some v := by
 have := h.own _ (List.mem_of_getElem? hL)
 rw [cell_of_row w b off cs.toArray t (0, 0) this.2]
 simpa using hv
theorem flatten_at {k : Nat} : ∀ {xs : List (List Value)}, (∀ x ∈ xs, x.length = k) → ∀ {m j : Nat} {x : List Value} {u : Value}, xs[m]? = some x → x[j]? = some u → xs.flatten[m * k + j]? = some u := by
 intro xs
 induction xs with
 | nil => intro _ m j x u hm; simp at hm
 | cons y ys ih =>
  intro hk m j x u hm hj
  have hy := hk y (List.mem_cons_self ..)
  have hjl : j < x.length := (List.getElem?_eq_some_iff.1 hj).1
  cases m with
  | zero =>
   simp at hm
   subst hm
   rw [List.flatten_cons, Nat.zero_mul, Nat.zero_add, List.getElem?_append_left hjl]
   exact hj
  | succ m =>
   rw [List.flatten_cons, List.getElem?_append_right (by rw [hy, Nat.succ_mul]; omega)]
   have := ih (fun x hx => hk x (List.mem_cons_of_mem _ hx)) (m := m) (by simpa using hm) hj
   rw [← this]
   congr 1
   rw [hy, Nat.succ_mul]; omega
theorem St.rowCell (h : St W0 L w) {n : Nat} {e k : Nat} {v : Value} {xs : List (List Value)} (hL : L[n]? = some (.row e k v xs)) {g : Nat} (hg : v.ownBlock = some g)
  {m j : Nat} {x : List Value} {u : Value} (hm : xs[m]? = some x) (hj : x[j]? = some u) : w.cell? ⟨g, m * k + j, none⟩ = some u := by
 have hh := h.own _ (List.mem_of_getElem? hL)
 have := hh.1.cells hg (m * k + j) u (flatten_at hh.2 hm hj)
 rwa [Addr.add_lit, Nat.zero_add] at this
end

/- types -/
def notAgg : TypeDesc → Bool | .struct _ => false | .array _ _ => false | _ => true
def Scal (P : Program) (t : TypeId) : Prop := ∃ d i, P.underlying t = some d ∧ notAgg d = true ∧ P.info? t = some i ∧ i.size = 1
def AggT (P : Program) (t : TypeId) (k : Nat) : Prop := ∃ d i, P.underlying t = some d ∧ notAgg d = false ∧ P.info? t = some i ∧ i.size = k
def typeChk (P : Program) (t k : Nat) (ag : Bool) : Bool :=
 match P.underlying t, P.info? t with
 | some d, some i => (notAgg d == !ag) && Nat.beq i.size k
 | _, _ => false
def SizeT (P : Program) (t k : Nat) : Prop := ∃ i, P.info? t = some i ∧ i.size = k
theorem Scal.size {P : Program} {t : Nat} (h : Scal P t) : SizeT P t 1 := let ⟨_, i, _, _, hi, hk⟩ := h; ⟨i, hi, hk⟩
theorem AggT.size {P : Program} {t k : Nat} (h : AggT P t k) : SizeT P t k := let ⟨_, i, _, _, hi, hk⟩ := h; ⟨i, hi, hk⟩
def SliceT (P : Program) (t e k bytes : Nat) (zs : List Value) : Prop := ∃ i z, P.underlying t = some (.slice e) ∧ P.info? e = some i ∧ i.size = k ∧ i.bytes = bytes ∧ i.zero = some z ∧ z.cells.toList = zs ∧ zs.length = k ∧ 0 < k
section
variable {P : Program} {ρ : Slots} {w : World} {dst : Option Tmp} {ty : TypeId} {pos : String} {aft : Array Edge} {gd : Option (Nat × Bool)}
theorem run_isAgg_scal {t : TypeId} (h : Scal P t) : (isAgg t).run P w = .ok false w := by
 obtain ⟨d, _, hd, hs, _⟩ := h
 unfold isAgg
 cases d <;> simp [run_underlying hd, notAgg] at hs ⊢
theorem run_isAgg_agg {t k : TypeId} (h : AggT P t k) : (isAgg t).run P w = .ok true w := by
 obtain ⟨d, i, hd, hs, _⟩ := h
 unfold isAgg
 cases d <;> simp [run_underlying hd, notAgg] at hs ⊢
theorem run_load_scal {t : TypeId} {x : Operand} {p : Addr} {v : Value} (hs : Scal P t) (ha : ev ρ x = .pointer (some p)) (hc : w.cell? p = some v) :
  (execOp (ev ρ) ⟨dst, .load t x, ty, pos, aft, gd⟩).run P w = .ok (.value v) w := by
 simp [execOp, Instr.loadAt, ha, Instr.sureAddr, loadVar, run_isAgg_scal hs, load, Sem.run, hc]
theorem run_load_agg {t : TypeId} {x : Operand} {p : Addr} {k : Nat} (cs : List Value) (hs : AggT P t k) (ha : ev ρ x = .pointer (some p)) (hl : cs.length = k)
  (hc : ∀ j u, cs[j]? = some u → w.cell? (p.add j) = some u) :
  (execOp (ev ρ) ⟨dst, .load t x, ty, pos, aft, gd⟩).run P w = .ok (.value (.agg cs.toArray)) w := by
 obtain ⟨d, i, hd, _, hi, hk⟩ := id hs
 subst hl
 simp [execOp, Instr.loadAt, ha, Instr.sureAddr, loadVar, run_isAgg_agg hs, sizeOf, typeInfo, hi, hk, run_loadCells_list w p cs hc]
end
end Go.Eng
namespace Go.Eng
open Go Go.RowKit

abbrev str (l : List UInt8) : Value := .string ⟨l.toArray⟩
abbrev i64 (n : Int) : Value := .int .i64 n

def binV (op : BinOp) (x y : Value) : Option Value :=
 match x, y with
 | .int k a, .int k' b =>
  if k = k' then
   match op with
   | .lss => some (.bool (decide (a < b)))
   | .leq => some (.bool (decide (a ≤ b)))
   | .gtr => some (.bool (decide (a > b)))
   | .geq => some (.bool (decide (a ≥ b)))
   | .eql => some (.bool (decide (a = b)))
   | .neq => some (.bool (!decide (a = b)))
   | .add => some (.int k (k.wrap (a + b)))
   | .sub => some (.int k (k.wrap (a - b)))
   | .mul => some (.int k (k.wrap (a * b)))
   | _ => none
  else none
 | .string a, .string b =>
  match op with
  | .eql => some (.bool (decide (a.data.toList = b.data.toList)))
  | .neq => some (.bool (!decide (a.data.toList = b.data.toList)))
  | .lss => some (.bool (Op.bytesLess a.data.toList b.data.toList))
  | _ => none
 | _, _ => none
def pv (ρ : Slots) : Op → Option Value
 | .move x | .assign x => some (ev ρ x)
 | .pick c a b => match ev ρ c with | .bool t => some (bif t then ev ρ a else ev ρ b) | _ => none
 | .binOp op _ x y _ => binV op (ev ρ x) (ev ρ y)
 | .unOp .not _ x => match ev ρ x with | .bool b => some (.bool (!b)) | _ => none
 | .unOp .neg _ x => match ev ρ x with | .int k n => some (.int k (k.wrap (0 - n))) | _ => none
 | .extract x i => match ev ρ x with | .tuple vs => vs.toList[i]? | _ => none
 | .makeFunc fn first cap => some (.func fn (first.toList.map (ev ρ)).toArray (cap.toList.map (ev ρ)).toArray)
 | _ => none

section
variable {P : Program} {ρ : Slots} {w : World} {dst : Option Tmp} {ty : TypeId} {pos : String} {aft : Array Edge} {gd : Option (Nat × Bool)}

def fieldChk (P : Program) (s f off : Nat) : Bool :=
 match P.underlying s with
 | some (.struct fs) => match fs[f]? with
  | some fld => Nat.beq fld.offset off && (match P.info? fld.type with | some i => !Nat.beq i.size 0 | none => false)
  | none => false
 | _ => false
def FieldT (P : Program) (s f off : Nat) : Prop := ∃ fs fld i, P.underlying s = some (.struct fs) ∧ fs[f]? = some fld ∧ fld.offset = off ∧ P.info? fld.type = some i ∧ i.size ≠ 0
theorem run_fieldAddr {s f off : Nat} {x : Operand} {p : Addr} (hf : FieldT P s f off) (ha : ev ρ x = .pointer (some p)) :
  (execOp (ev ρ) ⟨dst, .fieldAddr s x f, ty, pos, aft, gd⟩).run P w = .ok (.value (.pointer (some (p.add off)))) w := by
 obtain ⟨fs, fld, i, h1, h2, h3, h4, h5⟩ := hf
 subst h3
 simp [execOp, Instr.fieldAt, run_underlying h1, h2, ha, Instr.sureAddr, fieldPlace, sizeOf, typeInfo, h4, h5]
theorem add_blk (b o n : Nat) : (⟨b, o, none⟩ : Addr).add n = ⟨b, o + n, none⟩ := Addr.add_lit b o n
theorem run_fieldAddr_blk {s f off : Nat} {x : Operand} {b o o' : Nat} (hf : FieldT P s f off) (ho : o + off = o') (ha : ev ρ x = .pointer (some ⟨b, o, none⟩)) :
  (execOp (ev ρ) ⟨dst, .fieldAddr s x f, ty, pos, aft, gd⟩).run P w = .ok (.value (.pointer (some ⟨b, o', none⟩))) w := by
 subst ho; rw [← add_blk]; exact run_fieldAddr hf ha
theorem run_len_str {t : TypeId} {x : Operand} {s : List UInt8} (ht : P.underlying t = some .string) (ha : ev ρ x = str s) :
  (execOp (ev ρ) ⟨dst, .call ⟨.builtin .len, #[x], #[t]⟩, ty, pos, aft, gd⟩).run P w = .ok (.value (i64 s.length)) w := by
 have hs : (⟨s.toArray⟩ : ByteArray).size = s.length := by show s.toArray.size = _; simp
 simp [execOp, resolve, invoke, builtin, ha, Builtin.len_, run_underlying ht, goInt, hs]
theorem run_len_slice' {t e : TypeId} {x : Operand} {A : Option Addr} {n c : Nat} (ht : P.underlying t = some (.slice e)) (ha : ev ρ x = .slice A n c) :
  (execOp (ev ρ) ⟨dst, .call ⟨.builtin .len, #[x], #[t]⟩, ty, pos, aft, gd⟩).run P w = .ok (.value (i64 n)) w := by
 simp [execOp, resolve, invoke, builtin, ha, Builtin.len_, run_underlying ht, goInt]
theorem run_eql_bool' {t t' : TypeId} {x y : Operand} {a b : Bool} (ht : P.underlying t = some .bool) (ha : ev ρ x = .bool a) (hb : ev ρ y = .bool b) :
  (execOp (ev ρ) ⟨dst, .binOp .eql t x y t', ty, pos, aft, gd⟩).run P w = .ok (.value (.bool (a == b))) w := by
 simp [execOp, ha, hb, run_eql_bool _ _ _ _ ht, eqGuard]
theorem run_neq_bool' {t t' : TypeId} {x y : Operand} {a b : Bool} (ht : P.underlying t = some .bool) (ha : ev ρ x = .bool a) (hb : ev ρ y = .bool b) :
  (execOp (ev ρ) ⟨dst, .binOp .neq t x y t', ty, pos, aft, gd⟩).run P w = .ok (.value (.bool (!(a == b)))) w := by
 simp [execOp, ha, hb, run_neq_bool _ _ _ _ ht, eqGuard]
end

theorem wrap64_id {a : Int} (h1 : -9223372036854775808 ≤ a) (h2 : a ≤ 9223372036854775807) : IntKind.i64.wrap a = a := by
 rw [IntKind.wrap_i64]; omega
end Go.Eng
namespace Go.Eng
open Go Go.RowKit

def ZeroT (P : Program) (t : Nat) (zs : List Value) : Prop := ∃ i z, P.info? t = some i ∧ i.zero = some z ∧ z.cells.toList = zs
def onesB (l : List Value) : Bool := l.all (·.oneCell')

section
variable {P : Program} {r : Option Nat} {N : Nat} {Q : Post} {ρ : Slots} {ds : List Deferred} {w W0 : World} {L : List Own}
variable {all rest : List Oper} {ty : TypeId} {pos : String} {aft : Array Edge} {gd : Option (Nat × Bool)}

theorem St.alloc {L : List Own} (S : St W0 L w) (vs : List Value) (t : TypeId) : St W0 (.blk w.heap.size vs t :: L) (w.alloc (.cells vs.toArray t)) :=
 S.add (World.grownBy_alloc w _ none) ⟨S.size, heap_alloc_new w _⟩ (fun b hb => by simp only [Own.dom, Option.some.injEq] at hb; omega)

def Fn (P : Program) (f : FuncId) (args : List Value) (w : World) (φ : Value → World → Prop) : Prop :=
 Calls P f args.toArray w fun e w' => ∃ v, e = .returned v ∧ Below w.heap.size w w' ∧ φ v w'
theorem Fn.mono {f : FuncId} {args : List Value} {φ ψ : Value → World → Prop} (h : Fn P f args w φ) (hm : ∀ v w', φ v w' → ψ v w') : Fn P f args w ψ :=
 Calls.mono h fun _ _ ⟨v, he, hb, hp⟩ => ⟨v, he, hb, hm _ _ hp⟩
def FnIs (P : Program) (f : FuncId) (args : List Value) (w : World) (v : Value) : Prop := Fn P f args w fun v' _ => v' = v
def hasBody (P : Program) (f : FuncId) : Prop := ∃ fn, P.funcs[f]? = some fn ∧ (fn.name == "runtime.NumGoroutine") = false ∧ fn.body.isNone = false
theorem run_call {d : Option Tmp} {f : FuncId} {l : List Operand} {ts : Array TypeId} (vs : List Value) (hf : hasBody P f) (ha : l.map (ev ρ) = vs) :
  (execOp (ev ρ) ⟨d, .call ⟨.value (.func f), l.toArray, ts⟩, ty, pos, aft, gd⟩).run P w = .ok (.enter f vs.toArray) w := by
 obtain ⟨fn, h1, h2, h3⟩ := hf
 subst ha
 have h2' : ¬ fn.name = "runtime.NumGoroutine" := by simpa using h2
 have h3' : ¬ fn.body = none := by intro e; rw [e] at h3; cases h3
 simp [execOp, resolve, ev, Deferred.ofValue, invoke, callFunc, program, Sem.run, h1, h2', h3']
def argSlots (l : List Value) : Slots := fun t => l.getD t undef
def finPost (P : Program) (fn : Func) (W0 : World) (φ : Value → World → Prop) : Post
 | .normal, ρ, ds, w | .ret, ρ, ds, w => ds = [] ∧ ∃ v, (∀ tmps : Array Value, (∀ t, tmps.getD t undef = ρ t) → (results fn tmps).run P w = .ok v w) ∧ Below W0.heap.size W0 w ∧ φ v w
 | _, _, _, _ => False
section
variable {fn : Func} {φ : Value → World → Prop}
theorem fin_nrm (h : finPost P fn W0 φ .ret ρ ds w) : finPost P fn W0 φ .normal ρ ds w := h
end
end
end Go.Eng
namespace Go.Eng
open Go Go.RowKit

def Bot : Post := fun _ _ _ _ => False
section
variable {P : Program} {r : Option Nat} {N : Nat} {Q : Post} {ρ : Slots} {ds : List Deferred} {w W0 : World} {L : List Own}
variable {all rest : List Oper} {jl : Nat} {S : World → Prop} {K : Slots → List Deferred → World → Prop}

variable {dst : Option Tmp} {ty : TypeId} {pos : String} {aft : Array Edge} {gd : Option (Nat × Bool)}
def adr : Value → Addr | .slice (some a) _ _ => a | _ => ⟨0, 0, none⟩
def Rd {α : Type} (W : World) (enc : α → List Value) (k : Nat) (v : Value) (l : List α) : Prop :=
 ∃ A c, v = .slice A l.length c ∧ l.length ≤ c ∧ c ≤ maxLen ∧ (0 < l.length → A = some (adr v)) ∧ ∀ i j x u, l[i]? = some x → (enc x)[j]? = some u → W.cell? (((adr v).add (i * k)).add j) = some u
section
variable {α : Type} {enc : α → List Value} {k : Nat} {v : Value} {l : List α}
theorem Rd.at' {d : α} (h : Rd W0 enc k v l) {i j : Nat} {u : Value} (hi : i < l.length) (hj : (enc (l.getD i d))[j]? = some u) : W0.cell? (((adr v).add (i * k)).add j) = some u := by
 obtain ⟨A, c, _, _, _, _, hc⟩ := h
 refine hc i j (l.getD i d) u ?_ hj
 simp [List.getD_eq_getElem?_getD, List.getElem?_eq_getElem hi]
theorem Rd.each {d : α} (h : Rd W0 enc k v l) {i : Nat} (hi : i < l.length) : ∀ j u, (enc (l.getD i d))[j]? = some u → W0.cell? (((adr v).add (i * k)).add j) = some u := fun _ _ hj => h.at' hi hj
theorem Rd.len (h : Rd W0 enc k v l) : l.length ≤ 9223372036854775807 := by
 obtain ⟨A, c, _, h1, h2, _⟩ := h
 simp only [maxLen] at h2; omega
theorem Rd.nil (W : World) : Rd W enc k (.slice none 0 0) [] := ⟨none, 0, rfl, Nat.le_refl _, by simp [maxLen], fun h => absurd h (by simp), fun i j x u h => by simp at h⟩
theorem St.rd (hS : St W0 L w) (h : Rd W0 enc k v l) : Rd w enc k v l := by
 obtain ⟨A, c, h1, h2, h3, h4, hc⟩ := h
 exact ⟨A, c, h1, h2, h3, h4, fun i j x u hx hu => hS.ro (hc i j x u hx hu)⟩
theorem St.rdRow (hS : St W0 L w) {n : Nat} {e : Nat} (hL : L[n]? = some (.row e k v (l.map enc))) : Rd w enc k v l := by
 have hh := hS.own _ (List.mem_of_getElem? hL)
 obtain ⟨ho, hk⟩ := hh
 rcases ho.2 with ⟨hv, hn⟩ | ⟨g, cap, cur, hv, hb, hg, hnc, hcm, hcs, htk⟩
 ·simp only [List.length_map] at hn
  obtain rfl : l = [] := List.eq_nil_of_length_eq_zero hn
  subst hv
  exact Rd.nil w
 ·simp only [List.length_map] at hv hnc
  refine ⟨_, cap, hv, hnc, hcm, fun _ => by rw [hv]; rfl, fun i j x u hx hu => ?_⟩
  have := hS.rowCell hL (g := g) (by rw [hv]; rfl) (m := i) (j := j) (x := enc x) (u := u) (by simp [hx]) hu
  rw [hv]
  simp only [adr, Addr.add_lit, Nat.zero_add]
  exact this
def IsSliceT (P : Program) (t e k : Nat) : Prop := P.underlying t = some (.slice e) ∧ ∃ i, P.info? e = some i ∧ i.size = k
end
def sliceChk (P : Program) (t e k : Nat) : Bool := match P.underlying t, P.info? e with | some (.slice e'), some i => Nat.beq e e' && Nat.beq i.size k | _, _ => false
def bodyChk (P : Program) (f : FuncId) : Bool := match P.funcs[f]? with | some fn => !(fn.name == "runtime.NumGoroutine") && !fn.body.isNone | none => false
theorem body_of {f : FuncId} (h : bodyChk P f = true) : hasBody P f := by
 unfold bodyChk at h
 split at h
 ·rename_i fn hf
  simp only [Bool.and_eq_true, Bool.not_eq_true'] at h
  exact ⟨fn, hf, h.1, h.2⟩
 ·cases h
end
end Go.Eng
namespace Go.Eng
open Go Go.RowKit
def encI (n : Int) : List Value := [i64 n]
def encB (b : Bool) : List Value := [.bool b]
def encS (s : List UInt8) : List Value := [str s]
end Go.Eng
namespace Go.Eng
open Go Go.RowKit

section
variable {P : Program} {r : Option Nat} {N : Nat} {Q : Post} {ρ : Slots} {ds : List Deferred} {w W0 : World} {L : List Own}
variable {all rest : List Oper} {ty : TypeId} {pos : String} {aft : Array Edge} {gd : Option (Nat × Bool)}

theorem St.newRow (S : St W0 L w) {e k n : Nat} {xs : List (List Value)} (hn : xs.length = n) (hk : ∀ x ∈ xs, x.length = k) (hm : n ≤ maxLen) :
  St W0 (.row e k (.slice (some ⟨w.heap.size, 0, none⟩) n n) xs :: L) (w.alloc (.cells xs.flatten.toArray e)) := by
 have hl : xs.flatten.length = n * k := by
  subst hn
  clear hm
  induction xs with
  | nil => simp
  | cons y ys ih =>
   rw [List.flatten_cons, List.length_append, hk y (List.mem_cons_self ..), ih (fun x hx => hk x (List.mem_cons_of_mem _ hx)), List.length_cons, Nat.succ_mul]; omega
 refine S.add (World.grownBy_alloc w _ none) ⟨?_, hk⟩ (fun b hb => by simp only [Own.dom, Value.ownBlock, Option.some.injEq] at hb; omega)
 subst hn
 exact ⟨hl, .inr ⟨w.heap.size, xs.length, xs.flatten.toArray, rfl, S.size, heap_alloc_new w _, Nat.le_refl _, hm, by simpa using hl, by rw [← hl]; exact List.take_length⟩⟩

theorem St.nilRow (S : St W0 L w) (e k : Nat) : St W0 (.row e k (.slice none 0 0) [] :: L) w :=
 ⟨S.below, fun x hx => by
  rcases List.mem_cons.1 hx with rfl | hx
  ·exact ⟨by simpa using World.ownsRow_nil w _ e k, by simp⟩
  ·exact S.own x hx, List.Pairwise.cons (fun y _ b hb _ => by simp [Own.dom, Value.ownBlock] at hb) S.apart⟩
def FnRow {α : Type} (P : Program) (f : FuncId) (args : List Value) (w : World) (e k : Nat) (enc : α → List Value) (l : List α) : Prop :=
 Fn P f args w fun v w' => Own.holds w.heap.size w' (.row e k v (l.map enc))
end
end Go.Eng
namespace Go.Eng
open Go Go.RowKit

def Stable (B : Nat) (J : World → Prop) : Prop :=
 ∀ W W' row, J W → W.grownBy W' row → (∀ b, row = some b → B ≤ b ∧ ∃ o, W.heap[b]? = some o ∧ isCells' o = false) → J W'
structure Keeps (B : Nat) (W W' : World) : Prop where
 size : W.heap.size ≤ W'.heap.size
 same : ∀ (k : Nat) (o : Obj), B ≤ k → W.heap[k]? = some o → isCells' o = false → W'.heap[k]? = some o
theorem Keeps.refl (B : Nat) (W : World) : Keeps B W W := ⟨Nat.le_refl _, fun _ _ _ h _ => h⟩
theorem Keeps.trans {B : Nat} {A C D : World} (h : Keeps B A C) (k : Keeps B C D) : Keeps B A D :=
 ⟨Nat.le_trans h.size k.size, fun i o hB hi ho => k.same i o hB (h.same i o hB hi ho) ho⟩
theorem Keeps.mono {B B' : Nat} {W W' : World} (h : Keeps B W W') (hB : B ≤ B') : Keeps B' W W' := ⟨h.size, fun k o hk => h.same k o (Nat.le_trans hB hk)⟩
theorem grownBy_putObj (W : World) (l : Nat) (o : Obj) : W.grownBy (W.putObj l o) (some l) :=
 ⟨rfl, rfl, rfl, by simp, fun _ _ hk => World.putObj_heap_other (fun e => hk (by rw [e]))⟩
theorem Stable.putObj {B : Nat} {J : World → Prop} (h : Stable B J) {W : World} {l : Nat} {o : Obj} (o' : Obj) (hJ : J W) (hB : B ≤ l) (hl : W.heap[l]? = some o) (ho : isCells' o = false) : J (W.putObj l o') :=
 h W _ (some l) hJ (grownBy_putObj W l o') (fun b e => by cases e; exact ⟨hB, o, hl, ho⟩)
theorem Stable.alloc {B : Nat} {J : World → Prop} (h : Stable B J) {W : World} (o : Obj) (hJ : J W) : J (W.alloc o) :=
 h W _ none hJ (World.grownBy_alloc W o none) (fun b e => by cases e)

def Iter {α : Type} (P : Program) (gf : Nat) (lb : List Value) (encs : α → List Value) (xs : List α) (Need : World → Prop) : Prop :=
 ∀ (l : Nat) (J Jx : List α → World → Prop) (W : World), (∀ pre W1, J pre W1 → Need W1) → (∀ pre, Stable W.heap.size (J pre)) → (∀ pre, Stable W.heap.size (Jx pre)) →
  (∀ pre x W1, J pre W1 → pre ++ [x] <+: xs → YieldAt Fence.wide 0 P l (encs x).toArray W1 fun e W' =>
   Keeps W.heap.size W1 W' ∧ ((e = .returned (.bool true) ∧ J (pre ++ [x]) W') ∨ (e = .returned (.bool false) ∧ Jx (pre ++ [x]) W'))) →
  J [] W →
  Calls P gf (.func (.yield l) #[] #[] :: lb).toArray W fun e W' => (∃ v, e = .returned v) ∧ (J xs W' ∨ ∃ pre, pre <+: xs ∧ Jx pre W')

def mark (D : Nat) : Deferred := { target := .collected D, args := #[] }
def roundP (B : Nat) (I : World → Prop) (Ix : Code → World → Prop) (W : World) : Post
 | .normal, _, _, W' => Keeps B W W' ∧ I W'
 | .ret, _, _, W' => Keeps B W W' ∧ Ix .ret W'
 | .exit id, _, _, W' => Keeps B W W' ∧ Ix (.exit id) W'
 | _, _, _, _ => False

def updL (ρ : Slots) : List (Nat × Value) → Slots
 | [] => ρ
 | (d, v) :: r => updL (upd ρ d v) r

section
variable {P : Program} {N : Nat} {Q : Post} {ρ : Slots} {ds : List Deferred} {w : World}

end
end Go.Eng
namespace Go.Eng
open Go Go.RowKit

def Takes : List Deferred → World → World → Prop
 | [], w, w' => w' = w
 | d :: ds, w, w' => ∃ D, d = mark D ∧ w.heap[D]? = some (.deferred (some [])) ∧ Takes ds (w.putObj D (.deferred none)) w'
section
variable {P : Program} {N : Nat} {Q : Post} {ρ : Slots} {ds : List Deferred} {w W0 : World} {L : List Own}

theorem leaves_of_takes {fn : Func} {tmps : Array Value} {R : Ending → World → Prop} {v : Value} : ∀ (ds : List Deferred) (w w' : World), Takes ds w w' → (results fn tmps).run P w' = .ok v w' → R (.returned v) w' → LeavesInM Fence.wide 0 P fn tmps R ds .returning w
 | [], w, w', ht, hr, hR => by
  subst ht
  exact ⟨v, hr, hR⟩
 | d :: ds, w, w', ⟨D, hd, hh, ht⟩, hr, hR => by
  subst hd
  exact ⟨by simp, .inl ⟨D, _, rfl, run_takeDeferred hh, leaves_of_takes ds _ w' ht hr hR⟩⟩

def finM (P : Program) (fn : Func) (R : Value → World → Prop) : Post
 | .normal, ρ, ds, w | .ret, ρ, ds, w => ∃ w' v, Takes ds w w' ∧ (∀ tmps : Array Value, (∀ t, tmps.getD t undef = ρ t) → (results fn tmps).run P w' = .ok v w') ∧ R v w'
 | _, _, _, _ => False
def cellOwn : Own → Bool | .blk .. => true | .row .. => true | _ => false
def allCells (L : List Own) : Bool := L.all cellOwn
theorem Own.of_allCells {x : Own} (h : allCells L = true) (hx : x ∈ L) : x.cellish = true ∧ (∀ W, x ≠ .objs W) := by
 have := (List.all_eq_true.1 h) x hx
 cases x with
 | blk b cs t => exact ⟨rfl, fun W e => by cases e⟩
 | row e k v xs => exact ⟨rfl, fun W e => by cases e⟩
 | obj b o => cases this
 | objs W => cases this
theorem Own.dom_ne {base : Nat} {x : Own} {D : Nat} {o : Obj} (h : x.holds base w) (hc : x.cellish = true) (ho : w.heap[D]? = some o) (hn : isCells' o = false) : ∀ b, x.dom = some b → b ≠ D := by
 rintro b hb rfl
 obtain ⟨o', ho', hc'⟩ := Own.dom_cells h hc b hb
 rw [ho] at ho'; cases ho'
 rw [hn] at hc'; cases hc'
theorem St.stable (hL : allCells L = true) {B : Nat} (hB : W0.heap.size ≤ B) : Stable B (St W0 L) := by
 intro W W' row S hg hr
 refine ⟨S.below.grown hg S.size (fun b hb => Nat.le_trans hB (hr b hb).1), fun y hy => ?_, S.apart⟩
 have hy' := S.own y hy
 have hc := Own.of_allCells hL hy
 have hne : ∀ b, y.dom = some b → some b ≠ row := by
  rintro b hb rfl
  obtain ⟨_, o, ho, hn⟩ := hr b rfl
  exact Own.dom_ne hy' hc.1 ho hn b hb rfl
 cases y with
 | blk b cs t => exact ⟨hy'.1, (hg.block b (Array.getElem?_eq_some_iff.1 hy'.2).1 (hne b rfl)).trans hy'.2⟩
 | row e k v xs =>
  refine ⟨hy'.1.kept hg ?_, hy'.2⟩
  cases hv : v.ownBlock with
  | none => exact .inl rfl
  | some b => exact .inr (hne b hv)
 | obj b o => have := hc.1; cases this
 | objs W => exact absurd rfl (hc.2 W)
theorem St.take (S : St W0 L w) (hL : allCells L = true) {D : Nat} (hD : W0.heap.size ≤ D) (ho : w.heap[D]? = some (.deferred (some []))) : St W0 L (w.putObj D (.deferred none)) :=
 (St.stable hL hD).putObj _ S (Nat.le_refl _) ho rfl
theorem Stable.and {B : Nat} {J K : World → Prop} (h : Stable B J) (k : Stable B K) : Stable B (fun w => J w ∧ K w) := fun W W' row hs hg hr => ⟨h W W' row hs.1 hg hr, k W W' row hs.2 hg hr⟩
theorem St.objs (S : St W0 L w) : St W0 (.objs w :: L) w :=
 ⟨S.below, fun y hy => by
  rcases List.mem_cons.1 hy with rfl | hy
  ·exact ⟨Nat.le_refl _, fun _ _ h _ => h⟩
  ·exact S.own y hy, List.Pairwise.cons (fun y _ b hb _ => by simp [Own.dom] at hb) S.apart⟩
variable {r : Option Nat} {all rest : List Oper} {ty : TypeId} {pos : String} {aft : Array Edge} {gd : Option (Nat × Bool)}
def Hands (B : Nat) (M : List Own) (w : World) : Prop := (∀ x ∈ M, x.holds B w) ∧ M.Pairwise Own.apart
end
end Go.Eng
namespace Go.Eng
open Go Go.RowKit
def sub (k : Nat) (v : Value) (lo hi : Nat) : Value :=
 match v with
 | .slice A _ c => .slice (if c = lo then A else A.map (·.add (lo * k))) (hi - lo) (c - lo)
 | v => v
section
variable {P : Program} {ρ : Slots} {w W : World} {dst : Option Tmp} {ty : TypeId} {pos : String} {aft : Array Edge} {gd : Option (Nat × Bool)} {α : Type} {enc : α → List Value} {k : Nat} {v : Value} {l : List α}
theorem Rd.sub (h : Rd W enc k v l) {hi : Nat} (hh : hi ≤ l.length) : Rd W enc k (sub k v 0 hi) (l.take hi) := by
 obtain ⟨A, c, hv, h1, h2, h3, h4⟩ := h
 subst hv
 have hlen : (l.take hi).length = hi := by simp; omega
 refine ⟨(if c = 0 then A else A.map (·.add (0 * k))), c, ?_, by omega, h2, ?_, ?_⟩
 ·simp only [Eng.sub, hlen, Nat.sub_zero]
 ·intro hp
  rw [hlen] at hp
  have hA := h3 (by omega)
  have e : (if c = 0 then A else A.map (·.add (0 * k))) = A := by
   split
   ·rfl
   ·rw [Nat.zero_mul]; cases A <;> simp [Addr.add_zero']
  simp only [Eng.sub]
  rw [e, hA]; rfl
 ·intro i j x u hx hu
  rw [List.getElem?_take] at hx
  split at hx
  ·rename_i hlt
   have hA := h3 (by omega)
   have e : adr (Eng.sub k (.slice A l.length c) 0 hi) = adr (.slice A l.length c) := by
    have e : (if c = 0 then A else A.map (·.add (0 * k))) = A := by
     split
     ·rfl
     ·rw [Nat.zero_mul]; cases A <;> simp [Addr.add_zero']
    simp only [Eng.sub]
    rw [e]; cases A <;> rfl
   rw [e]
   exact h4 i j x u hx hu
  ·cases hx
end
end Go.Eng
namespace Go.Eng
open Go Go.RowKit
end Go.Eng
namespace Go.Eng
open Go Go.RowKit
theorem Rd.cells {α : Type} {W : World} {enc : α → List Value} {k : Nat} {v : Value} {l : List α} (h : Rd W enc k v l) : v.cells.toList = [v] := by
 obtain ⟨A, c, hv, _⟩ := h
 subst hv; rfl
end Go.Eng
namespace Go.Eng
open Go Go.RowKit
/- structs of plain fields, compared -/
inductive Tag where
 | int (k : IntKind)
 | bool
 | str
 deriving DecidableEq
def tagOf : TypeDesc → Option Tag | .int k => some (.int k) | .bool => some .bool | .string => some .str | _ => none
def kindV : Tag → Value → Bool | .int k, .int k' _ => decide (k = k') | .bool, .bool _ => true | .str, .string _ => true | _, _ => false
def eqV : Value → Value → Bool | .int _ a, .int _ b => decide (a = b) | .bool a, .bool b => a == b | .string a, .string b => decide (a.data.toList = b.data.toList) | _, _ => false
def eqVs : List Value → List Value → Bool | [], [] => true | a :: l, b :: m => eqV a b && eqVs l m | _, _ => false
def kindsV : List Tag → List Value → Bool | [], [] => true | k :: ks, v :: vs => kindV k v && kindsV ks vs | _, _ => false
def flatChk (P : Program) : List Field → Nat → List Tag → Bool
 | [], _, [] => true
 | f :: fs, i, k :: ks => !(f.name == "_") && (Nat.beq f.offset i && ((match P.underlying f.type with | some d => decide (tagOf d = some k) | none => false) && flatChk P fs (i + 1) ks))
 | _, _, _ => false
def FlatT (P : Program) (t : TypeId) (ks : List Tag) : Prop := P.underlying t = some (.struct (P.fieldsOf t)) ∧ P.stoodInHeld t = false ∧ P.eqGuardType P.depth t = false ∧ flatChk P (P.fieldsOf t).toList 0 ks = true
def flatTChk (P : Program) (t : TypeId) (ks : List Tag) : Bool := (match P.underlying t with | some (.struct _) => true | _ => false) && ((!P.stoodInHeld t) && ((!P.eqGuardType P.depth t) && flatChk P (P.fieldsOf t).toList 0 ks))
theorem flat_of {P : Program} {t : TypeId} {ks : List Tag} (h : flatTChk P t ks = true) : FlatT P t ks := by
 simp only [flatTChk, Bool.and_eq_true, Bool.not_eq_true'] at h
 obtain ⟨h1, h2, h3, h4⟩ := h
 refine ⟨?_, h2, h3, h4⟩
 split at h1
 ·rename_i fs hf
  simp [Program.fieldsOf, hf]
 ·cases h1
section
variable {P : Program} {ρ : Slots} {w : World} {dst : Option Tmp} {ty : TypeId} {pos : String} {aft : Array Edge} {gd : Option (Nat × Bool)}
theorem run_equalIn_tag {d : Nat} {t : Nat} {k : Tag} {a b : Value} {desc : TypeDesc} (hu : P.underlying t = some desc) (ht : tagOf desc = some k) (ha : kindV k a = true) (hb : kindV k b = true) : (Op.equalIn (d + 1) t a b).run P w = .ok (eqV a b) w := by
 cases desc <;> simp only [tagOf, Option.some.injEq, reduceCtorEq] at ht <;> subst ht <;> (cases a <;> simp only [kindV, Bool.false_eq_true] at ha <;> cases b <;> simp only [kindV, Bool.false_eq_true] at hb)
 ·rw [run_equalIn_bool' w d t _ _ hu]; rfl
 ·have ha := of_decide_eq_true ha; have hb := of_decide_eq_true hb; subst ha; subst hb
  rw [run_equalIn_int w d t _ _ _ _ hu]; rfl
 ·rw [run_equalIn_string w d t _ _ hu]; simp only [eqV, ByteArray.toList_eq]; congr 1; rw [Bool.eq_iff_iff]; simp
theorem tag_scal {t : Nat} {k : Tag} {desc : TypeDesc} (hu : P.underlying t = some desc) (ht : tagOf desc = some k) : (isAgg t).run P w = .ok false w := by
 unfold isAgg
 cases desc <;> simp only [tagOf, reduceCtorEq] at ht <;> simp [run_underlying hu]
theorem run_eqFields {d : Nat} {xs ys : List Value} : ∀ (fs : List Field) (i : Nat) (ks : List Tag), flatChk P fs i ks = true → kindsV ks (xs.drop i) = true → kindsV ks (ys.drop i) = true →
  (Op.eqFields (d + 1) xs.toArray ys.toArray fs).run P w = .ok (eqVs (xs.drop i) (ys.drop i)) w := by
 intro fs
 induction fs with
 | nil =>
  intro i ks h hx hy
  cases ks with
  | cons k ks => cases h
  | nil =>
   cases hxs : xs.drop i with
   | cons a l => rw [hxs] at hx; cases hx
   | nil =>
    cases hys : ys.drop i with
    | cons a l => rw [hys] at hy; cases hy
    | nil => simp [Op.eqFields, eqVs]
 | cons f fs ih =>
  intro i ks h hx hy
  cases ks with
  | nil => cases h
  | cons k ks =>
   simp only [flatChk, Bool.and_eq_true] at h
   obtain ⟨h1, h2, h3, h4⟩ := h
   have h2 := Nat.eq_of_beq_eq_true h2
   have h1 : f.name ≠ "_" := by simpa using h1
   cases hxs : xs.drop i with
   | nil => rw [hxs] at hx; cases hx
   | cons a l =>
    cases hys : ys.drop i with
    | nil => rw [hys] at hy; cases hy
    | cons b m =>
     rw [hxs] at hx; rw [hys] at hy
     simp only [kindsV, Bool.and_eq_true] at hx hy
     have ex : xs.drop (i + 1) = l := by rw [← List.drop_drop, hxs]; rfl
     have ey : ys.drop (i + 1) = m := by rw [← List.drop_drop, hys]; rfl
     have gx : xs[i]? = some a := by have := congrArg (·[0]?) hxs; simpa using this
     have gy : ys[i]? = some b := by have := congrArg (·[0]?) hys; simpa using this
     cases hu : P.underlying f.type with
     | none => rw [hu] at h3; cases h3
     | some desc =>
      rw [hu] at h3
      have h3 : tagOf desc = some k := by simpa using h3
      have ih := ih (i + 1) ks h4 (by rw [ex]; exact hx.2) (by rw [ey]; exact hy.2)
      rw [ex, ey] at ih
      have px : (part f.type xs.toArray f.offset).run P w = .ok a w := by simp [part, tag_scal hu h3, h2, gx]
      have py : (part f.type ys.toArray f.offset).run P w = .ok b w := by simp [part, tag_scal hu h3, h2, gy]
      rw [Op.eqFields, if_pos h1]
      simp only [Sem.run_bind, px, py, Result.andThen_ok, run_equalIn_tag hu h3 hx.1 hy.1, eqVs]
      cases eqV a b
      ·simp
      ·simp [ih]
theorem run_eqS {t t' : TypeId} {ks : List Tag} {a b : List Value} {x y : Operand} (res : Bool) (hF : FlatT P t ks) (ha : ev ρ x = .agg a.toArray) (hb : ev ρ y = .agg b.toArray) (hka : kindsV ks a = true) (hkb : kindsV ks b = true) (hr : eqVs a b = res) :
  (execOp (ev ρ) ⟨dst, .binOp .eql t x y t', ty, pos, aft, gd⟩).run P w = .ok (.value (.bool res)) w := by
 obtain ⟨h1, h2, h3, h4⟩ := hF
 have h := run_eqFields (P := P) (w := w) (d := 9998) (xs := a) (ys := b) _ 0 ks h4 (by simpa using hka) (by simpa using hkb)
 simp only [List.drop_zero] at h
 simp [execOp, ha, hb, run_eqGuard_agg w _ t x y _ _ h3, run_eql_struct, run_equalIn_agg w 9999 t _ _ h1 h2, h, hr]
theorem run_neS {t t' : TypeId} {ks : List Tag} {a b : List Value} {x y : Operand} (res : Bool) (hF : FlatT P t ks) (ha : ev ρ x = .agg a.toArray) (hb : ev ρ y = .agg b.toArray) (hka : kindsV ks a = true) (hkb : kindsV ks b = true) (hr : eqVs a b = res) :
  (execOp (ev ρ) ⟨dst, .binOp .neq t x y t', ty, pos, aft, gd⟩).run P w = .ok (.value (.bool (!res))) w := by
 obtain ⟨h1, h2, h3, h4⟩ := hF
 have h := run_eqFields (P := P) (w := w) (d := 9998) (xs := a) (ys := b) _ 0 ks h4 (by simpa using hka) (by simpa using hkb)
 simp only [List.drop_zero] at h
 simp [execOp, ha, hb, run_eqGuard_agg w _ t x y _ _ h3, run_neq_struct, run_equalIn_agg w 9999 t _ _ h1 h2, h, hr]
theorem run_buildS {t : TypeId} {parts : List (Nat × Operand)} (ps : List (Nat × Value)) (cs : List Value) (hp : parts.map (fun p => (p.1, ev ρ p.2)) = ps) (h : P.built t ps = some cs.toArray) :
  (execOp (ev ρ) ⟨dst, .build t parts.toArray, ty, pos, aft, gd⟩).run P w = .ok (.value (.agg cs.toArray)) w := by
 have e : (parts.toArray.map fun x => (x.1, ev ρ x.2)) = ps.toArray := by rw [← hp]; simp
 simp only [execOp, e]
 simp [run_build w t ps.toArray cs.toArray (by simpa using h)]
end
section
variable {P : Program} {r : Option Nat} {N : Nat} {Q : Post} {ρ : Slots} {ds : List Deferred} {w W0 : World} {L : List Own}
variable {all rest : List Oper} {ty : TypeId} {pos : String} {aft : Array Edge} {gd : Option (Nat × Bool)}
theorem sub_own {w : World} {base e k n : Nat} {v : Value} {xs : List Value} (h : w.ownsRow base e k v n xs) {m : Nat} (hm : m ≤ n) : w.ownsRow base e k (sub k v 0 m) m (xs.take (m * k)) := by
 obtain ⟨hl, h⟩ := h
 have hmk : m * k ≤ n * k := Nat.mul_le_mul_right k hm
 refine ⟨by rw [List.length_take, hl]; omega, ?_⟩
 rcases h with ⟨rfl, hn⟩ | ⟨g, cap, cur, rfl, hb, hg, hc, hcm, hsz, ht⟩
 ·exact .inl ⟨by simp [sub]; omega, by omega⟩
 ·refine .inr ⟨g, cap, cur, ?_, hb, hg, by omega, hcm, hsz, ?_⟩
  ·simp only [sub, Nat.sub_zero, Nat.zero_mul, Option.map_some, Addr.add_zero']
   split <;> rfl
  ·rw [← ht, List.take_take]; congr 1; omega
theorem flatten_take {k : Nat} : ∀ (xs : List (List Value)), (∀ x ∈ xs, x.length = k) → ∀ m, (xs.take m).flatten = xs.flatten.take (m * k)
 | [], _, m => by simp
 | x :: xs, h, 0 => by simp
 | x :: xs, h, m + 1 => by
  have hx := h x (List.mem_cons_self ..)
  rw [List.take_succ_cons, List.flatten_cons, List.flatten_cons, flatten_take xs (fun y hy => h y (List.mem_cons_of_mem _ hy)) m, Nat.succ_mul, Nat.add_comm, ← hx, List.take_length_add_append]
theorem St.trunc {e k : Nat} {v : Value} {xs : List (List Value)} (S : St W0 (.row e k v xs :: L) w) (m : Nat) (hm : m ≤ xs.length) : St W0 (.row e k (sub k v 0 m) (xs.take m) :: L) w := by
 have hh := S.own _ (List.mem_cons_self ..)
 have hl : (xs.take m).length = m := by simp; omega
 refine S.change rfl ⟨rfl, rfl, rfl, Nat.le_refl _, fun _ _ _ => rfl⟩ ⟨?_, fun x hx => hh.2 x (List.mem_of_mem_take hx)⟩ (fun b hb => .inl ?_)
 ·rw [hl, flatten_take xs hh.2 m]; exact sub_own hh.1 hm
 ·rcases hh.1.2 with ⟨rfl, _⟩ | ⟨g, cap, cur, rfl, _⟩
  ·simp only [Own.dom, sub] at hb ⊢; split at hb <;> exact hb
  ·simp only [Own.dom, sub] at hb ⊢
   split at hb
   ·exact hb
   ·simpa [Value.ownBlock, Addr.add] using hb
end
end Go.Eng
namespace Go.Eng
open Go Go.RowKit
section
variable {P : Program} {r : Option Nat} {N : Nat} {Q : Post} {ρ : Slots} {ds : List Deferred} {w W0 : World} {L : List Own}
variable {all rest : List Oper} {ty : TypeId} {pos : String} {aft : Array Edge} {gd : Option (Nat × Bool)} {jl : Nat} {S : World → Prop} {K : Slots → List Deferred → World → Prop}
theorem take_patch (c us : List Value) (p n : Nat) (h : p + us.length ≤ n) (hn : n ≤ c.length) : (c.take p ++ us ++ c.drop (p + us.length)).take n = (c.take n).take p ++ us ++ (c.take n).drop (p + us.length) := by
 have hA : (c.take p ++ us).length = p + us.length := by simp only [List.length_append, List.length_take]; omega
 have e : n = (c.take p ++ us).length + (n - (p + us.length)) := by omega
 have e1 : (c.take n).take p = c.take p := by rw [List.take_take, Nat.min_eq_left (by omega)]
 rw [e1, List.drop_take]
 conv => lhs; rw [e]
 rw [List.take_length_add_append]
open Go.Sort
theorem flatten_sing {α : Type} (f : α → Value) : ∀ l : List α, (l.map fun a => [f a]).flatten = l.map f
 | [] => rfl
 | a :: l => by simp [flatten_sing f l]
theorem St.holds {α : Type} [Inhabited α] {f : α → Value} {e : Nat} {v : Value} {l : List α} (S : St W0 (.row e 1 v (l.map fun a => [f a]) :: L) w) {g n c : Nat} (hv : v = .slice (some ⟨g, 0, none⟩) n c) : n = l.length ∧ n ≤ c ∧ g < w.heap.size ∧ Sort.Holds f w g 0 l.toArray := by
 subst hv
 obtain ⟨⟨hfl, hrow⟩, hks⟩ := S.own _ (List.mem_cons_self ..)
 rcases hrow with ⟨h, _⟩ | ⟨g', cap', cur, h, hb, hg, hc, hcm, hsz, htk⟩
 ·cases h
 ·injection h with hA hn hcc; injection hA with hA; injection hA with hA _ _; subst hA hn hcc
  rw [flatten_sing] at htk
  refine ⟨by simp, hc, (Array.getElem?_eq_some_iff.1 hg).1, fun j hj => ⟨?_, by simp [World.frozen?, hg]⟩⟩
  simp only [List.size_toArray] at hj
  rw [cell_of_row w g _ cur e (0, 0) hg]
  have : (cur.toList.take ((l.map fun a => [f a]).length * 1))[j]? = (l.map f)[j]? := by rw [htk]
  rw [List.getElem?_take, if_pos (by simpa using hj)] at this
  simp only [Nat.zero_add]
  have e1 : cur[j]? = cur.toList[j]? := by simp
  rw [e1, this]
  simp [List.getElem?_eq_getElem hj, hj]
end
end Go.Eng
namespace Go.Eng
open Go Go.RowKit
def nilB : Value → Bool | .slice a _ _ => a.isNone | _ => false
section
variable {P : Program} {ρ : Slots} {w W : World} {dst : Option Tmp} {ty : TypeId} {pos : String} {aft : Array Edge} {gd : Option (Nat × Bool)} {α : Type} {enc : α → List Value} {k : Nat} {v : Value} {l : List α}
end
section
variable {P : Program} {r : Option Nat} {N : Nat} {Q : Post} {ρ : Slots} {ds : List Deferred} {w W0 : World} {L : List Own}
variable {all rest : List Oper} {ty : TypeId} {pos : String} {aft : Array Edge} {gd : Option (Nat × Bool)}
def FnRow2 {α : Type} (P : Program) (f : FuncId) (args : List Value) (w : World) (e k : Nat) (enc : α → List Value) (l : List α) (u : Value) : Prop :=
 Fn P f args w fun v w' => ∃ v1, v = .tuple #[v1, u] ∧ Own.holds w.heap.size w' (.row e k v1 (l.map enc))
theorem Rd.own {α : Type} {enc : α → List Value} {e k : Nat} {v : Value} {l : List α} (S : St W0 (.row e k v (l.map enc) :: L) w) : Rd w enc k v l := S.rdRow (n := 0) rfl
end
end Go.Eng
