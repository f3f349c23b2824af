/- The engine: walking rules over frames that are functions from slots to values. -/
import Derived.TacticsIn
import Derived.OrdersIn
import Derived.OrdersHeld
import Derived.Below
import Derived.Laws.AppendOwn
set_option linter.all false
namespace Go.Eng
open Go Go.RowKit

abbrev Slots := Nat → Value
def upd (ρ : Slots) (d : Nat) (v : Value) : Slots := fun t => bif Nat.beq t d then v else ρ t
def upds (l : List (Nat × Value)) (ρ : Slots) : Slots := match l with | [] => ρ | (d, v) :: r => upd (upds r ρ) d v
def Holds : List (Nat × Value) → Slots → Prop | [], _ => True | (t, v) :: l, ρ => ρ t = v ∧ Holds l ρ
abbrev Post := Exit → Slots → List Deferred → World → Prop

theorem upd_self (ρ : Slots) (d : Nat) : upd ρ d (ρ d) = ρ := by
  funext t
  unfold upd
  cases h : Nat.beq t d with
  | false => rfl
  | true => rw [Nat.eq_of_beq_eq_true h]; rfl
theorem upds_self : ∀ (l : List (Nat × Value)) (ρ : Slots), Holds l ρ → upds l ρ = ρ
  | [], _, _ => rfl
  | (t, v) :: l, ρ, h => by
    obtain ⟨rfl, h2⟩ := h
    show upd (upds l ρ) t (ρ t) = ρ
    rw [upds_self l ρ h2]
    exact upd_self ρ t

def ev (ρ : Slots) : Operand → Value
  | .tmp t => ρ t
  | .const v => v
  | .global g => .pointer (some ⟨g, 0, none⟩)
  | .func f => .func (.func f) #[] #[]

structure Frm (N : Nat) (ds : List Deferred) (a : Act) (ρ : Slots) : Prop where
  size : a.tmps.size = N
  defs : a.defers = ds
  get : ∀ t, a.tmps.getD t undef = ρ t

theorem Frm.eval {N : Nat} {ds : List Deferred} {a : Act} {ρ : Slots} (h : Frm N ds a ρ) : a.eval = ev ρ := by
  funext x
  cases x with
  | tmp t => exact h.get t
  | const v => rfl
  | global g => rfl
  | func f => rfl

theorem Frm.put {N : Nat} {ds : List Deferred} {a : Act} {ρ : Slots} (h : Frm N ds a ρ) {d : Nat} (hd : d < N) (v : Value) : Frm N ds (a.put (some d) v) (upd ρ d v) := by
  refine ⟨by simp [Act.put, h.size], h.defs, fun t => ?_⟩
  simp only [Act.put, upd]
  by_cases htd : t = d
  · subst htd
    simp [Array.getD_eq_getD_getElem?, Nat.beq_refl, h.size, hd]
  · have hb : Nat.beq t d = false := by
      cases hx : Nat.beq t d with
      | false => rfl
      | true => exact absurd (Nat.eq_of_beq_eq_true hx) htd
    rw [hb, cond_false, ← h.get t]
    simp [Array.getD_eq_getD_getElem?, Array.getElem?_setIfInBounds_ne (Ne.symm htd)]
theorem Frm.putNone {N : Nat} {ds : List Deferred} {a : Act} {ρ : Slots} (h : Frm N ds a ρ) (v : Value) : Frm N ds (a.put none v) ρ := h

def Fw (r : Option Nat) : Fence := { fn := fun _ => True, depth := none, alive := false, round := r }
theorem Fw_none : Fw none = Fence.wide := rfl
theorem Fw_inRound (r : Option Nat) (l : Nat) : (Fw r).inRound l = Fw (some l) := rfl

theorem callsIn_fw {n : Nat} {P : Program} {f : FuncId} {args : Array Value} {w : World} {R : Ending → World → Prop} (r : Option Nat) (h : Calls P f args w R) : CallsIn (Fw r) n P f args w R :=
  (callsIn_wide (n := n)).2 h

def lift (N : Nat) (Q : Post) : Exit → Act → World → Prop := fun e a w => ∃ ρ ds, Frm N ds a ρ ∧ Q e ρ ds w
theorem lift_mono {N : Nat} {Q Q' : Post} (h : ∀ e ρ ds w, Q e ρ ds w → Q' e ρ ds w) {e : Exit} {a : Act} {w : World} : lift N Q e a w → lift N Q' e a w :=
  fun ⟨ρ, ds, hf, hq⟩ => ⟨ρ, ds, hf, h _ _ _ _ hq⟩

def Wp (P : Program) (r : Option Nat) (N : Nat) (c : Code) (Q : Post) (ρ : Slots) (ds : List Deferred) (w : World) : Prop :=
  ∀ a n, Frm N ds a ρ → c.wpIn (Fw r) n P (lift N Q) a w

/-- What stands behind a piece of code. -/
def andThen (K : Slots → List Deferred → World → Prop) (Q : Post) : Post
  | .normal, ρ, ds, w => K ρ ds w
  | e, ρ, ds, w => Q e ρ ds w
/-- Inside a block. -/
def inBlk (id : Nat) (Q : Post) : Post
  | .exit i, ρ, ds, w => if i = id then Q .normal ρ ds w else Q (.exit i) ρ ds w
  | e, ρ, ds, w => Q e ρ ds w

section
variable {P : Program} {r : Option Nat} {N : Nat} {Q : Post} {ρ : Slots} {ds : List Deferred} {w : World}

theorem w_mono {c : Code} {Q' : Post} (h : Wp P r N c Q ρ ds w) (hq : ∀ e ρ ds w, Q e ρ ds w → Q' e ρ ds w) : Wp P r N c Q' ρ ds w :=
  fun a n hf => wpIn_mono (h a n hf) fun _ _ _ => lift_mono hq

theorem w_skip (h : Q .normal ρ ds w) : Wp P r N .skip Q ρ ds w := fun _ _ hf => wpIn_skip ⟨_, _, hf, h⟩
theorem w_skip_then {K : Slots → List Deferred → World → Prop} (h : K ρ ds w) : Wp P r N .skip (andThen K Q) ρ ds w := w_skip h
theorem w_exit {id : Nat} (h : Q (.exit id) ρ ds w) : Wp P r N (.exit id) Q ρ ds w := fun _ _ hf => wpIn_exit ⟨_, _, hf, h⟩
theorem w_ret (h : Q .ret ρ ds w) : Wp P r N .ret Q ρ ds w := fun _ _ hf => wpIn_ret ⟨_, _, hf, h⟩
theorem w_seq {x y : Code} (h : Wp P r N x (andThen (fun ρ ds w => Wp P r N y Q ρ ds w) Q) ρ ds w) : Wp P r N (.seq x y) Q ρ ds w :=
  fun a n hf => wpIn_seq (wpIn_mono (h a n hf) fun e a' w' hq => by
    obtain ⟨ρ', ds', hf', hq'⟩ := hq
    cases e with
    | normal => exact hq' a' n hf'
    | exit id => exact ⟨ρ', ds', hf', hq'⟩
    | goto l => exact ⟨ρ', ds', hf', hq'⟩
    | ret => exact ⟨ρ', ds', hf', hq'⟩
    | panic ch => exact ⟨ρ', ds', hf', hq'⟩
    | outgrown => exact ⟨ρ', ds', hf', hq'⟩)
theorem w_cond {c : Operand} {x y : Code} (t : Bool) (hc : ev ρ c = .bool t) (h1 : t = true → Wp P r N x Q ρ ds w) (h2 : t = false → Wp P r N y Q ρ ds w) : Wp P r N (.cond c x y) Q ρ ds w :=
  fun a n hf => wpIn_cond_split (by rw [hf.eval]; exact hc) (fun ht => h1 ht a n hf) (fun ht => h2 ht a n hf)
theorem w_cond_t {c : Operand} {x y : Code} (hc : ev ρ c = .bool true) (h1 : Wp P r N x Q ρ ds w) : Wp P r N (.cond c x y) Q ρ ds w :=
  fun a n hf => wpIn_cond_true (by rw [hf.eval]; exact hc) (h1 a n hf)
theorem w_cond_f {c : Operand} {x y : Code} (hc : ev ρ c = .bool false) (h1 : Wp P r N y Q ρ ds w) : Wp P r N (.cond c x y) Q ρ ds w :=
  fun a n hf => wpIn_cond_false (by rw [hf.eval]; exact hc) (h1 a n hf)
theorem w_block {id : Nat} {c : Code} (h : Wp P r N c (inBlk id Q) ρ ds w) : Wp P r N (.block id c) Q ρ ds w :=
  fun a n hf => wpIn_block (wpIn_mono (h a n hf) fun e a' w' hq => by
    obtain ⟨ρ', ds', hf', hq'⟩ := hq
    cases e with
    | exit i =>
      simp only [inBlk] at hq'
      simp only [Exit.inBlock]
      split
      · rename_i he; rw [if_pos he] at hq'; exact ⟨ρ', ds', hf', hq'⟩
      · rename_i he; rw [if_neg he] at hq'; exact ⟨ρ', ds', hf', hq'⟩
    | normal => exact ⟨ρ', ds', hf', hq'⟩
    | goto l => exact ⟨ρ', ds', hf', hq'⟩
    | ret => exact ⟨ρ', ds', hf', hq'⟩
    | panic ch => exact ⟨ρ', ds', hf', hq'⟩
    | outgrown => exact ⟨ρ', ds', hf', hq'⟩)

/- ways out of what stands around -/
theorem nrm_then {K : Slots → List Deferred → World → Prop} (h : K ρ ds w) : andThen K Q .normal ρ ds w := h
theorem ret_then {K : Slots → List Deferred → World → Prop} (h : Q .ret ρ ds w) : andThen K Q .ret ρ ds w := h
theorem exit_then {id : Nat} {K : Slots → List Deferred → World → Prop} (h : Q (.exit id) ρ ds w) : andThen K Q (.exit id) ρ ds w := h
theorem nrm_blk {id : Nat} (h : Q .normal ρ ds w) : inBlk id Q .normal ρ ds w := h
theorem ret_blk {id : Nat} (h : Q .ret ρ ds w) : inBlk id Q .ret ρ ds w := h
theorem exit_blk {id : Nat} (h : Q .normal ρ ds w) : inBlk id Q (.exit id) ρ ds w := by
  show (if id = id then Q .normal ρ ds w else Q (.exit id) ρ ds w)
  rw [if_pos rfl]; exact h
theorem exit_blk_other {id i : Nat} (hne : Nat.beq i id = false) (h : Q (.exit i) ρ ds w) : inBlk id Q (.exit i) ρ ds w := by
  show (if i = id then Q .normal ρ ds w else Q (.exit i) ρ ds w)
  rw [if_neg (fun e => by subst e; rw [Nat.beq_refl] at hne; cases hne)]
  exact h

theorem least (p : Nat → Prop) : ∀ n, p n → ∃ m, p m ∧ ∀ k, k < m → ¬ p k := by
  intro n
  induction n using Nat.strongRecOn with
  | _ n ih =>
    intro h
    by_cases hk : ∃ k, k < n ∧ p k
    · obtain ⟨k, hkn, hpk⟩ := hk
      exact ih k hkn hpk
    · exact ⟨n, h, fun k hkn hpk => hk ⟨k, hkn, hpk⟩⟩

/-- A loop: ghosts of type G say what the slots and the world hold at the head of each round. -/
theorem w_loop {G : Type} {c : Code} (slots : G → List (Nat × Value)) (Inv : G → World → Prop) (μ : G → Nat) (g0 : G) (h0 : Holds (slots g0) ρ) (hi : Inv g0 w)
    (hround : ∀ g ρ0 w', Inv g w' → Wp P r N c (andThen (fun ρ' ds' w'' => ds' = ds ∧ ∃ g', Holds (slots g') ρ' ∧ Inv g' w'' ∧ μ g' < μ g) Q) (upds (slots g) ρ0) ds w') : Wp P r N (.loop c) Q ρ ds w := by
  intro a n hf
  let I : Act → World → Nat → Prop := fun a w m => ∃ g ρ', Frm N ds a ρ' ∧ Holds (slots g) ρ' ∧ Inv g w ∧ μ g = m
  have hex : ∀ a w, (∃ m, I a w m) → ∃ m, I a w m ∧ ∀ k, k < m → ¬ I a w k := fun a w ⟨m, hm⟩ => least _ m hm
  refine wpIn_loop (fun a w => ∃ m, I a w m) (fun a w => (Classical.epsilon fun m => I a w m ∧ ∀ k, k < m → ¬ I a w k)) ⟨_, g0, ρ, hf, h0, hi, rfl⟩ ?_
  intro a w hI
  obtain ⟨⟨g, ρ', hf', hh, hinv, hm⟩, hmin⟩ := Classical.epsilon_spec (hex a w hI)
  have hr := hround g ρ' w hinv
  rw [upds_self _ _ hh] at hr
  refine wpIn_mono (hr a n hf') fun e a' w' hq => ?_
  obtain ⟨ρ2, ds2, hf2, hq⟩ := hq
  cases e with
  | normal =>
    obtain ⟨rfl, g', hh', hinv', hlt⟩ := hq
    have hI' : I a' w' (μ g') := ⟨g', ρ2, hf2, hh', hinv', rfl⟩
    refine ⟨⟨_, hI'⟩, ?_⟩
    obtain ⟨_, hmin'⟩ := Classical.epsilon_spec (hex a' w' ⟨_, hI'⟩)
    refine Nat.lt_of_le_of_lt ?_ (hm ▸ hlt)
    exact Nat.le_of_not_lt fun hl => hmin' _ hl hI'
  | exit id => exact ⟨ρ2, ds2, hf2, hq⟩
  | goto l => exact ⟨ρ2, ds2, hf2, hq⟩
  | ret => exact ⟨ρ2, ds2, hf2, hq⟩
  | panic ch => exact ⟨ρ2, ds2, hf2, hq⟩
  | outgrown => exact ⟨ρ2, ds2, hf2, hq⟩

/- a region's operations, in the order of the text -/
def gv (all : List Oper) (ρ : Slots) (j : Nat) : Option Bool :=
  match (all[j]?).bind (·.dst) with
  | some d => match ρ d with | .bool b => some b | _ => none
  | none => none
def wanted (all : List Oper) (ρ : Slots) (o : Oper) : Bool :=
  match o.guard with
  | none => true
  | some (j, want) => gv all ρ j == some want
theorem Frm.yielded {a : Act} (hf : Frm N ds a ρ) (all : List Oper) (j : Nat) : Go.yielded all.toArray a.tmps j = gv all ρ j := by
  unfold Go.yielded gv
  simp only [List.getElem?_toArray]
  cases h : (all[j]?).bind (·.dst) with
  | none => rfl
  | some d =>
    simp only [Option.bind_some]
    have hg := hf.get d
    rw [Array.getD_eq_getD_getElem?] at hg
    cases hx : a.tmps[d]? with
    | none => rw [hx] at hg; rw [← hg]; rfl
    | some v => rw [hx] at hg; rw [← hg]; cases v <;> rfl
theorem Frm.wanted {a : Act} (hf : Frm N ds a ρ) (all : List Oper) (o : Oper) : Region.wanted o (Go.yielded all.toArray a.tmps) = wanted all ρ o := by
  unfold Region.wanted Eng.wanted
  cases o.guard with
  | none => rfl
  | some p => simp only [hf.yielded all]

def Ops (P : Program) (r : Option Nat) (N : Nat) (all : List Oper) (Q : Post) (l : List Oper) (ρ : Slots) (ds : List Deferred) (w : World) : Prop :=
  ∀ a n, Frm N ds a ρ → wpListIn (Fw r) n P all.toArray (lift N Q) l a w
theorem w_region {id : Nat} {l : List Oper} (h : Ops P r N l Q l ρ ds w) : Wp P r N (.region id l.toArray false) Q ρ ds w :=
  fun a n hf => wpIn_region_lit (h a n hf)
def notDefer : Op → Bool | .defer _ => false | _ => true
theorem semAt_fw {o : Oper} (h : notDefer o.op = true) (ρ : Operand → Value) (ro : Option Nat) : o.semAt ro ρ = execOp ρ o :=
  Oper.semAt_eq ro ρ o (fun c hc => by rw [hc] at h; cases h)
section
variable {all rest : List Oper} {o : Oper}
theorem ops_nil (h : Q .normal ρ ds w) : Ops P r N all Q [] ρ ds w := fun _ _ hf => ⟨_, _, hf, h⟩
theorem ops_skip (d : Nat) (hd : o.dst = some d) (hN : Nat.ble (d + 1) N = true) (hw : wanted all ρ o = false) (h : Ops P r N all Q rest (upd ρ d undef) ds w) : Ops P r N all Q (o :: rest) ρ ds w := by
  intro a n hf
  have hw' := (hf.wanted all o).trans hw
  simp only [wpListIn, hw', Bool.false_eq_true, if_false]
  exact ⟨fun _ _ => trivial, h _ n (by rw [hd]; exact hf.put (Nat.le_of_ble_eq_true hN) _)⟩
theorem ops_skip0 (hd : o.dst = none) (hw : wanted all ρ o = false) (h : Ops P r N all Q rest ρ ds w) : Ops P r N all Q (o :: rest) ρ ds w := by
  intro a n hf
  have hw' := (hf.wanted all o).trans hw
  simp only [wpListIn, hw', Bool.false_eq_true, if_false]
  exact ⟨fun _ _ => trivial, h _ n (by rw [hd]; exact hf.putNone _)⟩
/-- An operation that yields a value. -/
theorem ops_val (d : Nat) (v : Value) {w' : World} (hd : o.dst = some d) (hN : Nat.ble (d + 1) N = true) (hw : wanted all ρ o = true) (hn : notDefer o.op = true)
    (hr : (execOp (ev ρ) o).run P w = .ok (.value v) w') (h : Ops P r N all Q rest (upd ρ d v) ds w') : Ops P r N all Q (o :: rest) ρ ds w := by
  intro a n hf
  have hw' := (hf.wanted all o).trans hw
  simp only [wpListIn, hw', if_true]
  refine ⟨fun _ _ => trivial, ?_⟩
  rw [semAt_fw hn, hf.eval, hr, Oper.uponIn_value, hd]
  exact h _ n (hf.put (Nat.le_of_ble_eq_true hN) _)
theorem ops_unit {w' : World} (hd : o.dst = none) (hw : wanted all ρ o = true) (hn : notDefer o.op = true)
    (hr : (execOp (ev ρ) o).run P w = .ok .skip w') (h : Ops P r N all Q rest ρ ds w') : Ops P r N all Q (o :: rest) ρ ds w := by
  intro a n hf
  have hw' := (hf.wanted all o).trans hw
  simp only [wpListIn, hw', if_true]
  refine ⟨fun _ _ => trivial, ?_⟩
  rw [semAt_fw hn, hf.eval, hr, Oper.uponIn_skip, hd]
  exact h _ n (hf.putNone _)
theorem ops_enter (d : Nat) {w' : World} {f : FuncId} {args : Array Value} {R : Ending → World → Prop} (hd : o.dst = some d) (hN : Nat.ble (d + 1) N = true) (hw : wanted all ρ o = true) (hn : notDefer o.op = true)
    (hr : (execOp (ev ρ) o).run P w = .ok (.enter f args) w') (hc : Calls P f args w' R)
    (h : ∀ e w'', R e w'' → ∃ v, e = .returned v ∧ Ops P r N all Q rest (upd ρ d v) ds w'') : Ops P r N all Q (o :: rest) ρ ds w := by
  intro a n hf
  have hw' := (hf.wanted all o).trans hw
  simp only [wpListIn, hw', if_true]
  refine ⟨fun _ _ => trivial, ?_⟩
  rw [semAt_fw hn, hf.eval, hr, Oper.uponIn_enter]
  refine ⟨fun hx => by simp [Fw] at hx, (callsIn_fw r hc).mono fun e w'' hR => ?_⟩
  obtain ⟨v, rfl, hk⟩ := h e w'' hR
  rw [hd]
  exact hk _ n (hf.put (Nat.le_of_ble_eq_true hN) _)
end
end
end Go.Eng
