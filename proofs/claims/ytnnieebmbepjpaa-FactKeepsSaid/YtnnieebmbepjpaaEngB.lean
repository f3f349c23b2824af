/- The engine, second part: regions that draw their order. -/
import Derived.Test.YtnnieebmbepjpaaEngA
set_option linter.all false
namespace Go.Eng
open Go Go.RowKit

/-- In state a, in every world of S, operation o leaves v in its temporary and the world alone. -/
def YieldsS (P : Program) (ops : Array Oper) (S : World → Prop) (o : Oper) (v : Value) (a : Act) : Prop :=
  (Region.wanted o (Go.yielded ops a.tmps) = true ∧ ∀ w, S w → (execOp a.eval o).run P w = .ok (.value v) w) ∨
  (Region.wanted o (Go.yielded ops a.tmps) = false ∧ v = undef)

/-- S0 is asked as long as operation jl has not come up. -/
def SD (jl : Nat) (S : World → Prop) (listed : Array Bool) (w : World) : Prop := listed.getD jl false = false → S w
def Closed (ops : Array Oper) (listed : Array Bool) : Prop :=
  ∀ j o, listed.getD j false = true → ops[j]? = some o → ∀ e ∈ o.after, Region.binds .any e = true → listed.getD e.on false = true
def closedB (ops : Array Oper) (listed : Array Bool) : Bool :=
  (List.range ops.size).all fun j => !listed.getD j false || ((ops[j]?).map (·.after.all fun e => !Region.binds .any e || listed.getD e.on false)).getD true
theorem closed_of {ops : Array Oper} {listed : Array Bool} (h : closedB ops listed = true) : Closed ops listed := by
  intro j o hj ho e he hb
  have hlt : j < ops.size := (Array.getElem?_eq_some_iff.1 ho).1
  have h1 := (List.all_eq_true.1 h) j (List.mem_range.2 hlt)
  simp only [hj, Bool.not_true, Bool.false_or, ho, Option.map_some, Option.getD_some] at h1
  have h2 := Array.all_eq_true_iff_forall_mem.1 h1 e he
  simpa [hb] using h2
theorem Closed.set {ops : Array Oper} {listed : Array Bool} {i : Nat} (h : Closed ops listed) (hr : i ∈ Region.ready .any ops listed) : Closed ops (listed.setIfInBounds i true) := by
  intro j o hj ho e he hb
  refine getD_set_true ?_
  by_cases hji : i = j
  · subst hji
    obtain ⟨_, o', ho', hall⟩ := mem_ready.1 hr
    rw [ho] at ho'; cases ho'
    exact hall e he hb
  · rw [getD_set_ne false hji] at hj
    exact h j o hj ho e he hb
/-- What operation j waits for. -/
def anc (ops : Array Oper) : Nat → Nat → List Nat
  | 0, _ => []
  | n + 1, j => match ops[j]? with
    | some o => (o.after.toList.filter (Region.binds .any ·)).flatMap fun e => e.on :: anc ops n e.on
    | none => []
theorem Closed.anc {ops : Array Oper} {listed : Array Bool} (h : Closed ops listed) : ∀ (n j i : Nat), i ∈ Eng.anc ops n j → listed.getD j false = true → listed.getD i false = true := by
  intro n
  induction n with
  | zero => intro j i hi; cases hi
  | succ n ih =>
    intro j i hi hj
    simp only [Eng.anc] at hi
    split at hi
    · rename_i o ho
      obtain ⟨e, he, hie⟩ := List.mem_flatMap.1 hi
      obtain ⟨he1, he2⟩ := List.mem_filter.1 he
      have h1 := h j o hj ho e (by simpa using he1) he2
      rcases List.mem_cons.1 hie with rfl | hie
      · exact h1
      · exact ih _ _ hie h1
    · cases hi

def noDefers (ops : List Oper) : Bool := ops.all fun o => notDefer o.op

section
variable {P : Program} {r : Option Nat} {n : Nat} {ops : Array Oper} {jl : Nat} {S T : World → Prop} {Q : Exit → Act → World → Prop}

def AnyS (P : Program) (r : Option Nat) (n : Nat) (ops : Array Oper) (jl : Nat) (S : World → Prop) (Q : Exit → Act → World → Prop) : Nat → Array Bool → Act → World → Prop
  | 0, listed, a, w => Region.ready .any ops listed = [] ∧ Q .normal a w
  | fuel + 1, listed, a, w =>
    (Region.ready .any ops listed = [] → Q .normal a w) ∧
    ∀ i ∈ Region.ready .any ops listed, wpOpIn (Fw r) n P ops Q i (fun a' w' => SD jl S (listed.setIfInBounds i true) w' ∧ AnyS P r n ops jl S Q fuel (listed.setIfInBounds i true) a' w') a w

theorem any_of_anyS : ∀ (fuel : Nat) (listed : Array Bool) (a : Act) (w : World), AnyS P r n ops jl S Q fuel listed a w → wpAnyIn (Fw r) n P .any ops Q fuel listed a w
  | 0, _, _, _, h => h
  | fuel + 1, _, _, _, h => ⟨h.1, fun i hi => wpOpIn_mono (fun a' w' h' => any_of_anyS fuel _ a' w' h'.2) (h.2 i hi)⟩

theorem YieldsS.wpOpIn {i : Nat} {o : Oper} {v : Value} {a : Act} (hi : ops[i]? = some o) (hn : notDefer o.op = true) (hy : YieldsS P ops T o v a)
    {K : Act → World → Prop} {w : World} (hS : T w) (h : K (a.put o.dst v) w) : wpOpIn (Fw r) n P ops Q i K a w := by
  unfold Go.wpOpIn
  simp only [hi]
  rcases hy with ⟨hw, hv⟩ | ⟨hw, rfl⟩
  · simp only [hw, if_true, Oper.wpIn]
    refine ⟨fun _ _ => trivial, ?_⟩
    rw [semAt_fw hn, hv w hS, Oper.uponIn_value]
    exact h
  · simp only [hw, Bool.false_eq_true, if_false]; exact ⟨fun _ _ => trivial, h⟩

theorem YieldsS.of_same {o : Oper} {v : Value} {a a' : Act} (hy : YieldsS P ops T o v a) (he : execOp a'.eval o = execOp a.eval o)
    (hw : Region.wanted o (Go.yielded ops a'.tmps) = Region.wanted o (Go.yielded ops a.tmps)) : YieldsS P ops T o v a' := by
  unfold YieldsS at *
  rw [he, hw]
  exact hy

theorem wpOpIn_putS {j : Nat} {oi oj : Oper} {v : Value} (hj : ops[j]? = some oj) (hap : oi.apart ops oj = true) (hnj : notDefer oj.op = true)
    (hsi : ∀ cs b, oi.op ≠ .select cs b) (hsj : ∀ cs b, oj.op ≠ .select cs b)
    (hQ : ∀ c a w, ¬ Q (.panic c) a w) {K : Act → World → Prop} {a : Act} {w : World}
    (hy : YieldsS P ops T oi v a) (h : wpOpIn (Fw r) n P ops Q j K (a.put oi.dst v) w) :
    wpOpIn (Fw r) n P ops Q j (fun a' w' => YieldsS P ops T oi v a' ∧ K (a'.put oi.dst v) w') a w := by
  obtain ⟨h1, h2, h3⟩ := Oper.apart_spec hap
  have keep : ∀ (a : Act), YieldsS P ops T oi v a → ∀ u, YieldsS P ops T oi v (a.put oj.dst u) := fun a hy u =>
    hy.of_same (execOp_put oi hsi a oj.dst u h3) (wanted_put oi a oj.dst u h3)
  have keepD : ∀ d, YieldsS P ops T oi v { a with defers := d :: a.defers } := fun d => hy.of_same rfl rfl
  unfold wpOpIn at *
  simp only [hj] at *
  rw [wanted_put oj a oi.dst v h1, about_put oj w a oi.dst v h1] at h
  split
  · rename_i hw
    simp only [hw, if_true] at h
    unfold Oper.wpIn at *
    refine ⟨fun _ _ => trivial, ?_⟩
    have h := h.2
    rw [semAt_fw hnj, execOp_put oj hsj a oi.dst v h1] at h
    rw [semAt_fw hnj]
    generalize (execOp a.eval oj).run P w = rr at *
    cases rr with
    | ok x w' =>
      cases x <;> simp only [Oper.uponIn] at h ⊢
      case value u => exact ⟨keep a hy u, by rw [← Act.put_comm a v u h2]; exact h⟩
      case skip => exact ⟨keep a hy _, by rw [← Act.put_comm a v undef h2]; exact h⟩
      case defer d =>
        refine ⟨keep _ (keepD d) _, ?_⟩
        rw [← Act.put_comm _ v undef h2, ← Act.put_defers]
        exact h
      case enter f args =>
        refine ⟨h.1, CallsIn.mono h.2 fun e w'' he => ?_⟩
        cases e with
        | returned u => exact ⟨keep a hy u, by rw [← Act.put_comm a v u h2]; exact he⟩
        | panicked c => exact (hQ _ _ _ he).elim
        | outgrown => exact he
      case row row args => exact ⟨h.1, RowsIn.mono h.2 fun u w'' he => ⟨keep a hy u, by rw [← Act.put_comm a v u h2]; exact he⟩⟩
      case round l f tmps assign body =>
        refine ⟨h.1, RoundIn.mono h.2 fun e w'' he => ?_⟩
        cases e with
        | returned u => exact ⟨keep a hy u, by rw [← Act.put_comm a v u h2]; exact he⟩
        | panicked c => exact (hQ _ _ _ he).elim
        | outgrown => exact he
    | halt x w' =>
      cases x <;> simp only [Oper.uponIn] at h ⊢
      case panic u => exact (hQ _ _ _ h).elim
  · rename_i hw
    simp only [hw] at h
    exact ⟨h.1, keep a hy _, by rw [← Act.put_comm a v undef h2]; exact h.2⟩

theorem anyS_first {i : Nat} {oi : Oper} {v : Value} (hi : ops[i]? = some oi) (hsel : ∀ (j : Nat) (o : Oper) cs b, ops[j]? = some o → o.op ≠ .select cs b)
    (hdef : ∀ (j : Nat) (o : Oper), ops[j]? = some o → notDefer o.op = true)
    (hQ : ∀ c a w, ¬ Q (.panic c) a w) (hT : ∀ listed w, listed.size = ops.size → Closed ops listed → listed.getD i true = false → SD jl S listed w → T w) (hjl : i ≠ jl) :
    ∀ (fuel : Nat) (listed : Array Bool) (a : Act) (w : World),
      (∀ j oj, ops[j]? = some oj → j ≠ i → listed.getD j true = false → (∀ e ∈ oj.after, Region.binds .any e = true → e.on ≠ i) → oi.apart ops oj = true) →
      i ∈ Region.ready .any ops listed → YieldsS P ops T oi v a → listed.size = ops.size → Closed ops listed → SD jl S listed w →
      AnyS P r n ops jl S Q fuel (listed.setIfInBounds i true) (a.put oi.dst v) w → AnyS P r n ops jl S Q (fuel + 1) listed a w := by
  intro fuel
  induction fuel with
  | zero =>
    intro listed a w _ hr hy hsz hc hS H
    refine ⟨fun h => (by rw [h] at hr; cases hr), fun j hj => ?_⟩
    by_cases hji : j = i
    · subst hji; exact hy.wpOpIn hi (hdef _ _ hi) (hT listed w hsz hc (mem_ready.1 hr).1 hS) ⟨fun h => hS (by rwa [getD_set_ne false hjl] at h), H⟩
    · have := ready_mono hj hji
      rw [H.1] at this
      cases this
  | succ fuel ih =>
    intro listed a w hfree hr hy hsz hc hS H
    refine ⟨fun h => (by rw [h] at hr; cases hr), fun j hj => ?_⟩
    by_cases hji : j = i
    · subst hji; exact hy.wpOpIn hi (hdef _ _ hi) (hT listed w hsz hc (mem_ready.1 hr).1 hS) ⟨fun h => hS (by rwa [getD_set_ne false hjl] at h), H⟩
    · have h1 := H.2 j (ready_mono hj hji)
      obtain ⟨hjun, oj, hoj, hall⟩ := mem_ready.1 hj
      have hnot : ∀ e ∈ oj.after, Region.binds .any e = true → e.on ≠ i := fun e he hb heq => by
        have h1 := hall e he hb
        have h0 := (mem_ready.1 hr).1
        rw [heq] at h1
        rcases Nat.lt_or_ge i listed.size with h' | h'
        · simp [h'] at h0 h1; rw [h0] at h1; cases h1
        · simp [Array.getElem?_eq_none h'] at h1
      have h2 := wpOpIn_putS hoj (hfree j oj hoj hji hjun hnot) (hdef _ _ hoj) (fun cs b => hsel i oi cs b hi) (fun cs b => hsel j oj cs b hoj) hQ hy h1
      have hfree' : ∀ k ok, ops[k]? = some ok → k ≠ i → (listed.setIfInBounds j true).getD k true = false →
          (∀ e ∈ ok.after, Region.binds .any e = true → e.on ≠ i) → oi.apart ops ok = true := fun k ok hk hki hun hno => by
        refine hfree k ok hk hki ?_ hno
        by_cases hjk : j = k
        · subst hjk; exact hjun
        · rw [getD_set_ne true hjk] at hun; exact hun
      refine wpOpIn_mono (fun a' w' h3 => ⟨?_, ih (listed.setIfInBounds j true) a' w' hfree' (ready_mono hr (Ne.symm hji)) h3.1 (by simpa using hsz) (hc.set hj) ?_ ?_⟩) h2
      · exact fun h => h3.2.1 (by rw [Array.setIfInBounds_comm _ _ (Ne.symm hji), getD_set_ne false hjl]; exact h)
      · exact fun h => h3.2.1 (by rw [Array.setIfInBounds_comm _ _ (Ne.symm hji), getD_set_ne false hjl]; exact h)
      rw [Array.setIfInBounds_comm _ _ hji]
      exact h3.2.2
end

/-- The list of those that have come up, as the model keeps it. -/
def lst (m : Nat) (done : List Nat) : Array Bool := done.foldr (fun i l => l.setIfInBounds i true) (Array.replicate m false)
def onlyN (N : Nat) (K : Slots → List Deferred → World → Prop) : Exit → Act → World → Prop := fun e a w => e = .normal ∧ ∃ ρ ds, Frm N ds a ρ ∧ K ρ ds w

theorem onlyN_panic {N : Nat} {K : Slots → List Deferred → World → Prop} {c : List PanicEntry} {a : Act} {w : World} : ¬ onlyN N K (.panic c) a w := fun ⟨h, _⟩ => by cases h
theorem onlyN_out {N : Nat} {K : Slots → List Deferred → World → Prop} : ¬ LetsOut (onlyN N K) := fun ⟨_, _, h, _⟩ => by cases h
theorem stepPost_panic {N : Nat} {K : Slots → List Deferred → World → Prop} {c : List PanicEntry} {a : Act} {w : World} : ¬ lift N (andThen K fun _ _ _ _ => False) (.panic c) a w := fun ⟨_, _, _, h⟩ => h
theorem stepPost_out {N : Nat} {K : Slots → List Deferred → World → Prop} : ¬ LetsOut (lift N (andThen K fun _ _ _ _ => False)) := fun ⟨_, _, _, _, _, h⟩ => h
section
variable {P : Program} {r : Option Nat} {N : Nat} {Q : Post} {ρ : Slots} {ds : List Deferred} {w : World} {all : List Oper} {jl : Nat} {S : World → Prop} {K : Slots → List Deferred → World → Prop}

/-- A region that draws: 'done' have come up, 'fuel' are left. -/
def Any (P : Program) (r : Option Nat) (N : Nat) (all : List Oper) (jl : Nat) (S : World → Prop) (K : Slots → List Deferred → World → Prop) (fuel : Nat) (done : List Nat) (ρ : Slots) (ds : List Deferred) (w : World) : Prop :=
  ∀ a n, Frm N ds a ρ → AnyS P r n all.toArray jl S (onlyN N K) fuel (lst all.length done) a w

theorem w_draw {id : Nat} (jl : Nat) (S : World → Prop) (hm : P.follows .mixedOrders = true) (h : ∀ w', w' = w.drew → Any P r N all jl S (fun ρ ds w => Q .normal ρ ds w) all.length [] ρ ds w') : Wp P r N (.region id all.toArray true) Q ρ ds w := by
  intro a n hf
  refine wpIn_region_any hm ?_
  have h1 := any_of_anyS _ _ _ _ (h _ rfl a n hf)
  have h2 : ∀ (fuel : Nat) (l : Array Bool) (a : Act) (w : World), wpAnyIn (Fw r) n P .any all.toArray (onlyN N fun ρ ds w => Q .normal ρ ds w) fuel l a w → wpAnyIn (Fw r) n P .any all.toArray (lift N Q) fuel l a w := by
    intro fuel
    induction fuel with
    | zero => exact fun l a w h => ⟨h.1, by obtain ⟨_, ρ, ds, hf, hq⟩ := h.2; exact ⟨ρ, ds, hf, hq⟩⟩
    | succ fuel ih =>
      intro l a w h
      refine ⟨fun h0 => by obtain ⟨_, ρ, ds, hf, hq⟩ := h.1 h0; exact ⟨ρ, ds, hf, hq⟩, fun i hi => ?_⟩
      have hh := h.2 i hi
      unfold wpOpIn at *
      cases ho : all.toArray[i]? with
      | none => simp only [ho] at hh ⊢; exact ih _ _ _ hh
      | some o =>
        simp only [ho] at hh ⊢
        split
        · rename_i hw
          simp only [hw, if_true] at hh
          refine ⟨hh.1, ?_⟩
          have hh := hh.2
          generalize (o.semAt (Fw r).round a.eval).run P w = rr at *
          cases rr with
          | ok x w' =>
            cases x <;> simp only [Oper.uponIn] at hh ⊢ <;> first
              | exact ih _ _ _ hh
              | (refine ⟨hh.1, CallsIn.mono hh.2 (fun e w'' he => ?_)⟩; cases e <;> first | exact ih _ _ _ he | exact (onlyN_panic he).elim | exact (onlyN_out he).elim)
              | (refine ⟨hh.1, RowsIn.mono hh.2 (fun _ _ he => ih _ _ _ he)⟩)
              | (refine ⟨hh.1, RoundIn.mono hh.2 (fun e w'' he => ?_)⟩; cases e <;> first | exact ih _ _ _ he | exact (onlyN_panic he).elim | exact (onlyN_out he).elim)
          | halt x w' => cases x <;> simp only [Oper.uponIn] at hh ⊢ <;> (obtain ⟨hh, _⟩ := hh; cases hh)
        · rename_i hw
          simp only [hw] at hh
          exact ⟨hh.1, ih _ _ _ hh.2⟩
  have h3 := h2 _ _ _ _ h1
  have e : all.toArray.size = all.length := by simp
  rw [e]
  exact h3

theorem any_done {fuel : Nat} {done : List Nat} (hr : Region.ready .any all.toArray (lst all.length done) = []) (h : K ρ ds w) : Any P r N all jl S K fuel done ρ ds w := by
  intro a n hf
  cases fuel with
  | zero => exact ⟨hr, rfl, _, _, hf, h⟩
  | succ k => exact ⟨fun _ => ⟨rfl, _, _, hf, h⟩, by rw [hr]; simp⟩

def okSet (all : List Oper) : Bool := Region.noSelect all.toArray && noDefers all
theorem okSet_sel (h : okSet all = true) : ∀ (j : Nat) (o : Oper) cs b, all.toArray[j]? = some o → o.op ≠ .select cs b := by
  simp only [okSet, Bool.and_eq_true] at h
  exact Region.noSelect_spec h.1
theorem okSet_def (h : okSet all = true) : ∀ (j : Nat) (o : Oper), all.toArray[j]? = some o → notDefer o.op = true := by
  simp only [okSet, Bool.and_eq_true, noDefers, List.all_eq_true] at h
  intro j o ho
  exact h.2 o (List.mem_of_getElem? (by simpa using ho))
def takable (all : List Oper) (done : List Nat) (i : Nat) : Bool := closedB all.toArray (lst all.length done) && Region.free .any all.toArray (lst all.length done) i && (Region.ready .any all.toArray (lst all.length done)).contains i

theorem lst_size (m : Nat) : ∀ done, (lst m done).size = m
  | [] => by simp [lst]
  | i :: d => by
    show ((lst m d).setIfInBounds i true).size = m
    simp [lst_size m d]
/-- May operation i lean on S? It may where the switch jl waits for it, or where there is no switch. -/
def leans (all : List Oper) (jl i : Nat) : Bool := Nat.ble all.length jl || (anc all.toArray all.length jl).contains i
theorem leans_of {i : Nat} (h : leans all jl i = true) : ∀ listed w, listed.size = all.length → Closed all.toArray listed → listed.getD i true = false → SD jl S listed w → S w := by
  intro listed w hsz hc hi hS
  refine hS ?_
  simp only [leans, Bool.or_eq_true] at h
  rcases h with h | h
  · have := Nat.le_of_ble_eq_true h
    simp [Array.getD_eq_getD_getElem?, Array.getElem?_eq_none (by omega : listed.size ≤ jl)]
  · cases hj : listed.getD jl false with
    | false => rfl
    | true =>
      have h1 := hc.anc _ _ _ (by simpa using h) hj
      have hlt : i < listed.size := by
        rcases Nat.lt_or_ge i listed.size with h' | h'
        · exact h'
        · simp [Array.getD_eq_getD_getElem?, Array.getElem?_eq_none h'] at h1
      simp [Array.getD_eq_getD_getElem?, hlt] at h1 hi
      rw [hi] at h1; cases h1
/-- A quiet operation may be taken first. -/
theorem any_take {fuel : Nat} {done : List Nat} {o : Oper} (T : World → Prop) (i d : Nat) (v : Value) (hok : okSet all = true) (hi : all[i]? = some o) (ht : takable all done i = true) (hjl : Nat.beq i jl = false) (hd : o.dst = some d) (hN : Nat.ble (d + 1) N = true)
    (hT : ∀ listed w, listed.size = all.length → Closed all.toArray listed → listed.getD i true = false → SD jl S listed w → T w) (hS : SD jl S (lst all.length done) w)
    (hr : (wanted all ρ o = true ∧ ∀ w, T w → (execOp (ev ρ) o).run P w = .ok (.value v) w) ∨ (wanted all ρ o = false ∧ v = undef))
    (h : Any P r N all jl S K fuel (i :: done) (upd ρ d v) ds w) : Any P r N all jl S K (fuel + 1) done ρ ds w := by
  intro a n hf
  simp only [takable, Bool.and_eq_true] at ht
  have hi' : all.toArray[i]? = some o := by simpa using hi
  refine anyS_first (T := T) (v := v) hi' (okSet_sel hok) (okSet_def hok) (fun c a w hq => by obtain ⟨hq, _⟩ := hq; cases hq) (fun listed w hsz => hT listed w (by simpa using hsz))
    (fun e => by subst e; rw [Nat.beq_refl] at hjl; cases hjl) fuel _ a w (Region.free_spec hi' ht.1.2) (by simpa using ht.2) ?_ (by simp [lst_size]) (closed_of ht.1.1) hS ?_
  · rcases hr with ⟨h1, h2⟩ | ⟨h1, rfl⟩
    · exact .inl ⟨(hf.wanted all o).trans h1, fun w hw => by rw [hf.eval]; exact h2 w hw⟩
    · exact .inr ⟨(hf.wanted all o).trans h1, rfl⟩
  · rw [hd]
    exact h _ n (hf.put (Nat.le_of_ble_eq_true hN) v)
theorem any_quiet {fuel : Nat} {done : List Nat} {o : Oper} (i d : Nat) (v : Value) (hok : okSet all = true) (hi : all[i]? = some o) (ht : takable all done i = true) (hln : leans all jl i = true) (hjl : Nat.beq i jl = false) (hd : o.dst = some d) (hN : Nat.ble (d + 1) N = true)
    (hw : wanted all ρ o = true) (hS : S w) (hr : ∀ w, S w → (execOp (ev ρ) o).run P w = .ok (.value v) w)
    (h : Any P r N all jl S K fuel (i :: done) (upd ρ d v) ds w) : Any P r N all jl S K (fuel + 1) done ρ ds w :=
  any_take S i d v hok hi ht hjl hd hN (leans_of hln) (fun _ => hS) (.inl ⟨hw, hr⟩) h
/-- The same behind the switch: the operation looks at no memory. -/
theorem any_pure {fuel : Nat} {done : List Nat} {o : Oper} (i d : Nat) (v : Value) (hok : okSet all = true) (hi : all[i]? = some o) (ht : takable all done i = true) (hjl : Nat.beq i jl = false) (hd : o.dst = some d) (hN : Nat.ble (d + 1) N = true)
    (hw : wanted all ρ o = true) (hj : (lst all.length done).getD jl false = true) (hr : ∀ w, (execOp (ev ρ) o).run P w = .ok (.value v) w)
    (h : Any P r N all jl S K fuel (i :: done) (upd ρ d v) ds w) : Any P r N all jl S K (fuel + 1) done ρ ds w :=
  any_take (fun _ => True) i d v hok hi ht hjl hd hN (fun _ _ _ _ _ _ => trivial) (fun h => by rw [hj] at h; cases h) (.inl ⟨hw, fun w _ => hr w⟩) h
theorem any_pass {fuel : Nat} {done : List Nat} {o : Oper} (i d : Nat) (hok : okSet all = true) (hi : all[i]? = some o) (ht : takable all done i = true) (hjl : Nat.beq i jl = false) (hd : o.dst = some d) (hN : Nat.ble (d + 1) N = true)
    (hw : wanted all ρ o = false) (hS : SD jl S (lst all.length done) w) (h : Any P r N all jl S K fuel (i :: done) (upd ρ d undef) ds w) : Any P r N all jl S K (fuel + 1) done ρ ds w :=
  any_take (fun _ => True) i d undef hok hi ht hjl hd hN (fun _ _ _ _ _ _ => trivial) hS (.inr ⟨hw, rfl⟩) h
/-- The switch itself, passed over. -/
theorem sd_of {done : List Nat} (hS : S w) : SD jl S (lst all.length done) w := fun _ => hS
theorem sd_done {done : List Nat} (hj : (lst all.length done).getD jl false = true) : SD jl S (lst all.length done) w := fun h => by rw [hj] at h; cases h

/-- One operation comes up, K behind it. -/
def Step (P : Program) (r : Option Nat) (N : Nat) (all : List Oper) (o : Oper) (K : Slots → List Deferred → World → Prop) (ρ : Slots) (ds : List Deferred) (w : World) : Prop :=
  Ops P r N all (andThen K fun _ _ _ _ => False) [o] ρ ds w

theorem any_loud1 {fuel : Nat} {done : List Nat} {o : Oper} (i : Nat) (hr : Region.ready .any all.toArray (lst all.length done) = [i]) (hi : all[i]? = some o)
    (h : Step P r N all o (fun ρ ds w => (Nat.beq i jl = false → S w) ∧ Any P r N all jl S K fuel (i :: done) ρ ds w) ρ ds w) : Any P r N all jl S K (fuel + 1) done ρ ds w := by
  intro a n hf
  refine ⟨fun h0 => (by rw [hr] at h0; cases h0), fun j hj => ?_⟩
  rw [hr] at hj
  obtain rfl : j = i := by simpa using hj
  have hs := h a n hf
  have hi' : all.toArray[j]? = some o := by simpa using hi
  unfold wpOpIn
  simp only [hi']
  simp only [wpListIn] at hs
  have conv : ∀ a' w', lift N (andThen (fun ρ ds w => (Nat.beq j jl = false → S w) ∧ Any P r N all jl S K fuel (j :: done) ρ ds w) fun _ _ _ _ => False) .normal a' w' →
      SD jl S ((lst all.length done).setIfInBounds j true) w' ∧ AnyS P r n all.toArray jl S (onlyN N K) fuel ((lst all.length done).setIfInBounds j true) a' w' := fun a' w' ⟨ρ', ds', hf', hS', hA⟩ => ⟨fun hj0 => hS' (by
    cases hb : Nat.beq j jl with
    | false => rfl
    | true =>
      have := Nat.eq_of_beq_eq_true hb
      subst this
      have hlt : j < (lst all.length done).size := by
        rw [lst_size]; exact (List.getElem?_eq_some_iff.1 hi).1
      simp [hlt] at hj0), hA a' n hf'⟩
  split
  · rename_i hw
    simp only [hw, if_true] at hs
    refine ⟨hs.1, ?_⟩
    have hs := hs.2
    generalize (o.semAt (Fw r).round a.eval).run P w = rr at *
    cases rr with
    | ok x w' =>
      cases x <;> simp only [Oper.uponIn] at hs ⊢ <;> first
        | exact conv _ _ hs
        | (refine ⟨hs.1, CallsIn.mono hs.2 (fun e w'' he => ?_)⟩; cases e <;> first | exact conv _ _ he | exact (stepPost_panic he).elim | exact (stepPost_out he).elim)
        | (refine ⟨hs.1, RowsIn.mono hs.2 (fun _ _ he => conv _ _ he)⟩)
        | (refine ⟨hs.1, RoundIn.mono hs.2 (fun e w'' he => ?_)⟩; cases e <;> first | exact conv _ _ he | exact (stepPost_panic he).elim | exact (stepPost_out he).elim)
    | halt x w' => cases x <;> simp only [Oper.uponIn] at hs ⊢ <;> (obtain ⟨_, _, _, hs⟩ := hs; exact hs.elim)
  · rename_i hw
    simp only [hw] at hs
    exact ⟨hs.1, conv _ _ hs.2⟩
end
end Go.Eng
