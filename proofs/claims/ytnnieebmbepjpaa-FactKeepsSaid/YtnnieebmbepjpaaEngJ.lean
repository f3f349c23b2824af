/- The engine, tenth part: functions that hold a range over a function; iterators. -/
import Derived.Test.YtnnieebmbepjpaaEngI
set_option linter.all false
namespace Go.Eng
open Go Go.RowKit

/-- The marks of the loops are come to, one after the other. -/
def Takes : List Deferred → World → World → Prop
  | [], w, w' => w' = w
  | d :: ds, w, w' => ∃ D, d = mark D ∧ w.heap[D]? = some (.deferred (some [])) ∧ Takes ds (w.putObj D (.deferred none)) w'
section
variable {P : Program} {N : Nat} {Q : Post} {ρ : Slots} {ds : List Deferred} {w W0 : World} {L : List Own}

theorem leaves_of_takes {fn : Func} {tmps : Array Value} {R : Ending → World → Prop} {v : Value} : ∀ (ds : List Deferred) (w w' : World), Takes ds w w' → (results fn tmps).run P w' = .ok v w' → R (.returned v) w' → LeavesInM Fence.wide 0 P fn tmps R ds .returning w
  | [], w, w', ht, hr, hR => by
    subst ht
    exact ⟨v, hr, hR⟩
  | d :: ds, w, w', ⟨D, hd, hh, ht⟩, hr, hR => by
    subst hd
    exact ⟨by simp, .inl ⟨D, _, rfl, run_takeDeferred hh, leaves_of_takes ds _ w' ht hr hR⟩⟩

/-- What a function's end owes, marks and all. -/
def finM (P : Program) (fn : Func) (R : Value → World → Prop) : Post
  | .normal, ρ, ds, w | .ret, ρ, ds, w => ∃ w' v, Takes ds w w' ∧ (∀ tmps : Array Value, (∀ t, tmps.getD t undef = ρ t) → (results fn tmps).run P w' = .ok v w') ∧ R v w'
  | _, _, _, _ => False
theorem calls_of_wpM {f : FuncId} {fn : Func} {c : Code} {args : List Value} {R : Value → World → Prop} (hf : P.funcs[f]? = some fn) (hb : fn.body = some c) (hN : fn.ntmps = N) (ha : Nat.ble args.length N = true)
    (h : Wp P none N c (finM P fn R) (argSlots args) [] w) : Calls P f args.toArray w fun e w' => ∃ v, e = .returned v ∧ R v w' := by
  have ha := Nat.le_of_ble_eq_true ha
  refine (callsIn_wide (n := 0)).1 (callsIn_of_wp_marks hf hb trivial ?_)
  refine wpIn_mono (h _ 0 ⟨?_, rfl, fun t => ?_⟩) fun e a w' hq => ?_
  · simp; omega
  · simp only [argSlots, Array.getD_eq_getD_getElem?, List.getD_eq_getElem?_getD]
    rw [Array.getElem?_append]
    split
    · simp
    · rename_i hlt
      simp only [List.size_toArray] at hlt
      rw [List.getElem?_eq_none (by omega)]
      simp only [List.size_toArray]
      rw [Array.getElem?_replicate]
      split <;> rfl
  · obtain ⟨ρ', ds', hf', hq⟩ := hq
    cases e with
    | normal =>
      obtain ⟨w2, v, ht, hr, hR⟩ := hq
      exact leaves_of_takes _ _ _ (by rw [hf'.defs]; exact ht) (hr _ hf'.get) ⟨v, rfl, hR⟩
    | ret =>
      obtain ⟨w2, v, ht, hr, hR⟩ := hq
      exact leaves_of_takes _ _ _ (by rw [hf'.defs]; exact ht) (hr _ hf'.get) ⟨v, rfl, hR⟩
    | panic c => exact hq.elim
    | exit id => exact hq.elim
    | goto l => exact hq.elim
    | outgrown => exact hq.elim
theorem fn_of_wpM {f : FuncId} {fn : Func} {c : Code} {args : List Value} {φ : Value → World → Prop} (hf : P.funcs[f]? = some fn) (hb : fn.body = some c) (hN : fn.ntmps = N) (ha : Nat.ble args.length N = true)
    (h : St w [] w → Wp P none N c (finM P fn fun v w' => Below w.heap.size w w' ∧ φ v w') (argSlots args) [] w) : Fn P f args w φ :=
  Calls.mono (calls_of_wpM hf hb hN ha (h (St.start w))) fun _ _ ⟨v, he, hb, hp⟩ => ⟨v, he, hb, hp⟩

def cellOwn : Own → Bool | .blk .. => true | .row .. => true | _ => false
def allCells (L : List Own) : Bool := L.all cellOwn
theorem Own.of_allCells {x : Own} (h : allCells L = true) (hx : x ∈ L) : x.cellish = true ∧ (∀ W, x ≠ .objs W) := by
  have := (List.all_eq_true.1 h) x hx
  cases x with
  | blk b cs t => exact ⟨rfl, fun W e => by cases e⟩
  | row e k v xs => exact ⟨rfl, fun W e => by cases e⟩
  | obj b o => cases this
  | objs W => cases this
theorem Own.dom_ne {base : Nat} {x : Own} {D : Nat} {o : Obj} (h : x.holds base w) (hc : x.cellish = true) (ho : w.heap[D]? = some o) (hn : isCells' o = false) : ∀ b, x.dom = some b → b ≠ D := by
  rintro b hb rfl
  obtain ⟨o', ho', hc'⟩ := Own.dom_cells h hc b hb
  rw [ho] at ho'; cases ho'
  rw [hn] at hc'; cases hc'
theorem St.addObj (S : St W0 L w) (hL : allCells L = true) {D : Nat} {o : Obj} (hD : W0.heap.size ≤ D) (ho : w.heap[D]? = some o) (hn : isCells' o = false) : St W0 (.obj D o :: L) w :=
  ⟨S.below, fun y hy => by
    rcases List.mem_cons.1 hy with rfl | hy
    · exact ⟨hD, ho⟩
    · exact S.own y hy, List.Pairwise.cons (fun y hy b hb hyb => by
      simp only [Own.dom, Option.some.injEq] at hb
      subst hb
      exact Own.dom_ne (S.own y hy) (Own.of_allCells hL hy).1 ho hn _ hyb rfl) S.apart⟩
theorem St.stable (hL : allCells L = true) {B : Nat} (hB : W0.heap.size ≤ B) : Stable B (St W0 L) := by
  intro W W' row S hg hr
  refine ⟨S.below.grown hg S.size (fun b hb => Nat.le_trans hB (hr b hb).1), fun y hy => ?_, S.apart⟩
  have hy' := S.own y hy
  have hc := Own.of_allCells hL hy
  have hne : ∀ b, y.dom = some b → some b ≠ row := by
    rintro b hb rfl
    obtain ⟨_, o, ho, hn⟩ := hr b rfl
    exact Own.dom_ne hy' hc.1 ho hn b hb rfl
  cases y with
  | blk b cs t => exact ⟨hy'.1, (hg.block b (Array.getElem?_eq_some_iff.1 hy'.2).1 (hne b rfl)).trans hy'.2⟩
  | row e k v xs =>
    refine ⟨hy'.1.kept hg ?_, hy'.2⟩
    cases hv : v.ownBlock with
    | none => exact .inl rfl
    | some b => exact .inr (hne b hv)
  | obj b o => have := hc.1; cases this
  | objs W => exact absurd rfl (hc.2 W)
theorem St.take (S : St W0 L w) (hL : allCells L = true) {D : Nat} (hD : W0.heap.size ≤ D) (ho : w.heap[D]? = some (.deferred (some []))) : St W0 L (w.putObj D (.deferred none)) :=
  (St.stable hL hD).putObj _ S (Nat.le_refl _) ho rfl
theorem Stable.and {B : Nat} {J K : World → Prop} (h : Stable B J) (k : Stable B K) : Stable B (fun w => J w ∧ K w) := fun W W' row hs hg hr => ⟨h W W' row hs.1 hg hr, k W W' row hs.2 hg hr⟩
theorem Stable.pure_ (B : Nat) (p : Prop) : Stable B (fun _ => p) := fun _ _ _ h _ _ => h
/-- The state at a round's beginning, and what it gives at its end. -/
theorem St.objs (S : St W0 L w) : St W0 (.objs w :: L) w :=
  ⟨S.below, fun y hy => by
    rcases List.mem_cons.1 hy with rfl | hy
    · exact ⟨Nat.le_refl _, fun _ _ h _ => h⟩
    · exact S.own y hy, List.Pairwise.cons (fun y _ b hb _ => by simp [Own.dom] at hb) S.apart⟩
theorem St.keeps {W : World} {n : Nat} (S : St W0 L w) (hL : L[n]? = some (.objs W)) (B : Nat) : Keeps B W w :=
  let h := S.own _ (List.mem_of_getElem? hL)
  ⟨h.1, fun k o _ => h.2 k o⟩
theorem finM_cell {fn : Func} {φ : Value → World → Prop} {t : Tmp} {ty b n D : Nat} {v : Value} {cs : List Value} {bt : Nat} (hr : fn.results = #[.cell t ty]) (hs : Scal P ty) (S1 : St W0 (.obj D (.deferred (some [])) :: L) w) (hL : allCells L = true)
    (hv : ρ t = .pointer (some ⟨b, 0, none⟩)) (hb : L[n]? = some (.blk b cs bt)) (hc : cs[0]? = some v) (hp : ∀ w', φ v w') :
    finM P fn (fun v w' => Below W0.heap.size W0 w' ∧ φ v w') .ret ρ [mark D] w := by
  have S := S1.drop
  obtain ⟨hD, ho⟩ := S1.own _ (List.mem_cons_self ..)
  have S' := S.take hL hD ho
  refine ⟨_, v, ⟨D, rfl, ho, rfl⟩, fun tmps hg => ?_, S'.below, hp _⟩
  have hcell := S'.cell hb hc
  have hg' := hg t
  rw [hv] at hg'
  simp only [Array.getD_eq_getD_getElem?] at hg'
  simp [results, hr, hg', asAddr, loadVar, run_isAgg_scal hs, load, Sem.run, hcell]
theorem finM0 {fn : Func} {R : Value → World → Prop} (hr : fn.results = #[]) (h : R (.tuple #[]) w) : finM P fn R .ret ρ [] w :=
  ⟨w, .tuple #[], rfl, fun tmps _ => by simp [results, hr], h⟩
theorem finM_nrm {fn : Func} {R : Value → World → Prop} (h : finM P fn R .ret ρ ds w) : finM P fn R .normal ρ ds w := h

variable {r : Option Nat} {all rest : List Oper} {ty : TypeId} {pos : String} {aft : Array Edge} {gd : Option (Nat × Bool)}
/-- A call of yield. -/
theorem ops_yield {d : Nat} {x : Operand} {l : List Operand} {ts : Array TypeId} {k : Nat} (vs : List Value) {R : Ending → World → Prop} (hN : Nat.ble (d + 1) N = true)
    (hw : wanted all ρ ⟨some d, .call ⟨.value x, l.toArray, ts⟩, ty, pos, aft, gd⟩ = true) (hx : ev ρ x = .func (.yield k) #[] #[]) (ha : l.map (ev ρ) = vs) (hy : YieldAt Fence.wide 0 P k vs.toArray w R)
    (h : ∀ e w', R e w' → ∃ v, e = .returned v ∧ Ops P r N all Q rest (upd ρ d v) ds w') :
    Ops P r N all Q (⟨some d, .call ⟨.value x, l.toArray, ts⟩, ty, pos, aft, gd⟩ :: rest) ρ ds w := by
  intro a n hf
  have hw' := (hf.wanted all _).trans hw
  simp only [wpListIn, hw', if_true]
  refine ⟨fun _ _ => trivial, ?_⟩
  obtain ⟨fn, tmps, assign, body, hrun, hround⟩ := hy
  have hr : (execOp (ev ρ) ⟨some d, .call ⟨.value x, l.toArray, ts⟩, ty, pos, aft, gd⟩).run P w = .ok (.round k fn tmps assign body) w := by
    subst ha
    simp [execOp, resolve, hx, Deferred.ofValue, invoke] at hrun ⊢
    exact hrun
  rw [semAt_fw rfl, hf.eval, hr, Oper.uponIn_round]
  refine ⟨fun hx => by simp [Fw] at hx, (roundIn_wide r hround _).mono fun e w'' hR => ?_⟩
  obtain ⟨v, rfl, hk⟩ := h e w'' hR
  exact hk _ n (hf.put (Nat.le_of_ble_eq_true hN) v)
/-- A call that hands over what it made. -/
def Hands (B : Nat) (M : List Own) (w : World) : Prop := (∀ x ∈ M, x.holds B w) ∧ M.Pairwise Own.apart
theorem ops_callHands {d : Nat} {f : FuncId} {l : List Operand} {ts : Array TypeId} {G : Type} (vs : List Value) {V : G → Value} {M : G → List Own} (S : St W0 L w) (hN : Nat.ble (d + 1) N = true)
    (hw : wanted all ρ ⟨some d, .call ⟨.value (.func f), l.toArray, ts⟩, ty, pos, aft, gd⟩ = true) (hf : hasBody P f) (ha : l.map (ev ρ) = vs) (hc : Fn P f vs w fun v w' => ∃ g, v = V g ∧ Hands w.heap.size (M g) w')
    (h : ∀ g w', St W0 (M g ++ L) w' → Ops P r N all Q rest (upd ρ d (V g)) ds w') :
    Ops P r N all Q (⟨some d, .call ⟨.value (.func f), l.toArray, ts⟩, ty, pos, aft, gd⟩ :: rest) ρ ds w :=
  ops_enter d rfl hN hw rfl (run_call vs hf ha) hc fun _ w'' ⟨v, he, hb, g, hv, hM⟩ => ⟨v, he, by
    subst hv
    refine h g w'' ?_
    have S' := S.keep (grownBy_of_below hb none)
    refine ⟨S'.below, fun y hy => ?_, List.pairwise_append.2 ⟨hM.2, S.apart, fun x hx y hy b hxb hyb => ?_⟩⟩
    · rcases List.mem_append.1 hy with hy | hy
      · exact Own.lower (hM.1 y hy) S.size
      · exact S'.own y hy
    · have h1 := (Own.dom_lt (hM.1 x hx) b hxb).1
      have h2 := (Own.dom_lt (S.own y hy) b hyb).2
      omega⟩
theorem fin_hands {fn : Func} {t : Tmp} {G : Type} {V : G → Value} {M : G → List Own} (g : G) (hr : fn.results = #[.tmp t]) (S : St W0 (M g) w) (hv : ρ t = V g) :
    finPost P fn W0 (fun v w' => ∃ g, v = V g ∧ Hands W0.heap.size (M g) w') .ret ρ [] w := fin1 hr S hv ⟨g, rfl, S.own, S.apart⟩
end
end Go.Eng
