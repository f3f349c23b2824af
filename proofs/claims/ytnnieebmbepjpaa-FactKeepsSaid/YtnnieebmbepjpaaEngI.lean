/- The engine, ninth part: a range over a function. -/
import Derived.Test.YtnnieebmbepjpaaEngH
import Derived.RangeFuncLeaves
import Derived.RangeFuncRecord
import Derived.RangeFuncSeq
set_option linter.all false
namespace Go.Eng
open Go Go.RowKit

/-- J abides a turn of a block at or above B that is no cells, and new blocks. -/
def Stable (B : Nat) (J : World → Prop) : Prop :=
  ∀ W W' row, J W → W.grownBy W' row → (∀ b, row = some b → B ≤ b ∧ ∃ o, W.heap[b]? = some o ∧ isCells' o = false) → J W'
/-- What is no cells and lay at or above B lies as it lay. -/
structure Keeps (B : Nat) (W W' : World) : Prop where
  size : W.heap.size ≤ W'.heap.size
  same : ∀ (k : Nat) (o : Obj), B ≤ k → W.heap[k]? = some o → isCells' o = false → W'.heap[k]? = some o
theorem Keeps.refl (B : Nat) (W : World) : Keeps B W W := ⟨Nat.le_refl _, fun _ _ _ h _ => h⟩
theorem Keeps.trans {B : Nat} {A C D : World} (h : Keeps B A C) (k : Keeps B C D) : Keeps B A D :=
  ⟨Nat.le_trans h.size k.size, fun i o hB hi ho => k.same i o hB (h.same i o hB hi ho) ho⟩
theorem Keeps.mono {B B' : Nat} {W W' : World} (h : Keeps B W W') (hB : B ≤ B') : Keeps B' W W' := ⟨h.size, fun k o hk => h.same k o (Nat.le_trans hB hk)⟩
theorem grownBy_putObj (W : World) (l : Nat) (o : Obj) : W.grownBy (W.putObj l o) (some l) :=
  ⟨rfl, rfl, rfl, by simp, fun _ _ hk => World.putObj_heap_other (fun e => hk (by rw [e]))⟩
theorem Stable.putObj {B : Nat} {J : World → Prop} (h : Stable B J) {W : World} {l : Nat} {o : Obj} (o' : Obj) (hJ : J W) (hB : B ≤ l) (hl : W.heap[l]? = some o) (ho : isCells' o = false) : J (W.putObj l o') :=
  h W _ (some l) hJ (grownBy_putObj W l o') (fun b e => by cases e; exact ⟨hB, o, hl, ho⟩)
theorem Stable.alloc {B : Nat} {J : World → Prop} (h : Stable B J) {W : World} (o : Obj) (hJ : J W) : J (W.alloc o) :=
  h W _ none hJ (World.grownBy_alloc W o none) (fun b e => by cases e)

/-- The iterator's contract: the function gf, having captured lb, hands xs to the loop's body, one after the other, as long as it goes on. -/
def Iter {α : Type} (P : Program) (gf : Nat) (lb : List Value) (encs : α → List Value) (xs : List α) (Need : World → Prop) : Prop :=
  ∀ (l : Nat) (J Jx : List α → World → Prop) (W : World), (∀ pre W1, J pre W1 → Need W1) → (∀ pre, Stable W.heap.size (J pre)) → (∀ pre, Stable W.heap.size (Jx pre)) →
    (∀ pre x W1, J pre W1 → pre ++ [x] <+: xs → YieldAt Fence.wide 0 P l (encs x).toArray W1 fun e W' =>
      Keeps W.heap.size W1 W' ∧ ((e = .returned (.bool true) ∧ J (pre ++ [x]) W') ∨ (e = .returned (.bool false) ∧ Jx (pre ++ [x]) W'))) →
    J [] W →
    Calls P gf (.func (.yield l) #[] #[] :: lb).toArray W fun e W' => (∃ v, e = .returned v) ∧ (J xs W' ∨ ∃ pre, pre <+: xs ∧ Jx pre W')

def mark (D : Nat) : Deferred := { target := .collected D, args := #[] }
/-- How the body of a round may be left. -/
def roundP (B : Nat) (I : World → Prop) (Ix : Code → World → Prop) (W : World) : Post
  | .normal, _, _, W' => Keeps B W W' ∧ I W'
  | .ret, _, _, W' => Keeps B W W' ∧ Ix .ret W'
  | .exit id, _, _, W' => Keeps B W W' ∧ Ix (.exit id) W'
  | _, _, _, _ => False

def updL (ρ : Slots) : List (Nat × Value) → Slots
  | [] => ρ
  | (d, v) :: r => updL (upd ρ d v) r

theorem roundIn_wide {n : Nat} {P : Program} {l : Nat} {f : FuncId} {tmps : Array Value} {assign body : Code} {w : World} {R : Ending → World → Prop} (r : Option Nat) (h : RoundIn Fence.wide n P l f tmps assign body w R) (m : Nat) :
    RoundIn (Fw r) m P l f tmps assign body w R := ⟨trivial, fun c cs _ => h.2 c cs (room_wide _)⟩

section
variable {P : Program} {N : Nat} {Q : Post} {ρ : Slots} {ds : List Deferred} {w : World}

theorem frm_fold {a : Act} : ∀ (l : List (Nat × Value)) (tmps : Array Value) (ρ : Slots), (∀ p ∈ l, p.1 < N) → tmps.size = N → (∀ t, tmps.getD t undef = ρ t) →
    (l.foldl (fun t p => t.setIfInBounds p.1 p.2) tmps).size = N ∧ ∀ t, (l.foldl (fun t p => t.setIfInBounds p.1 p.2) tmps).getD t undef = updL ρ l t
  | [], tmps, ρ, _, hs, hg => ⟨hs, hg⟩
  | (d, v) :: l, tmps, ρ, hl, hs, hg => by
    have hf : Frm N [] (Act.mk tmps []) ρ := ⟨hs, rfl, hg⟩
    have := hf.put (hl (d, v) (List.mem_cons_self ..)) v
    exact frm_fold (a := a) l _ _ (fun p hp => hl p (List.mem_cons_of_mem _ hp)) this.size this.get

/-- 'for .. := range g { .. }' outside every round. -/
theorem w_range {α : Type} {g : Operand} {ps : List Tmp} {assign body : Code} {gf : Nat} {lb : List Value} {encs : α → List Value} {xs : List α} {Need : World → Prop}
    (hg : ev ρ g = .func (.func gf) #[] lb.toArray) (hb : hasBody P gf) (hit : Iter P gf lb encs xs Need) (hps : ∀ x, (encs x).length = ps.length) (hpN : (ps.all fun p => Nat.ble (p + 1) N) = true)
    (I : List α → World → Prop) (Ix : Code → List α → World → Prop) (hI : ∀ pre, Stable w.heap.size (I pre)) (hIx : ∀ c pre, Stable w.heap.size (Ix c pre)) (hneed : ∀ pre W, I pre W → Need W) (h0 : I [] w)
    (ρ1 : α → Slots)
    (hassign : ∀ l x W, Wp P (some l) N assign (andThen (fun ρ' ds' W' => ρ' = ρ1 x ∧ ds' = [] ∧ W' = W) fun _ _ _ _ => False) (updL ρ (ps.zip (encs x))) [] W)
    (hbody : ∀ l pre x W, w.heap.size ≤ l → I pre W → pre ++ [x] <+: xs → Wp P (some l) N body (roundP w.heap.size (I (pre ++ [x])) (fun c => Ix c (pre ++ [x])) W) (ρ1 x) [] W)
    (hdone : ∀ D W, w.heap.size ≤ D → I xs W → W.heap[D]? = some (.deferred (some [])) → Q .normal ρ (mark D :: ds) W)
    (hret : ∀ D pre W, w.heap.size ≤ D → pre <+: xs → Ix .ret pre W → W.heap[D]? = some (.deferred (some [])) → Q .ret ρ (mark D :: ds) W)
    (hexit : ∀ id D pre W, w.heap.size ≤ D → pre <+: xs → Ix (.exit id) pre W → W.heap[D]? = some (.deferred (some [])) → Q (.exit id) ρ (mark D :: ds) W) :
    Wp P none N (.rangeFunc g ps.toArray assign body) Q ρ ds w := by
  intro a n hf
  refine wpIn_rangeFunc ?_
  intro fn hfn
  obtain ⟨rec, hrec⟩ : ∃ rec : LoopState → Option Code → Loop, rec = fun st pe => { state := st, pending := pe, fn, tmps := a.tmps, params := ps.toArray, assign, body, defers := w.heap.size } := ⟨_, rfl⟩
  obtain ⟨W1, hW1⟩ : ∃ W1, (w.alloc (.deferred (some []))).alloc (.loop (rec .ready none)) = W1 := ⟨_, rfl⟩
  have hL1 : W1.heap[w.heap.size + 1]? = some (.loop (rec .ready none)) := by
    rw [← hW1]; have := World.alloc_heap_new (w.alloc (.deferred (some []))) (.loop (rec .ready none)); rwa [World.size_alloc] at this
  have hK1 : W1.heap[w.heap.size]? = some (.deferred (some [])) := by
    rw [← hW1]; exact (Below.heap_alloc _ _ _ (by simp)).trans (World.alloc_heap_new w _)
  have hI1 : I [] W1 := by rw [← hW1]; exact (hI []).alloc _ ((hI []).alloc _ h0)
  have hsz1 : W1.heap.size = w.heap.size + 2 := by rw [← hW1]; simp
  obtain ⟨fb, hfb1, hfb2, hfb3⟩ := hb
  refine ⟨w.heap.size + 1, [mark w.heap.size], W1, { target := .fn (.func gf) lb.toArray, args := #[.func (.yield (w.heap.size + 1)) #[] #[]] }, W1, gf,
    (.func (.yield (w.heap.size + 1)) #[] #[] :: lb).toArray, W1, ?_, ?_, fun _ _ => trivial, ?_, fun hx => by simp [Fw] at hx, ?_⟩
  · rw [← hW1, hrec]; exact run_enterLoop_outer _ _ _ _ _
  · have : a.eval g = .func (.func gf) #[] lb.toArray := by rw [hf.eval]; exact hg
    simp only [resolve, rangeCall, this]
    simp [Deferred.ofValue, Act.eval]
  · have h2' : ¬ fb.name = "runtime.NumGoroutine" := by simpa using hfb2
    have h3' : ¬ fb.body = none := by intro e; rw [e] at hfb3; cases hfb3
    simp [invoke, callFunc, program, Sem.run, hfb1, h2', h3']
  · refine callsIn_fw none ?_
    refine (hit (w.heap.size + 1)
      (fun pre W => I pre W ∧ W.heap[w.heap.size + 1]? = some (.loop (rec .ready none)) ∧ W.heap[w.heap.size]? = some (.deferred (some [])))
      (fun pre W => ∃ c, (c = .ret ∨ ∃ id, c = .exit id) ∧ Ix c pre W ∧ W.heap[w.heap.size + 1]? = some (.loop (rec .done (some c))) ∧ W.heap[w.heap.size]? = some (.deferred (some [])))
      W1 (fun pre W h => hneed pre W h.1) ?_ ?_ ?_ ⟨hI1, hL1, hK1⟩).mono ?_
    · intro pre A B row hs hgr hr
      refine ⟨hI pre A B row hs.1 hgr (fun b e => ⟨by have := (hr b e).1; omega, (hr b e).2⟩), ?_, ?_⟩
      · exact (hgr.block _ (Array.getElem?_eq_some_iff.1 hs.2.1).1 (fun e => by have := (hr _ e.symm).1; omega)).trans hs.2.1
      · exact (hgr.block _ (Array.getElem?_eq_some_iff.1 hs.2.2).1 (fun e => by have := (hr _ e.symm).1; omega)).trans hs.2.2
    · intro pre A B row hs hgr hr
      obtain ⟨c, hc, hix, h1, h2⟩ := hs
      refine ⟨c, hc, hIx c pre A B row hix hgr (fun b e => ⟨by have := (hr b e).1; omega, (hr b e).2⟩), ?_, ?_⟩
      · exact (hgr.block _ (Array.getElem?_eq_some_iff.1 h1).1 (fun e => by have := (hr _ e.symm).1; omega)).trans h1
      · exact (hgr.block _ (Array.getElem?_eq_some_iff.1 h2).1 (fun e => by have := (hr _ e.symm).1; omega)).trans h2
    · -- one round
      rintro pre x W ⟨hi, hl, hk⟩ hpre
      have hlt : w.heap.size + 1 < W.heap.size := (Array.getElem?_eq_some_iff.1 hl).1
      have hy := run_yield (P := P) (args := (encs x).toArray) hl (by rw [hrec]; simpa using hps x)
      rw [hrec] at hy
      refine ⟨fn, _, assign, body, hy, roundIn_of_wpIn trivial ?_⟩
      have hfr : Frm N [] { tmps := (ps.toArray.zip (encs x).toArray).foldl (fun tmps (t, v) => tmps.setIfInBounds t v) a.tmps, defers := [] } (updL ρ (ps.zip (encs x))) := by
        have := frm_fold (a := a) (N := N) (ps.zip (encs x)) a.tmps ρ (fun p hp => by
          have h1 := (List.all_eq_true.1 hpN) p.1 (List.of_mem_zip hp).1
          exact Nat.le_of_ble_eq_true h1) hf.size hf.get
        refine ⟨?_, rfl, fun t => ?_⟩
        · simpa using this.1
        · have := this.2 t; simpa using this
      refine wpIn_mono (hassign (w.heap.size + 1) x W _ 0 hfr) ?_
      rintro e a2 W2 ⟨ρ2, ds2, hf2, hq⟩
      cases e with
      | normal =>
        obtain ⟨rfl, rfl, rfl⟩ := hq
        refine ⟨_, run_beginRound hl (by rw [hrec]), ?_⟩
        have hl2 : (W2.putObj (w.heap.size + 1) (.loop { rec .ready none with state := .busy })).heap[w.heap.size + 1]? = some (.loop { rec .ready none with state := .busy }) := World.putObj_heap_same hlt
        have hk2 : (W2.putObj (w.heap.size + 1) (.loop { rec .ready none with state := .busy })).heap[w.heap.size]? = some (.deferred (some [])) := (World.putObj_heap_other (by omega)).trans hk
        have hkp2 : Keeps (w.heap.size + 2) W2 (W2.putObj (w.heap.size + 1) (.loop { rec .ready none with state := .busy })) := ⟨by simp, fun k o hk' hko _ => (World.putObj_heap_other (by omega)).trans hko⟩
        refine wpIn_mono (hbody (w.heap.size + 1) pre x _ (by omega) ((hI pre).putObj _ hi (by omega) hl rfl) hpre _ 0 hf2) ?_
        have fin : ∀ (jump : Option Code) (W3 : World), Keeps w.heap.size (W2.putObj (w.heap.size + 1) (.loop { rec .ready none with state := .busy })) W3 →
            (Instr.endRound (w.heap.size + 1) jump).run P W3 = .ok (.bool jump.isNone) (W3.putObj (w.heap.size + 1) (.loop (rec (if jump.isNone then .ready else .done) jump))) ∧
            W3.heap[w.heap.size + 1]? = some (.loop { rec .ready none with state := .busy }) ∧
            (W3.putObj (w.heap.size + 1) (.loop (rec (if jump.isNone then .ready else .done) jump))).heap[w.heap.size + 1]? = some (.loop (rec (if jump.isNone then .ready else .done) jump)) ∧
            (W3.putObj (w.heap.size + 1) (.loop (rec (if jump.isNone then .ready else .done) jump))).heap[w.heap.size]? = some (.deferred (some [])) ∧
            Keeps W1.heap.size W2 (W3.putObj (w.heap.size + 1) (.loop (rec (if jump.isNone then .ready else .done) jump))) := fun jump W3 hk3 => by
          have hl3 := hk3.same _ _ (by omega) hl2 rfl
          have hk4 := hk3.same _ _ (Nat.le_refl _) hk2 rfl
          have hr := run_endRound (P := P) jump hl3
          rw [hrec] at hr ⊢
          refine ⟨hr, by rw [hrec] at hl3; exact hl3, World.putObj_heap_same (Array.getElem?_eq_some_iff.1 hl3).1, (World.putObj_heap_other (by omega)).trans hk4, ?_⟩
          rw [hsz1]
          rw [hrec] at hkp2 hk3
          refine hkp2.trans ((hk3.mono (by omega)).trans ⟨by simp, fun k o hk' hko _ => (World.putObj_heap_other (by omega)).trans hko⟩)
        rintro e a3 W3 ⟨ρ3, ds3, hf3, hp⟩
        cases e with
        | normal =>
          obtain ⟨hk3, hi3⟩ := hp
          obtain ⟨hr, hl3, hl4, hk4, hkk⟩ := fin none W3 hk3
          exact ⟨_, _, hr, hkk, .inl ⟨rfl, (hI _).putObj _ hi3 (by omega) hl3 rfl, hl4, hk4⟩⟩
        | ret =>
          obtain ⟨hk3, hi3⟩ := hp
          obtain ⟨hr, hl3, hl4, hk4, hkk⟩ := fin (some .ret) W3 hk3
          exact ⟨_, _, hr, hkk, .inr ⟨rfl, .ret, .inl rfl, (hIx _ _).putObj _ hi3 (by omega) hl3 rfl, hl4, hk4⟩⟩
        | exit id =>
          obtain ⟨hk3, hi3⟩ := hp
          obtain ⟨hr, hl3, hl4, hk4, hkk⟩ := fin (some (.exit id)) W3 hk3
          exact ⟨_, _, hr, hkk, .inr ⟨rfl, .exit id, .inr ⟨id, rfl⟩, (hIx _ _).putObj _ hi3 (by omega) hl3 rfl, hl4, hk4⟩⟩
        | goto t => exact hp.elim
        | panic ch => exact hp.elim
        | outgrown => exact hp.elim
      | exit id => exact hq.elim
      | goto l => exact hq.elim
      | ret => exact hq.elim
      | panic c => exact hq.elim
      | outgrown => exact hq.elim
    · -- behind the iterator
      have hfm : ∀ D, Frm N (mark D :: ds) { a with defers := [mark D] ++ a.defers } ρ := fun D => ⟨hf.size, by rw [hf.defs]; rfl, hf.get⟩
      rintro e W2 ⟨⟨v, rfl⟩, hh⟩
      rcases hh with ⟨hi, hl, hk⟩ | ⟨pre, hpre, c, hc, hi, hl, hk⟩
      · refine ⟨none, _, by have := run_endLoop (P := P) hl (by rw [hrec]; simp); rw [hrec] at this; exact this, ?_⟩
        exact ⟨ρ, _, hfm _, hdone _ _ (Nat.le_refl _) ((hI _).putObj _ hi (by omega) hl rfl) ((World.putObj_heap_other (by omega)).trans hk)⟩
      · refine ⟨some c, _, by have := run_endLoop (P := P) hl (by rw [hrec]; simp); rw [hrec] at this; exact this, ?_⟩
        have hi' := (hIx c pre).putObj (.loop { rec .done (some c) with state := .exhausted }) hi (by omega) hl rfl
        have hk' : (W2.putObj (w.heap.size + 1) (.loop { rec .done (some c) with state := .exhausted })).heap[w.heap.size]? = some (.deferred (some [])) := (World.putObj_heap_other (by omega)).trans hk
        rw [hrec] at hi' hk'
        rcases hc with rfl | ⟨id, rfl⟩
        · exact wpIn_ret ⟨ρ, _, hfm _, hret _ pre _ (Nat.le_refl _) hpre hi' hk'⟩
        · exact wpIn_exit ⟨ρ, _, hfm _, hexit id _ pre _ (Nat.le_refl _) hpre hi' hk'⟩
end
end Go.Eng
