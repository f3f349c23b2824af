/- The engine, eighth part: slices that the call makes. -/
import Derived.Test.YtnnieebmbepjpaaEngG
import Derived.Maps.AppendAt
import Derived.Deep.Slices
set_option linter.all false
namespace Go.Eng
open Go Go.RowKit

theorem sliceT_of {P : Program} {t e k bytes : Nat} {z : Value} {zs : List Value} (h1 : P.underlying t = some (.slice e)) (h2 : (P.info? e).map (fun i => (i.zero, i.size, i.bytes)) = some (some z, k, bytes)) (h3 : z.cells.toList = zs) (h4 : zs.length = k) (h5 : Nat.ble 1 k = true) :
    SliceT P t e k bytes zs := by
  cases hi : P.info? e with
  | none => rw [hi] at h2; cases h2
  | some i =>
    rw [hi] at h2
    simp only [Option.map_some, Option.some.injEq, Prod.mk.injEq] at h2
    exact ⟨i, z, h1, hi, h2.2.1, h2.2.2, h2.1, h3, h4, Nat.le_of_ble_eq_true h5⟩
theorem flatten_len {α : Type} {enc : α → List Value} {k : Nat} (he : ∀ a, (enc a).length = k) : ∀ ys : List α, ((ys.map enc).flatten).length = ys.length * k
  | [] => by simp
  | b :: l => by rw [List.map_cons, List.flatten_cons, List.length_append, he, flatten_len he l, List.length_cons, Nat.succ_mul]; omega
section
variable {P : Program} {r : Option Nat} {N : Nat} {Q : Post} {ρ : Slots} {ds : List Deferred} {w W0 : World} {L : List Own}
variable {all rest : List Oper} {ty : TypeId} {pos : String} {aft : Array Edge} {gd : Option (Nat × Bool)}

theorem St.newRow (S : St W0 L w) {e k n : Nat} {xs : List (List Value)} (hn : xs.length = n) (hk : ∀ x ∈ xs, x.length = k) (hm : n ≤ maxLen) :
    St W0 (.row e k (.slice (some ⟨w.heap.size, 0, none⟩) n n) xs :: L) (w.alloc (.cells xs.flatten.toArray e)) := by
  have hl : xs.flatten.length = n * k := by
    subst hn
    clear hm
    induction xs with
    | nil => simp
    | cons y ys ih =>
      rw [List.flatten_cons, List.length_append, hk y (List.mem_cons_self ..), ih (fun x hx => hk x (List.mem_cons_of_mem _ hx)), List.length_cons, Nat.succ_mul]; omega
  refine S.add (World.grownBy_alloc w _ none) ⟨?_, hk⟩ (fun b hb => by simp only [Own.dom, Value.ownBlock, Option.some.injEq] at hb; omega)
  subst hn
  exact ⟨hl, .inr ⟨w.heap.size, xs.length, xs.flatten.toArray, rfl, S.size, heap_alloc_new w _, Nat.le_refl _, hm, by simpa using hl, by rw [← hl]; exact List.take_length⟩⟩

theorem ops_buildSlice {d : Nat} {t n : Nat} {parts : List (Nat × Operand)} {e k bytes : Nat} {zs : List Value} (ps : List (Nat × Value)) (xs : List (List Value)) (hT : SliceT P t e k bytes zs) (S : St W0 L w) (hN : Nat.ble (d + 1) N = true)
    (hw : wanted all ρ ⟨some d, .buildSlice t n parts.toArray, ty, pos, aft, gd⟩ = true) (hp : parts.map (fun p => (p.1, ev ρ p.2)) = ps)
    (hfill : Instr.fill (fun i => some (i * k, k)) ((Array.range (n * k)).map fun i => zs.toArray[i % zs.toArray.size]!) ps = some xs.flatten.toArray)
    (hn : xs.length = n) (hk : (xs.all fun x => Nat.beq x.length k) = true) (hsz : Nat.ble (n * k) 16777216 = true) (hnk : Nat.beq (n * k) 0 = false)
    (h : ∀ v w', St W0 (.row e k v xs :: L) w' → Ops P r N all Q rest (upd ρ d v) ds w') : Ops P r N all Q (⟨some d, .buildSlice t n parts.toArray, ty, pos, aft, gd⟩ :: rest) ρ ds w := by
  obtain ⟨i, z, hu, hi, hik, hib, hiz, hzz, hzl, h0⟩ := hT
  have hk' : ∀ x ∈ xs, x.length = k := fun x hx => Nat.eq_of_beq_eq_true ((List.all_eq_true.1 hk) x hx)
  have hsz' := Nat.le_of_ble_eq_true hsz
  have hnk' : ¬ n * k = 0 := fun e => by rw [e] at hnk; cases hnk
  have hnm : n ≤ maxLen := by
    have : n ≤ n * k := Nat.le_mul_of_pos_right n h0
    simp only [maxLen]; omega
  have ez : z.cells = zs.toArray := by rw [← hzz]
  refine ops_val d (.slice (some ⟨w.heap.size, 0, none⟩) n n) (w' := w.alloc (.cells xs.flatten.toArray e)) rfl hN hw rfl ?_ (h _ _ (S.newRow hn hk' hnm))
  have e2 : (parts.toArray.map fun x => (x.1, ev ρ x.2)).toList = ps := by rw [← hp]; simp
  have hgt : ¬ n * k > 2 ^ 24 := by omega
  simp only [execOp, Instr.buildSlice, Sem.run_bind, run_underlying hu, Result.andThen_ok, sizeOf, typeInfo]
  simp only [program, Sem.run, hi, hik, Sem.run_bind, Sem.run_pure, Result.andThen_ok, if_neg hgt, if_neg hnk', zeroValue, typeInfo, hiz, ez, e2, hfill]
  simp [newRow, newObj]
  rfl

/-- append onto a row of the call's own; what is appended reads as ys. -/
theorem ops_append {d : Nat} {x y : Operand} {t e k bytes : Nat} {zs : List Value} {α : Type} {enc : α → List Value} {v v2 : Value} {xs : List (List Value)} {ys : List α} (hT : SliceT P t e k bytes zs)
    (S : St W0 (.row e k v xs :: L) w) (hN : Nat.ble (d + 1) N = true) (hw : wanted all ρ ⟨some d, .call ⟨.builtin .append, #[x, y], #[t, t]⟩, ty, pos, aft, gd⟩ = true)
    (hx : ev ρ x = v) (hy : ev ρ y = v2) (hr : Rd w enc k v2 ys) (he : ∀ a, (enc a).length = k) (h1 : ∀ a, onesB (enc a) = true) (hlen : (xs.length + ys.length) * bytes ≤ 140737488355328) (h63 : xs.length + ys.length ≤ 9223372036854775807)
    (h : ∀ v' w', St W0 (.row e k v' (xs ++ ys.map enc) :: L) w' → Ops P r N all Q rest (upd ρ d v') ds w') :
    Ops P r N all Q (⟨some d, .call ⟨.builtin .append, #[x, y], #[t, t]⟩, ty, pos, aft, gd⟩ :: rest) ρ ds w := by
  obtain ⟨i, z, hu, hi, hik, hib, hiz, hzz, hzl, h0⟩ := hT
  obtain ⟨hown, hk⟩ := S.own _ (List.mem_cons_self ..)
  obtain ⟨A, c, hv2, hyc, hcm, hA, hcell⟩ := hr
  have hsz : z.cells.size = k := by rw [← hzl, ← hzz]; simp
  have key : ∃ v' w', (Builtin.append_ #[t, t] ty #[v, v2]).run P w = .ok v' w' ∧ Own.holds W0.heap.size w' (.row e k v' (xs ++ ys.map enc)) ∧ w.grownBy w' v.ownBlock ∧ (∀ b, v'.ownBlock = some b → v.ownBlock = some b ∨ w.heap.size ≤ b) := by
    have hk' : ∀ x ∈ xs ++ ys.map enc, x.length = k := by
      intro x hx
      rcases List.mem_append.1 hx with hx | hx
      · exact hk x hx
      · obtain ⟨a, _, rfl⟩ := List.mem_map.1 hx; exact he a
    cases A with
    | none =>
      have hy0 : ys = [] := by
        cases ys with
        | nil => rfl
        | cons a l => have := hA (by simp); cases this
      subst hy0
      subst hv2
      refine ⟨v, w, ?_, ⟨by simpa using hown, by simpa using hk⟩, ⟨rfl, rfl, rfl, Nat.le_refl _, fun _ _ _ => rfl⟩, fun b hb => .inl hb⟩
      rcases hown.2 with ⟨rfl, _⟩ | ⟨g, cap, cur, rfl, _, _, hnc, _⟩
      · simp [Builtin.append_, run_underlying hu, sizeOf, typeInfo, hi, Builtin.lenOf, Builtin.firstCells]
      · simp [Builtin.append_, run_underlying hu, sizeOf, typeInfo, hi, Builtin.lenOf, Builtin.firstCells, hnc, storeCells]
    | some a =>
      have hfl : ((ys.map enc).flatten).length = ys.length * k := flatten_len he ys
      have hnews : ∀ j u, (ys.map enc).flatten[j]? = some u → w.cell? (a.add j) = some u := by
        intro j u hj
        have hjl : j < ys.length * k := by rw [← hfl]; exact (List.getElem?_eq_some_iff.1 hj).1
        have hdiv : j / k < ys.length := (Nat.div_lt_iff_lt_mul h0).2 hjl
        have haa : adr v2 = a := by have := hA (Nat.lt_of_le_of_lt (Nat.zero_le _) hdiv); injection this with this; exact this.symm
        have hmod : j % k < k := Nat.mod_lt _ h0
        have hmk : ∀ x ∈ ys.map enc, x.length = k := fun x hx => by obtain ⟨b, _, rfl⟩ := List.mem_map.1 hx; exact he b
        have hge : ys[j / k]? = some (ys[j / k]'hdiv) := List.getElem?_eq_getElem hdiv
        have hlt2 : j % k < (enc (ys[j / k]'hdiv)).length := by rw [he]; exact hmod
        have := flatten_at hmk (m := j / k) (j := j % k) (x := enc (ys[j / k]'hdiv)) (u := (enc (ys[j / k]'hdiv))[j % k]'hlt2) (by simp [hge]) (List.getElem?_eq_getElem hlt2)
        have hjk : j / k * k + j % k = j := by rw [Nat.mul_comm]; exact Nat.div_add_mod j k
        rw [hjk, hj] at this
        have hc := hcell (j / k) (j % k) _ u hge (by rw [List.getElem?_eq_getElem hlt2, ← this])
        rw [haa, Go.Deep.add_add, hjk] at hc
        exact hc
      have hones : ∀ u ∈ (ys.map enc).flatten, u.oneCell' = true := by
        intro u hu'
        obtain ⟨l, hl, hul⟩ := List.mem_flatten.1 hu'
        obtain ⟨b, _, rfl⟩ := List.mem_map.1 hl
        exact (List.all_eq_true.1 (h1 b)) u hul
      obtain ⟨v', w', hrun, ho', hg', _, hob⟩ := run_append_own_at (P := P) w W0.heap.size t ty e i z k bytes hu hi hiz hik hib hsz h0 v xs.length xs.flatten hown a ys.length c _ hfl hnews hones (by simp only [maxLen]; omega) hlen S.size
      refine ⟨v', w', by rw [hv2]; exact hrun, ⟨?_, hk'⟩, hg', fun b hb => ?_⟩
      · rw [List.length_append, List.length_map, List.flatten_append]; exact ho'
      · rcases hob with hob | hob
        · exact .inl (hob ▸ hb)
        · rw [hob] at hb; injection hb with hb; exact .inr (by omega)
  obtain ⟨v', w', hrun, hh, hg, hd⟩ := key
  refine ops_val d v' (w' := w') rfl hN hw rfl ?_ (h v' w' (S.change rfl hg hh hd))
  simp [execOp, resolve, invoke, builtin, hx, hy, hrun]
/-- The nil slice may be appended to. -/
theorem St.nilRow (S : St W0 L w) (e k : Nat) : St W0 (.row e k (.slice none 0 0) [] :: L) w :=
  ⟨S.below, fun x hx => by
    rcases List.mem_cons.1 hx with rfl | hx
    · exact ⟨by simpa using World.ownsRow_nil w _ e k, by simp⟩
    · exact S.own x hx, List.Pairwise.cons (fun y _ b hb _ => by simp [Own.dom, Value.ownBlock] at hb) S.apart⟩
/-- A call that hands back a row of its own. -/
def FnRow {α : Type} (P : Program) (f : FuncId) (args : List Value) (w : World) (e k : Nat) (enc : α → List Value) (l : List α) : Prop :=
  Fn P f args w fun v w' => Own.holds w.heap.size w' (.row e k v (l.map enc))
theorem Own.lower {base base' : Nat} {x : Own} (h : x.holds base w) (hb : base' ≤ base) : x.holds base' w := by
  cases x with
  | blk b cs t => exact ⟨by have := h.1; omega, h.2⟩
  | row e k v xs =>
    refine ⟨⟨h.1.1, ?_⟩, h.2⟩
    rcases h.1.2 with h1 | ⟨g, cap, cur, h1, h2, h3⟩
    · exact .inl h1
    · exact .inr ⟨g, cap, cur, h1, by omega, h3⟩
  | obj b o => exact ⟨by have := h.1; omega, h.2⟩
  | objs W => exact h
theorem ops_callRow {α : Type} {enc : α → List Value} {d : Nat} {f : FuncId} {l : List Operand} {ts : Array TypeId} (vs : List Value) {e k : Nat} {res : List α} (S : St W0 L w) (hN : Nat.ble (d + 1) N = true)
    (hw : wanted all ρ ⟨some d, .call ⟨.value (.func f), l.toArray, ts⟩, ty, pos, aft, gd⟩ = true) (hf : hasBody P f) (ha : l.map (ev ρ) = vs) (hc : FnRow P f vs w e k enc res)
    (h : ∀ v w', St W0 (.row e k v (res.map enc) :: L) w' → Ops P r N all Q rest (upd ρ d v) ds w') :
    Ops P r N all Q (⟨some d, .call ⟨.value (.func f), l.toArray, ts⟩, ty, pos, aft, gd⟩ :: rest) ρ ds w :=
  ops_enter d rfl hN hw rfl (run_call vs hf ha) hc fun _ w'' ⟨v, he, hb, hp⟩ => ⟨v, he, h v w'' (S.add (grownBy_of_below hb none) (Own.lower hp S.size) (fun b hb' => (Own.dom_lt hp b hb').1))⟩
theorem fin_row {α : Type} {enc : α → List Value} {res : List α} {fn : Func} {t : Tmp} {e k : Nat} {v : Value} (hr : fn.results = #[.tmp t]) {n : Nat} (S : St W0 L w) (hv : ρ t = v) (hL : L[n]? = some (.row e k v (res.map enc))) :
    finPost P fn W0 (fun v w' => Own.holds W0.heap.size w' (.row e k v (res.map enc))) .ret ρ [] w :=
  fin1 hr S hv (S.own _ (List.mem_of_getElem? hL))
end
end Go.Eng
