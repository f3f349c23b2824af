/- The engine, thirteenth part: several loud operations ready at once; stores into rows; rows sorted and compacted by the library. -/
import Derived.Test.YtnnieebmbepjpaaEngL
import Derived.Sort.Row
import Derived.Sort.Grow
import Derived.Lib.SlicesCompact
set_option linter.all false
namespace Go.Eng
open Go Go.RowKit
section
variable {P : Program} {r : Option Nat} {N : Nat} {Q : Post} {ρ : Slots} {ds : List Deferred} {w W0 : World} {L : List Own}
variable {all rest : List Oper} {ty : TypeId} {pos : String} {aft : Array Edge} {gd : Option (Nat × Bool)} {jl : Nat} {S : World → Prop} {K : Slots → List Deferred → World → Prop}
theorem any_louds {fuel : Nat} {done is : List Nat} (hr : Region.ready .any all.toArray (lst all.length done) = is) (hne : is ≠ [])
    (h : ∀ j ∈ is, ∃ o, all[j]? = some o ∧ Step P r N all o (fun ρ ds w => (Nat.beq j jl = false → S w) ∧ Any P r N all jl S K fuel (j :: done) ρ ds w) ρ ds w) : Any P r N all jl S K (fuel + 1) done ρ ds w := by
  intro a n hf
  refine ⟨fun h0 => (hne (by rw [← hr]; exact h0)).elim, fun j hj => ?_⟩
  rw [hr] at hj
  obtain ⟨o, hi, h⟩ := h j hj
  have hs := h a n hf
  have hi' : all.toArray[j]? = some o := by simpa using hi
  unfold wpOpIn
  simp only [hi']
  simp only [wpListIn] at hs
  have conv : ∀ a' w', lift N (andThen (fun ρ ds w => (Nat.beq j jl = false → S w) ∧ Any P r N all jl S K fuel (j :: done) ρ ds w) fun _ _ _ _ => False) .normal a' w' →
      SD jl S ((lst all.length done).setIfInBounds j true) w' ∧ AnyS P r n all.toArray jl S (onlyN N K) fuel ((lst all.length done).setIfInBounds j true) a' w' := fun a' w' ⟨ρ', ds', hf', hS', hA⟩ => ⟨fun hj0 => hS' (by
    cases hb : Nat.beq j jl with
    | false => rfl
    | true =>
      have := Nat.eq_of_beq_eq_true hb
      subst this
      have hlt : j < (lst all.length done).size := by
        rw [lst_size]; exact (List.getElem?_eq_some_iff.1 hi).1
      simp [hlt] at hj0), hA a' n hf'⟩
  split
  · rename_i hw
    simp only [hw, if_true] at hs
    refine ⟨hs.1, ?_⟩
    have hs := hs.2
    generalize (o.semAt (Fw r).round a.eval).run P w = rr at *
    cases rr with
    | ok x w' =>
      cases x <;> simp only [Oper.uponIn] at hs ⊢ <;> first
        | exact conv _ _ hs
        | (refine ⟨hs.1, CallsIn.mono hs.2 (fun e w'' he => ?_)⟩; cases e <;> first | exact conv _ _ he | exact (stepPost_panic he).elim | exact (stepPost_out he).elim)
        | (refine ⟨hs.1, RowsIn.mono hs.2 (fun _ _ he => conv _ _ he)⟩)
        | (refine ⟨hs.1, RoundIn.mono hs.2 (fun e w'' he => ?_)⟩; cases e <;> first | exact conv _ _ he | exact (stepPost_panic he).elim | exact (stepPost_out he).elim)
    | halt x w' => cases x <;> simp only [Oper.uponIn] at hs ⊢ <;> (obtain ⟨_, _, _, hs⟩ := hs; exact hs.elim)
  · rename_i hw
    simp only [hw] at hs
    exact ⟨hs.1, conv _ _ hs.2⟩
theorem any_loud2 {fuel : Nat} {done : List Nat} {o o' : Oper} (i j : Nat) (hr : Region.ready .any all.toArray (lst all.length done) = [i, j]) (hi : all[i]? = some o) (hj : all[j]? = some o')
    (h1 : Step P r N all o (fun ρ ds w => (Nat.beq i jl = false → S w) ∧ Any P r N all jl S K fuel (i :: done) ρ ds w) ρ ds w)
    (h2 : Step P r N all o' (fun ρ ds w => (Nat.beq j jl = false → S w) ∧ Any P r N all jl S K fuel (j :: done) ρ ds w) ρ ds w) : Any P r N all jl S K (fuel + 1) done ρ ds w :=
  any_louds hr (by simp) fun k hk => by
    rcases List.mem_cons.1 hk with rfl | hk
    · exact ⟨_, hi, h1⟩
    · rcases List.mem_cons.1 hk with rfl | hk
      · exact ⟨_, hj, h2⟩
      · cases hk

/- a store into a row -/
theorem flatten_set {k off : Nat} {us : List Value} : ∀ (xs : List (List Value)), (∀ x ∈ xs, x.length = k) → ∀ (i : Nat) (x : List Value), xs[i]? = some x → off + us.length ≤ k →
    (xs.set i (x.take off ++ us ++ x.drop (off + us.length))).flatten = xs.flatten.take (i * k + off) ++ us ++ xs.flatten.drop (i * k + off + us.length)
  | [], _, i, x, h, _ => by simp at h
  | y :: xs, hk, 0, x, h, hf => by
    have hy := hk y (List.mem_cons_self ..)
    simp only [List.getElem?_cons_zero, Option.some.injEq] at h
    subst h
    rw [List.set_cons_zero, List.flatten_cons, List.flatten_cons, Nat.zero_mul, Nat.zero_add, List.take_append_of_le_length (by omega), List.drop_append_of_le_length (by omega)]
    simp [List.append_assoc]
  | y :: xs, hk, i + 1, x, h, hf => by
    have hy := hk y (List.mem_cons_self ..)
    have ih := flatten_set (us := us) (off := off) xs (fun z hz => hk z (List.mem_cons_of_mem _ hz)) i x (by simpa using h) hf
    rw [List.set_cons_succ, List.flatten_cons, List.flatten_cons, ih, show (i + 1) * k + off = y.length + (i * k + off) by rw [hy, Nat.succ_mul]; omega, List.take_length_add_append, Nat.add_assoc, List.drop_append]
    rw [List.drop_of_length_le (by omega : y.length ≤ y.length + (i * k + off) + us.length), show y.length + (i * k + off) + us.length - y.length = i * k + (off + us.length) by omega]
    simp [List.append_assoc]
theorem take_patch (c us : List Value) (p n : Nat) (h : p + us.length ≤ n) (hn : n ≤ c.length) : (c.take p ++ us ++ c.drop (p + us.length)).take n = (c.take n).take p ++ us ++ (c.take n).drop (p + us.length) := by
  have hA : (c.take p ++ us).length = p + us.length := by simp only [List.length_append, List.length_take]; omega
  have e : n = (c.take p ++ us).length + (n - (p + us.length)) := by omega
  have e1 : (c.take n).take p = c.take p := by rw [List.take_take, Nat.min_eq_left (by omega)]
  rw [e1, List.drop_take]
  conv => lhs; rw [e]
  rw [List.take_length_add_append]
theorem ops_storeRow {α : Type} {enc : α → List Value} {e k : Nat} {v : Value} {l : List α} {us : List Value} {dft : α} {t m : Nat} {x y : Operand} {off : Nat} (i : Nat) (a' : α) (S : St W0 (.row e k v (l.map enc) :: L) w)
    (hw : wanted all ρ ⟨none, .store t x y, ty, pos, aft, gd⟩ = true) (ht : SizeT P t m) (ha : ev ρ x = .pointer (some (((adr v).add (i * k)).add off))) (hv : (ev ρ y).cells.toList = us) (hm : us.length = m) (h1 : onesB us = true)
    (hi : i < l.length) (hk : (enc (l.getD i dft)).length = k) (hfit : Nat.ble (off + us.length) k = true) (hea : enc a' = (enc (l.getD i dft)).take off ++ us ++ (enc (l.getD i dft)).drop (off + us.length))
    (h : ∀ w', St W0 (.row e k v ((l.set i a').map enc) :: L) w' → Ops P r N all Q rest ρ ds w') : Ops P r N all Q (⟨none, .store t x y, ty, pos, aft, gd⟩ :: rest) ρ ds w := by
  obtain ⟨ii, hii, hik⟩ := ht
  have hfit := Nat.le_of_ble_eq_true hfit
  have hown := S.own _ (List.mem_cons_self ..)
  obtain ⟨⟨hfl, hrow⟩, hks⟩ := hown
  have e1 : (ev ρ y).cells = us.toArray := by rw [← hv]
  have hgi : l[i]? = some (l.getD i dft) := by rw [List.getD_eq_getElem?_getD, List.getElem?_eq_getElem hi]; rfl
  rcases hrow with ⟨rfl, hn⟩ | ⟨g, cap, cur, rfl, hb, hg, hc, hcm, hsz, htk⟩
  · simp at hn; subst hn; simp at hi
  · have hset := flatten_set (us := us) (off := off) (l.map enc) hks i (enc (l.getD i dft)) (by rw [List.getElem?_map, hgi]; rfl) (by omega)
    have hn : (l.map enc).length = l.length := by simp
    have hle : i * k + off + us.length ≤ (l.map enc).length * k := by
      have : (i + 1) * k ≤ l.length * k := Nat.mul_le_mul_right k hi
      rw [Nat.succ_mul] at this; rw [hn]; omega
    have hle2 : (l.map enc).length * k ≤ cap * k := Nat.mul_le_mul_right k hc
    have hst := run_storeCells_at P g (i * k + off) e us 0 cur w hg (by omega) (by simpa [onesB, List.all_eq_true] using h1)
    simp only [Nat.add_zero] at hst
    have hadr : ((adr (.slice (some ⟨g, 0, none⟩) (l.map enc).length cap)).add (i * k)).add off = ⟨g, i * k + off, none⟩ := by
      simp only [adr]; rw [Addr.add_lit, Addr.add_lit, Nat.zero_add]
    rw [hadr] at ha
    refine ops_unit (w' := w.setRow g (cur.toList.take (i * k + off) ++ us ++ cur.toList.drop (i * k + off + us.length)).toArray) rfl hw rfl ?_ (h _ ?_)
    · simp [execOp, Instr.storeAt, ha, Instr.sureAddr, storeVar, sizeOf, typeInfo, hii, hik, e1, hm, hst]
    · refine S.change rfl ⟨rfl, rfl, rfl, by simp, fun q _ hq => setRow_other w g q _ (fun e => hq (by simp [Own.dom, Value.ownBlock, e]))⟩ ⟨⟨?_, .inr ⟨g, cap, _, by simp, hb, setRow_heap w g _ _ e _ hg, by simpa using hc, hcm, ?_, ?_⟩⟩, ?_⟩ (fun b' h => .inl h)
      · rw [List.map_set, hea, hset, List.length_set]; simp only [List.length_append, List.length_take, List.length_drop]; omega
      · have : cur.size = cur.toList.length := by simp
        simp only [List.size_toArray, List.length_append, List.length_take, List.length_drop]; omega
      · rw [List.map_set, hea, hset, List.length_set, ← htk]
        have hcl : cur.toList.length = cap * k := by simpa using hsz
        exact take_patch _ _ _ _ hle (by omega)
      · intro z hz
        rw [List.map_set] at hz
        rcases List.mem_or_eq_of_mem_set hz with hz | rfl
        · exact hks z hz
        · rw [hea]; simp only [List.length_append, List.length_take, List.length_drop]; omega

/- sorted and compacted -/
open Go.Sort
theorem flatten_sing {α : Type} (f : α → Value) : ∀ l : List α, (l.map fun a => [f a]).flatten = l.map f
  | [] => rfl
  | a :: l => by simp [flatten_sing f l]
theorem St.holds {α : Type} [Inhabited α] {f : α → Value} {e : Nat} {v : Value} {l : List α} (S : St W0 (.row e 1 v (l.map fun a => [f a]) :: L) w) {g n c : Nat} (hv : v = .slice (some ⟨g, 0, none⟩) n c) : n = l.length ∧ n ≤ c ∧ g < w.heap.size ∧ Sort.Holds f w g 0 l.toArray := by
  subst hv
  obtain ⟨⟨hfl, hrow⟩, hks⟩ := S.own _ (List.mem_cons_self ..)
  rcases hrow with ⟨h, _⟩ | ⟨g', cap', cur, h, hb, hg, hc, hcm, hsz, htk⟩
  · cases h
  · injection h with hA hn hcc; injection hA with hA; injection hA with hA _ _; subst hA hn hcc
    rw [flatten_sing] at htk
    refine ⟨by simp, hc, (Array.getElem?_eq_some_iff.1 hg).1, fun j hj => ⟨?_, by simp [World.frozen?, hg]⟩⟩
    simp only [List.size_toArray] at hj
    rw [cell_of_row w g _ cur e (0, 0) hg]
    have : (cur.toList.take ((l.map fun a => [f a]).length * 1))[j]? = (l.map f)[j]? := by rw [htk]
    rw [List.getElem?_take, if_pos (by simpa using hj)] at this
    simp only [Nat.zero_add]
    have e1 : cur[j]? = cur.toList[j]? := by simp
    rw [e1, this]
    simp [List.getElem?_eq_getElem hj, hj]
theorem St.putRow {α : Type} [Inhabited α] {f : α → Value} {e : Nat} {v : Value} {l l' : List α} (S : St W0 (.row e 1 v (l.map fun a => [f a]) :: L) w) {g n c : Nat} (hv : v = .slice (some ⟨g, 0, none⟩) n c) (hl : l'.length = l.length) (q : Nat) (os : Array Obj) :
    St W0 (.row e 1 v (l'.map fun a => [f a]) :: L) (grow (Sort.putRow f (Sort.ahead w q) g 0 l'.toArray) os) := by
  subst hv
  obtain ⟨⟨hfl, hrow⟩, hks⟩ := S.own _ (List.mem_cons_self ..)
  rcases hrow with ⟨h, _⟩ | ⟨g', cap', cur, h, hb, hg, hc, hcm, hsz, htk⟩
  · cases h
  · injection h with hA hn hcc; injection hA with hA; injection hA with hA _ _; subst hA hn hcc
    have hgs := (Array.getElem?_eq_some_iff.1 hg).1
    have hheap : (grow (Sort.putRow f (Sort.ahead w q) g 0 l'.toArray) os).heap[g]? = some (.cells (putCells f 0 l'.toArray cur) e (0, 0)) := by
      simp only [grow, Sort.putRow, mapBlock, Sort.ahead]
      rw [Array.getElem?_append_left (by simpa using hgs), Array.getElem?_modify, if_pos rfl, hg]
      rfl
    have hll : (l'.map fun a => [f a]).length = (l.map fun a => [f a]).length := by simp [hl]
    refine S.change rfl ⟨rfl, rfl, rfl, by simp [grow, Sort.putRow, mapBlock, Sort.ahead], fun k hk hne => ?_⟩ ⟨?_, by simp⟩ (fun b h => .inl h)
    · simp only [grow, Sort.putRow, mapBlock, Sort.ahead]
      rw [Array.getElem?_append_left (by simpa using hk), Array.getElem?_modify, if_neg (fun h => hne (by simp [Own.dom, Value.ownBlock, h]))]
    · rw [hll]
      refine ⟨by simp [flatten_sing, hl], .inr ⟨g, c, _, rfl, hb, hheap, hc, hcm, by simp [putCells]; omega, ?_⟩⟩
      rw [flatten_sing]
      apply List.ext_getElem?
      intro j
      rw [List.getElem?_take]
      by_cases hj : j < l.length
      · have hjc : j < cur.size := by simp only [List.length_map] at hc; omega
        rw [if_pos (by simpa using hj)]
        simp [putCells, hjc, hl, hj, List.getElem?_eq_getElem (show j < l'.length by omega)]
      · rw [if_neg (by simpa using hj), List.getElem?_eq_none (by simp; omega)]
/-- The library's sort over a row of the call's own. -/
theorem ops_sort {α : Type} [Inhabited α] {f : α → Value} {d : Nat} {F : FuncId} {x : Operand} {ts : Array TypeId} {e : Nat} {v : Value} {l : List α} (l' : List α) (hl : l'.length = l.length) (S : St W0 (.row e 1 v (l.map fun a => [f a]) :: L) w) (hN : Nat.ble (d + 1) N = true)
    (hw : wanted all ρ ⟨some d, .call ⟨.value (.func F), #[x], ts⟩, ty, pos, aft, gd⟩ = true) (hf : hasBody P F) (ha : ev ρ x = v)
    (hc : ∀ (blk cap : Nat), Sort.Holds f w blk 0 l.toArray → blk < w.heap.size → Calls P F #[.slice (some ⟨blk, 0, none⟩) l.length cap] w fun e w' => e = .returned (.tuple #[]) ∧ ∃ n os, w' = grow (Sort.putRow f (Sort.ahead w n) blk 0 l'.toArray) os)
    (hc0 : Calls P F #[.slice none 0 0] w fun e w' => e = .returned (.tuple #[]) ∧ w' = w)
    (h : ∀ w', St W0 (.row e 1 v (l'.map fun a => [f a]) :: L) w' → Ops P r N all Q rest (upd ρ d (.tuple #[])) ds w') :
    Ops P r N all Q (⟨some d, .call ⟨.value (.func F), #[x], ts⟩, ty, pos, aft, gd⟩ :: rest) ρ ds w := by
  have hrow := (S.own _ (List.mem_cons_self ..)).1.2
  rcases hrow with ⟨hv, hn⟩ | ⟨g, cap, cur, hv, _⟩
  · refine ops_enter d rfl hN hw rfl (run_call (l := [x]) [v] hf (by simp [ha])) (R := fun e w' => e = .returned (.tuple #[]) ∧ w' = w) (by rw [hv]; exact hc0) fun e w'' ⟨he, hw'⟩ => ⟨_, he, ?_⟩
    subst hw'
    have h0 : l = [] := by simpa using hn
    subst h0
    have h0 : l' = [] := by simpa using hl
    subst h0
    exact h _ S
  · obtain ⟨h1, h2, h3, h4⟩ := S.holds hv
    have h5 := hc g cap h4 h3
    rw [← h1, ← hv] at h5
    exact ops_enter d rfl hN hw rfl (run_call (l := [x]) [v] hf (by simp [ha])) h5 fun e w'' ⟨he, n, os, hw'⟩ => ⟨_, he, by subst hw'; exact h _ (S.putRow hv hl n os)⟩
/-- .. and its Compact. -/
theorem ops_compact {α : Type} [Inhabited α] [BEq α] {f : α → Value} {d : Nat} {F : FuncId} {x : Operand} {ts : Array TypeId} {e : Nat} {v : Value} {l : List α} (c : List α) (z : α) (hl : c.length ≤ l.length) (S : St W0 (.row e 1 v (l.map fun a => [f a]) :: L) w) (hN : Nat.ble (d + 1) N = true)
    (hw : wanted all ρ ⟨some d, .call ⟨.value (.func F), #[x], ts⟩, ty, pos, aft, gd⟩ = true) (hf : hasBody P F) (ha : ev ρ x = v)
    (hc : ∀ (blk cap : Nat), Sort.Holds f w blk 0 l.toArray → l.length ≤ cap → Calls P F #[.slice (some ⟨blk, 0, none⟩) l.length cap] w fun e w' => e = .returned (.slice (some ⟨blk, 0, none⟩) c.length cap) ∧ ∃ q, w' = Sort.putRow f (Sort.ahead w q) blk 0 (c ++ List.replicate (l.length - c.length) z).toArray)
    (hc0 : Calls P F #[.slice none 0 0] w fun e w' => e = .returned (.slice none 0 0) ∧ w' = w)
    (h : ∀ v w', St W0 (.row e 1 v (c.map fun a => [f a]) :: L) w' → Ops P r N all Q rest (upd ρ d v) ds w') :
    Ops P r N all Q (⟨some d, .call ⟨.value (.func F), #[x], ts⟩, ty, pos, aft, gd⟩ :: rest) ρ ds w := by
  have hrow := (S.own _ (List.mem_cons_self ..)).1.2
  rcases hrow with ⟨hv, hn⟩ | ⟨g, cap, cur, hv, _⟩
  · refine ops_enter d rfl hN hw rfl (run_call (l := [x]) [v] hf (by simp [ha])) (R := fun e w' => e = .returned (.slice none 0 0) ∧ w' = w) (by rw [hv]; exact hc0) fun e w'' ⟨he, hw'⟩ => ⟨_, he, ?_⟩
    subst hw'
    have h0 : l = [] := by simpa using hn
    subst h0
    have h0 : c = [] := by simpa using hl
    subst h0
    exact h _ _ (hv ▸ S)
  · obtain ⟨h1, h2, h3, h4⟩ := S.holds hv
    have h5 := hc g cap h4 (by omega)
    rw [← h1, ← hv] at h5
    refine ops_enter d rfl hN hw rfl (run_call (l := [x]) [v] hf (by simp [ha])) h5 fun e w'' ⟨he, q, hw'⟩ => ⟨_, he, ?_⟩
    have S' := S.putRow (l' := c ++ List.replicate (l.length - c.length) z) hv (by simp; omega) q #[]
    rw [grow_empty] at S'
    have S' := S'.trunc c.length (by simp)
    have e1 : sub 1 v 0 c.length = .slice (some ⟨g, 0, none⟩) c.length cap := by
      rw [hv]; simp only [sub, Nat.sub_zero, Nat.zero_mul, Option.map_some, Addr.add_zero']; split <;> rfl
    have e2 : ((c ++ List.replicate (l.length - c.length) z).map fun a => [f a]).take c.length = c.map fun a => [f a] := by
      rw [List.map_append, List.take_left' (by simp)]
    rw [e1, e2] at S'
    subst hw'
    rw [h1] at *
    exact h _ _ S'
end
end Go.Eng
