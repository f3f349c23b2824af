/- The engine, sixth part: cuts, slices that are read, slices that the call made. -/
import Derived.Test.YtnnieebmbepjpaaEngE
set_option linter.all false
namespace Go.Eng
open Go Go.RowKit

def Bot : Post := fun _ _ _ _ => False
section
variable {P : Program} {r : Option Nat} {N : Nat} {Q : Post} {ρ : Slots} {ds : List Deferred} {w W0 : World} {L : List Own}
variable {all rest : List Oper} {jl : Nat} {S : World → Prop} {K : Slots → List Deferred → World → Prop}

theorem w_cut {c : Code} (live : List (Nat × Value)) (R : World → Prop) (h1 : Wp P r N c (andThen (fun ρ' ds' w' => Holds live ρ' ∧ ds' = ds ∧ R w') Bot) ρ ds w)
    (h2 : ∀ ρ0 w', R w' → Q .normal (upds live ρ0) ds w') : Wp P r N c Q ρ ds w :=
  w_mono h1 fun e ρ' ds' w' h => by
    cases e with
    | normal =>
      obtain ⟨hl, rfl, hR⟩ := h
      have := h2 ρ' w' hR
      rwa [upds_self _ _ hl] at this
    | exit id => exact h.elim
    | goto l => exact h.elim
    | ret => exact h.elim
    | panic c => exact h.elim
    | outgrown => exact h.elim
theorem upd_eq {d : Nat} {v : Value} (h : ρ d = v) : upd ρ d v = ρ := by subst h; exact upd_self ρ d
theorem ops_case (d : Nat) (b : Bool) {l : List Oper} (hb : ρ d = .bool b) (h1 : b = true → Ops P r N all Q l (upd ρ d (.bool true)) ds w) (h2 : b = false → Ops P r N all Q l (upd ρ d (.bool false)) ds w) : Ops P r N all Q l ρ ds w := by
  cases b with
  | true => have := h1 rfl; rwa [upd_eq hb] at this
  | false => have := h2 rfl; rwa [upd_eq hb] at this
theorem any_case {fuel : Nat} {done : List Nat} (d : Nat) (b : Bool) (hb : ρ d = .bool b) (h1 : b = true → Any P r N all jl S K fuel done (upd ρ d (.bool true)) ds w) (h2 : b = false → Any P r N all jl S K fuel done (upd ρ d (.bool false)) ds w) : Any P r N all jl S K fuel done ρ ds w := by
  cases b with
  | true => have := h1 rfl; rwa [upd_eq hb] at this
  | false => have := h2 rfl; rwa [upd_eq hb] at this
variable {dst : Option Tmp} {ty : TypeId} {pos : String} {aft : Array Edge} {gd : Option (Nat × Bool)}
theorem run_wr {op : Op} {a : Int} (h : pv ρ op = some (.int .i64 (IntKind.i64.wrap a))) (h1 : -9223372036854775808 ≤ a) (h2 : a ≤ 9223372036854775807) :
    (execOp (ev ρ) ⟨dst, op, ty, pos, aft, gd⟩).run P w = .ok (.value (i64 a)) w := by
  rw [run_pv h, wrap64_id h1 h2]

/- slices -/
def adr : Value → Addr | .slice (some a) _ _ => a | _ => ⟨0, 0, none⟩
/-- In world W the slice v reads as the list l, each element of k cells. -/
def Rd {α : Type} (W : World) (enc : α → List Value) (k : Nat) (v : Value) (l : List α) : Prop :=
  ∃ A c, v = .slice A l.length c ∧ l.length ≤ c ∧ c ≤ maxLen ∧ (0 < l.length → A = some (adr v)) ∧ ∀ i j x u, l[i]? = some x → (enc x)[j]? = some u → W.cell? (((adr v).add (i * k)).add j) = some u
section
variable {α : Type} {enc : α → List Value} {k : Nat} {v : Value} {l : List α}
theorem Rd.at' {d : α} (h : Rd W0 enc k v l) {i j : Nat} {u : Value} (hi : i < l.length) (hj : (enc (l.getD i d))[j]? = some u) : W0.cell? (((adr v).add (i * k)).add j) = some u := by
  obtain ⟨A, c, _, _, _, _, hc⟩ := h
  refine hc i j (l.getD i d) u ?_ hj
  simp [List.getD_eq_getElem?_getD, List.getElem?_eq_getElem hi]
theorem Rd.each {d : α} (h : Rd W0 enc k v l) {i : Nat} (hi : i < l.length) : ∀ j u, (enc (l.getD i d))[j]? = some u → W0.cell? (((adr v).add (i * k)).add j) = some u := fun _ _ hj => h.at' hi hj
theorem Rd.len (h : Rd W0 enc k v l) : l.length ≤ 9223372036854775807 := by
  obtain ⟨A, c, _, h1, h2, _⟩ := h
  simp only [maxLen] at h2; omega
theorem Rd.nil (W : World) : Rd W enc k (.slice none 0 0) [] := ⟨none, 0, rfl, Nat.le_refl _, by simp [maxLen], fun h => absurd h (by simp), fun i j x u h => by simp at h⟩
theorem St.rd (hS : St W0 L w) (h : Rd W0 enc k v l) : Rd w enc k v l := by
  obtain ⟨A, c, h1, h2, h3, h4, hc⟩ := h
  exact ⟨A, c, h1, h2, h3, h4, fun i j x u hx hu => hS.ro (hc i j x u hx hu)⟩
theorem St.rdRow (hS : St W0 L w) {n : Nat} {e : Nat} (hL : L[n]? = some (.row e k v (l.map enc))) : Rd w enc k v l := by
  have hh := hS.own _ (List.mem_of_getElem? hL)
  obtain ⟨ho, hk⟩ := hh
  rcases ho.2 with ⟨hv, hn⟩ | ⟨g, cap, cur, hv, hb, hg, hnc, hcm, hcs, htk⟩
  · simp only [List.length_map] at hn
    obtain rfl : l = [] := List.eq_nil_of_length_eq_zero hn
    subst hv
    exact Rd.nil w
  · simp only [List.length_map] at hv hnc
    refine ⟨_, cap, hv, hnc, hcm, fun _ => by rw [hv]; rfl, fun i j x u hx hu => ?_⟩
    have := hS.rowCell hL (g := g) (by rw [hv]; rfl) (m := i) (j := j) (x := enc x) (u := u) (by simp [hx]) hu
    rw [hv]
    simp only [adr, Addr.add_lit, Nat.zero_add]
    exact this
theorem run_len_rd {t e : TypeId} {x : Operand} (hs : P.underlying t = some (.slice e)) (h : Rd W0 enc k v l) (ha : ev ρ x = v) :
    (execOp (ev ρ) ⟨dst, .call ⟨.builtin .len, #[x], #[t]⟩, ty, pos, aft, gd⟩).run P w = .ok (.value (i64 l.length)) w := by
  obtain ⟨A, c, hv, _⟩ := h
  exact run_len_slice' hs (ha.trans hv)
def IsSliceT (P : Program) (t e k : Nat) : Prop := P.underlying t = some (.slice e) ∧ ∃ i, P.info? e = some i ∧ i.size = k
theorem run_index_rd {t e : Nat} {x y : Operand} {i : Nat} (hs : IsSliceT P t e k) (h : Rd W0 enc k v l) (ha : ev ρ x = v) (hb : ev ρ y = i64 (i : Int)) (hlt : i < l.length) :
    (execOp (ev ρ) ⟨dst, .indexAddr t x y, ty, pos, aft, gd⟩).run P w = .ok (.value (.pointer (some ((adr v).add (i * k))))) w := by
  obtain ⟨A, c, hv, _, _, hA, _⟩ := h
  obtain ⟨ht, hex⟩ := hs
  obtain ⟨ii, hi, hk⟩ := hex
  have hA' := hA (by omega)
  exact run_indexAddr (a := adr v) (n := l.length) (c := c) ht hi hk (by rw [ha, ← hA']; exact hv) hb hlt
theorem run_index_rdI {t e : Nat} {x y : Operand} {i : Int} (hs : IsSliceT P t e k) (h : Rd W0 enc k v l) (ha : ev ρ x = v) (hb : ev ρ y = i64 i) (h0 : 0 ≤ i) (hlt : i.toNat < l.length) :
    (execOp (ev ρ) ⟨dst, .indexAddr t x y, ty, pos, aft, gd⟩).run P w = .ok (.value (.pointer (some ((adr v).add (i.toNat * k))))) w :=
  run_index_rd hs h ha (by rw [hb]; show i64 i = i64 (i.toNat : Int); rw [Int.toNat_of_nonneg h0]) hlt
end
def sliceChk (P : Program) (t e k : Nat) : Bool := match P.underlying t, P.info? e with | some (.slice e'), some i => Nat.beq e e' && Nat.beq i.size k | _, _ => false
theorem slice_of {t e k : Nat} (h : sliceChk P t e k = true) : IsSliceT P t e k := by
  unfold sliceChk at h
  split at h
  · rename_i e' i ht hi
    simp only [Bool.and_eq_true] at h
    have := Nat.eq_of_beq_eq_true h.1
    subst this
    exact ⟨ht, i, hi, Nat.eq_of_beq_eq_true h.2⟩
  · cases h
def bodyChk (P : Program) (f : FuncId) : Bool := match P.funcs[f]? with | some fn => !(fn.name == "runtime.NumGoroutine") && !fn.body.isNone | none => false
theorem body_of {f : FuncId} (h : bodyChk P f = true) : hasBody P f := by
  unfold bodyChk at h
  split at h
  · rename_i fn hf
    simp only [Bool.and_eq_true, Bool.not_eq_true'] at h
    exact ⟨fn, hf, h.1, h.2⟩
  · cases h
end
end Go.Eng
