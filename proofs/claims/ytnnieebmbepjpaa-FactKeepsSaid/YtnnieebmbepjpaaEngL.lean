/- The engine, twelfth part: structs compared and built; empty literals; rows cut and written; several loud operations at once. -/
import Derived.Test.YtnnieebmbepjpaaEngK
import Derived.Laws.StructEq
import Derived.Laws.Tables
import Derived.Lib.SliceRun
set_option linter.all false
namespace Go.Eng
open Go Go.RowKit
/- structs of plain fields, compared -/
inductive Tag where
  | int (k : IntKind)
  | bool
  | str
  deriving DecidableEq
def tagOf : TypeDesc → Option Tag | .int k => some (.int k) | .bool => some .bool | .string => some .str | _ => none
def kindV : Tag → Value → Bool | .int k, .int k' _ => decide (k = k') | .bool, .bool _ => true | .str, .string _ => true | _, _ => false
def eqV : Value → Value → Bool | .int _ a, .int _ b => decide (a = b) | .bool a, .bool b => a == b | .string a, .string b => decide (a.data.toList = b.data.toList) | _, _ => false
def eqVs : List Value → List Value → Bool | [], [] => true | a :: l, b :: m => eqV a b && eqVs l m | _, _ => false
def kindsV : List Tag → List Value → Bool | [], [] => true | k :: ks, v :: vs => kindV k v && kindsV ks vs | _, _ => false
def flatChk (P : Program) : List Field → Nat → List Tag → Bool
  | [], _, [] => true
  | f :: fs, i, k :: ks => !(f.name == "_") && (Nat.beq f.offset i && ((match P.underlying f.type with | some d => decide (tagOf d = some k) | none => false) && flatChk P fs (i + 1) ks))
  | _, _, _ => false
def FlatT (P : Program) (t : TypeId) (ks : List Tag) : Prop := P.underlying t = some (.struct (P.fieldsOf t)) ∧ P.stoodInHeld t = false ∧ P.eqGuardType P.depth t = false ∧ flatChk P (P.fieldsOf t).toList 0 ks = true
def flatTChk (P : Program) (t : TypeId) (ks : List Tag) : Bool := (match P.underlying t with | some (.struct _) => true | _ => false) && ((!P.stoodInHeld t) && ((!P.eqGuardType P.depth t) && flatChk P (P.fieldsOf t).toList 0 ks))
theorem flat_of {P : Program} {t : TypeId} {ks : List Tag} (h : flatTChk P t ks = true) : FlatT P t ks := by
  simp only [flatTChk, Bool.and_eq_true, Bool.not_eq_true'] at h
  obtain ⟨h1, h2, h3, h4⟩ := h
  refine ⟨?_, h2, h3, h4⟩
  split at h1
  · rename_i fs hf
    simp [Program.fieldsOf, hf]
  · cases h1
section
variable {P : Program} {ρ : Slots} {w : World} {dst : Option Tmp} {ty : TypeId} {pos : String} {aft : Array Edge} {gd : Option (Nat × Bool)}
theorem run_equalIn_tag {d : Nat} {t : Nat} {k : Tag} {a b : Value} {desc : TypeDesc} (hu : P.underlying t = some desc) (ht : tagOf desc = some k) (ha : kindV k a = true) (hb : kindV k b = true) : (Op.equalIn (d + 1) t a b).run P w = .ok (eqV a b) w := by
  cases desc <;> simp only [tagOf, Option.some.injEq, reduceCtorEq] at ht <;> subst ht <;> (cases a <;> simp only [kindV, Bool.false_eq_true] at ha <;> cases b <;> simp only [kindV, Bool.false_eq_true] at hb)
  · rw [run_equalIn_bool' w d t _ _ hu]; rfl
  · have ha := of_decide_eq_true ha; have hb := of_decide_eq_true hb; subst ha; subst hb
    rw [run_equalIn_int w d t _ _ _ _ hu]; rfl
  · rw [run_equalIn_string w d t _ _ hu]; simp only [eqV, ByteArray.toList_eq]; congr 1; rw [Bool.eq_iff_iff]; simp
theorem tag_scal {t : Nat} {k : Tag} {desc : TypeDesc} (hu : P.underlying t = some desc) (ht : tagOf desc = some k) : (isAgg t).run P w = .ok false w := by
  unfold isAgg
  cases desc <;> simp only [tagOf, reduceCtorEq] at ht <;> simp [run_underlying hu]
theorem run_eqFields {d : Nat} {xs ys : List Value} : ∀ (fs : List Field) (i : Nat) (ks : List Tag), flatChk P fs i ks = true → kindsV ks (xs.drop i) = true → kindsV ks (ys.drop i) = true →
    (Op.eqFields (d + 1) xs.toArray ys.toArray fs).run P w = .ok (eqVs (xs.drop i) (ys.drop i)) w := by
  intro fs
  induction fs with
  | nil =>
    intro i ks h hx hy
    cases ks with
    | cons k ks => cases h
    | nil =>
      cases hxs : xs.drop i with
      | cons a l => rw [hxs] at hx; cases hx
      | nil =>
        cases hys : ys.drop i with
        | cons a l => rw [hys] at hy; cases hy
        | nil => simp [Op.eqFields, eqVs]
  | cons f fs ih =>
    intro i ks h hx hy
    cases ks with
    | nil => cases h
    | cons k ks =>
      simp only [flatChk, Bool.and_eq_true] at h
      obtain ⟨h1, h2, h3, h4⟩ := h
      have h2 := Nat.eq_of_beq_eq_true h2
      have h1 : f.name ≠ "_" := by simpa using h1
      cases hxs : xs.drop i with
      | nil => rw [hxs] at hx; cases hx
      | cons a l =>
        cases hys : ys.drop i with
        | nil => rw [hys] at hy; cases hy
        | cons b m =>
          rw [hxs] at hx; rw [hys] at hy
          simp only [kindsV, Bool.and_eq_true] at hx hy
          have ex : xs.drop (i + 1) = l := by rw [← List.drop_drop, hxs]; rfl
          have ey : ys.drop (i + 1) = m := by rw [← List.drop_drop, hys]; rfl
          have gx : xs[i]? = some a := by have := congrArg (·[0]?) hxs; simpa using this
          have gy : ys[i]? = some b := by have := congrArg (·[0]?) hys; simpa using this
          cases hu : P.underlying f.type with
          | none => rw [hu] at h3; cases h3
          | some desc =>
            rw [hu] at h3
            have h3 : tagOf desc = some k := by simpa using h3
            have ih := ih (i + 1) ks h4 (by rw [ex]; exact hx.2) (by rw [ey]; exact hy.2)
            rw [ex, ey] at ih
            have px : (part f.type xs.toArray f.offset).run P w = .ok a w := by simp [part, tag_scal hu h3, h2, gx]
            have py : (part f.type ys.toArray f.offset).run P w = .ok b w := by simp [part, tag_scal hu h3, h2, gy]
            rw [Op.eqFields, if_pos h1]
            simp only [Sem.run_bind, px, py, Result.andThen_ok, run_equalIn_tag hu h3 hx.1 hy.1, eqVs]
            cases eqV a b
            · simp
            · simp [ih]
theorem run_eqS {t t' : TypeId} {ks : List Tag} {a b : List Value} {x y : Operand} (res : Bool) (hF : FlatT P t ks) (ha : ev ρ x = .agg a.toArray) (hb : ev ρ y = .agg b.toArray) (hka : kindsV ks a = true) (hkb : kindsV ks b = true) (hr : eqVs a b = res) :
    (execOp (ev ρ) ⟨dst, .binOp .eql t x y t', ty, pos, aft, gd⟩).run P w = .ok (.value (.bool res)) w := by
  obtain ⟨h1, h2, h3, h4⟩ := hF
  have h := run_eqFields (P := P) (w := w) (d := 9998) (xs := a) (ys := b) _ 0 ks h4 (by simpa using hka) (by simpa using hkb)
  simp only [List.drop_zero] at h
  simp [execOp, ha, hb, run_eqGuard_agg w _ t x y _ _ h3, run_eql_struct, run_equalIn_agg w 9999 t _ _ h1 h2, h, hr]
theorem run_neS {t t' : TypeId} {ks : List Tag} {a b : List Value} {x y : Operand} (res : Bool) (hF : FlatT P t ks) (ha : ev ρ x = .agg a.toArray) (hb : ev ρ y = .agg b.toArray) (hka : kindsV ks a = true) (hkb : kindsV ks b = true) (hr : eqVs a b = res) :
    (execOp (ev ρ) ⟨dst, .binOp .neq t x y t', ty, pos, aft, gd⟩).run P w = .ok (.value (.bool (!res))) w := by
  obtain ⟨h1, h2, h3, h4⟩ := hF
  have h := run_eqFields (P := P) (w := w) (d := 9998) (xs := a) (ys := b) _ 0 ks h4 (by simpa using hka) (by simpa using hkb)
  simp only [List.drop_zero] at h
  simp [execOp, ha, hb, run_eqGuard_agg w _ t x y _ _ h3, run_neq_struct, run_equalIn_agg w 9999 t _ _ h1 h2, h, hr]
theorem run_buildS {t : TypeId} {parts : List (Nat × Operand)} (ps : List (Nat × Value)) (cs : List Value) (hp : parts.map (fun p => (p.1, ev ρ p.2)) = ps) (h : P.built t ps = some cs.toArray) :
    (execOp (ev ρ) ⟨dst, .build t parts.toArray, ty, pos, aft, gd⟩).run P w = .ok (.value (.agg cs.toArray)) w := by
  have e : (parts.toArray.map fun x => (x.1, ev ρ x.2)) = ps.toArray := by rw [← hp]; simp
  simp only [execOp, e]
  simp [run_build w t ps.toArray cs.toArray (by simpa using h)]
/-- A slice tested for nil: the row tells. -/
theorem run_nilSlice {t e t' : TypeId} {x y : Operand} {a : Option Addr} {n c n' c' : Nat} (ht : P.underlying t = some (.slice e)) (ha : ev ρ x = .slice a n c) (hb : ev ρ y = .slice none n' c') :
    (execOp (ev ρ) ⟨dst, .binOp .eql t x y t', ty, pos, aft, gd⟩).run P w = .ok (.value (.bool a.isNone)) w := by
  simp [execOp, ha, hb, eqGuard, Lib.run_eql_slice_nil w t e a n c n' c' ht]
end
section
variable {P : Program} {r : Option Nat} {N : Nat} {Q : Post} {ρ : Slots} {ds : List Deferred} {w W0 : World} {L : List Own}
variable {all rest : List Oper} {ty : TypeId} {pos : String} {aft : Array Edge} {gd : Option (Nat × Bool)}
/-- []T{}: a row of no elements. -/
theorem ops_buildEmpty {d : Nat} {t : TypeId} {e k bytes : Nat} {zs : List Value} (hT : SliceT P t e k bytes zs) (S : St W0 L w) (hN : Nat.ble (d + 1) N = true)
    (hw : wanted all ρ ⟨some d, .buildSlice t 0 #[], ty, pos, aft, gd⟩ = true)
    (h : ∀ v w', St W0 (.row e k v [] :: L) w' → Ops P r N all Q rest (upd ρ d v) ds w') : Ops P r N all Q (⟨some d, .buildSlice t 0 #[], ty, pos, aft, gd⟩ :: rest) ρ ds w := by
  obtain ⟨i, z, hu, hi, hik, hib, hiz, hzz, hzl, h0⟩ := hT
  refine ops_val d (.slice (some ⟨w.heap.size, 0, none⟩) 0 0) (w' := w.alloc (.cells #[] e)) rfl hN hw rfl ?_ (h _ _ (S.newRow (n := 0) (xs := []) rfl (by simp) (by simp [maxLen])))
  simp only [execOp, Instr.buildSlice, Sem.run_bind, run_underlying hu, Result.andThen_ok, sizeOf, typeInfo]
  simp only [program, Sem.run, hi, hik, Sem.run_bind, Sem.run_pure, Result.andThen_ok]
  have e0 : Array.range 0 = (#[] : Array Nat) := rfl
  simp [Instr.fill, newRow, newObj, e0]
  rfl
/-- What lies behind the first m elements is let go. -/
theorem sub_own {w : World} {base e k n : Nat} {v : Value} {xs : List Value} (h : w.ownsRow base e k v n xs) {m : Nat} (hm : m ≤ n) : w.ownsRow base e k (sub k v 0 m) m (xs.take (m * k)) := by
  obtain ⟨hl, h⟩ := h
  have hmk : m * k ≤ n * k := Nat.mul_le_mul_right k hm
  refine ⟨by rw [List.length_take, hl]; omega, ?_⟩
  rcases h with ⟨rfl, hn⟩ | ⟨g, cap, cur, rfl, hb, hg, hc, hcm, hsz, ht⟩
  · exact .inl ⟨by simp [sub]; omega, by omega⟩
  · refine .inr ⟨g, cap, cur, ?_, hb, hg, by omega, hcm, hsz, ?_⟩
    · simp only [sub, Nat.sub_zero, Nat.zero_mul, Option.map_some, Addr.add_zero']
      split <;> rfl
    · rw [← ht, List.take_take]; congr 1; omega
theorem flatten_take {k : Nat} : ∀ (xs : List (List Value)), (∀ x ∈ xs, x.length = k) → ∀ m, (xs.take m).flatten = xs.flatten.take (m * k)
  | [], _, m => by simp
  | x :: xs, h, 0 => by simp
  | x :: xs, h, m + 1 => by
    have hx := h x (List.mem_cons_self ..)
    rw [List.take_succ_cons, List.flatten_cons, List.flatten_cons, flatten_take xs (fun y hy => h y (List.mem_cons_of_mem _ hy)) m, Nat.succ_mul, Nat.add_comm, ← hx, List.take_length_add_append]
theorem St.trunc {e k : Nat} {v : Value} {xs : List (List Value)} (S : St W0 (.row e k v xs :: L) w) (m : Nat) (hm : m ≤ xs.length) : St W0 (.row e k (sub k v 0 m) (xs.take m) :: L) w := by
  have hh := S.own _ (List.mem_cons_self ..)
  have hl : (xs.take m).length = m := by simp; omega
  refine S.change rfl ⟨rfl, rfl, rfl, Nat.le_refl _, fun _ _ _ => rfl⟩ ⟨?_, fun x hx => hh.2 x (List.mem_of_mem_take hx)⟩ (fun b hb => .inl ?_)
  · rw [hl, flatten_take xs hh.2 m]; exact sub_own hh.1 hm
  · rcases hh.1.2 with ⟨rfl, _⟩ | ⟨g, cap, cur, rfl, _⟩
    · simp only [Own.dom, sub] at hb ⊢; split at hb <;> exact hb
    · simp only [Own.dom, sub] at hb ⊢
      split at hb
      · exact hb
      · simpa [Value.ownBlock, Addr.add] using hb
end
end Go.Eng
