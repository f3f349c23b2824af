/- The engine, fourth part: the operations. -/
import Derived.Test.YtnnieebmbepjpaaEngC
import Derived.Laws.Small
import Derived.Laws.StructEq
set_option linter.all false
namespace Go.Eng
open Go Go.RowKit

abbrev str (l : List UInt8) : Value := .string ⟨l.toArray⟩
abbrev i64 (n : Int) : Value := .int .i64 n

def binV (op : BinOp) (x y : Value) : Option Value :=
  match x, y with
  | .int k a, .int k' b =>
    if k = k' then
      match op with
      | .lss => some (.bool (decide (a < b)))
      | .leq => some (.bool (decide (a ≤ b)))
      | .gtr => some (.bool (decide (a > b)))
      | .geq => some (.bool (decide (a ≥ b)))
      | .eql => some (.bool (decide (a = b)))
      | .neq => some (.bool (!decide (a = b)))
      | .add => some (.int k (k.wrap (a + b)))
      | .sub => some (.int k (k.wrap (a - b)))
      | .mul => some (.int k (k.wrap (a * b)))
      | _ => none
    else none
  | .string a, .string b =>
    match op with
    | .eql => some (.bool (decide (a.data.toList = b.data.toList)))
    | .neq => some (.bool (!decide (a.data.toList = b.data.toList)))
    | .lss => some (.bool (Op.bytesLess a.data.toList b.data.toList))
    | _ => none
  | _, _ => none
/-- What an operation yields that looks at no memory and at no type. -/
def pv (ρ : Slots) : Op → Option Value
  | .move x | .assign x => some (ev ρ x)
  | .pick c a b => match ev ρ c with | .bool t => some (bif t then ev ρ a else ev ρ b) | _ => none
  | .binOp op _ x y _ => binV op (ev ρ x) (ev ρ y)
  | .unOp .not _ x => match ev ρ x with | .bool b => some (.bool (!b)) | _ => none
  | .unOp .neg _ x => match ev ρ x with | .int k n => some (.int k (k.wrap (0 - n))) | _ => none
  | .extract x i => match ev ρ x with | .tuple vs => vs.toList[i]? | _ => none
  | .makeFunc fn first cap => some (.func fn (first.toList.map (ev ρ)).toArray (cap.toList.map (ev ρ)).toArray)
  | _ => none

section
variable {P : Program} {ρ : Slots} {w : World} {dst : Option Tmp} {ty : TypeId} {pos : String} {aft : Array Edge} {gd : Option (Nat × Bool)}

theorem run_binOp {op : BinOp} {t t' : TypeId} {x y : Operand} {v : Value} (h : binV op (ev ρ x) (ev ρ y) = some v) :
    (execOp (ev ρ) ⟨dst, .binOp op t x y t', ty, pos, aft, gd⟩).run P w = .ok (.value v) w := by
  unfold binV at h
  split at h
  · rename_i k a k' b hx hy
    split at h
    · rename_i hk
      subst hk
      cases op <;> simp only [Option.some.injEq, reduceCtorEq] at h <;> subst h <;> simp [execOp, hx, hy, eqGuard, binOp, Op.intCmp, Op.intArith] <;> rfl
    · cases h
  · rename_i a b hx hy
    cases op <;> simp only [Option.some.injEq, reduceCtorEq] at h <;> subst h <;> simp [execOp, hx, hy, eqGuard, binOp, Op.stringOp, ByteArray.toList_eq] <;> first | (rw [Bool.eq_iff_iff]; simp; done) | rfl
  · cases h

theorem run_pv {op : Op} {v : Value} (h : pv ρ op = some v) : (execOp (ev ρ) ⟨dst, op, ty, pos, aft, gd⟩).run P w = .ok (.value v) w := by
  cases op with
  | move x => simp only [pv, Option.some.injEq] at h; subst h; simp [execOp]
  | assign x => simp only [pv, Option.some.injEq] at h; subst h; simp [execOp]
  | pick c a b =>
    simp only [pv] at h
    split at h
    · rename_i t hc
      simp only [Option.some.injEq] at h
      subst h
      simp only [execOp, hc, asBool]
      cases t <;> simp
    · cases h
  | binOp op t x y t' => exact run_binOp h
  | unOp op t x =>
    cases op with
    | not =>
      simp only [pv] at h
      split at h
      · rename_i b hb; simp only [Option.some.injEq] at h; subst h; simp [execOp, hb, Op.unary]
      · cases h
    | neg =>
      simp only [pv] at h
      split at h
      · rename_i k n hb; simp only [Option.some.injEq] at h; subst h; simp [execOp, hb, Op.unary, Op.intArith]
      · cases h
    | _ => simp [pv] at h
  | extract x i =>
    simp only [pv] at h
    split at h
    · rename_i vs hx
      have h' : vs[i]? = some v := by simpa using h
      simp [execOp, hx, Instr.extract, h']
    · cases h
  | makeFunc fn first cap =>
    simp only [pv, Option.some.injEq] at h
    subst h
    have e : ∀ l : Array Operand, l.map (ev ρ) = (l.toList.map (ev ρ)).toArray := fun l => Array.ext' (by simp)
    simp only [execOp, Instr.makeFunc, e]
    rfl
  | _ => simp [pv] at h

/- types -/
def fieldChk (P : Program) (s f off : Nat) : Bool :=
  match P.underlying s with
  | some (.struct fs) => match fs[f]? with
    | some fld => Nat.beq fld.offset off && (match P.info? fld.type with | some i => !Nat.beq i.size 0 | none => false)
    | none => false
  | _ => false
def FieldT (P : Program) (s f off : Nat) : Prop := ∃ fs fld i, P.underlying s = some (.struct fs) ∧ fs[f]? = some fld ∧ fld.offset = off ∧ P.info? fld.type = some i ∧ i.size ≠ 0
theorem field_of {P : Program} {s f off : Nat} (h : fieldChk P s f off = true) : FieldT P s f off := by
  unfold fieldChk at h
  split at h
  · rename_i fs hs
    split at h
    · rename_i fld hf
      simp only [Bool.and_eq_true] at h
      obtain ⟨h1, h2⟩ := h
      split at h2
      · rename_i i hi
        refine ⟨fs, fld, i, hs, hf, Nat.eq_of_beq_eq_true h1, hi, fun e => ?_⟩
        rw [e] at h2
        cases h2
      · cases h2
    · cases h
  · cases h
theorem run_fieldAddr {s f off : Nat} {x : Operand} {p : Addr} (hf : FieldT P s f off) (ha : ev ρ x = .pointer (some p)) :
    (execOp (ev ρ) ⟨dst, .fieldAddr s x f, ty, pos, aft, gd⟩).run P w = .ok (.value (.pointer (some (p.add off)))) w := by
  obtain ⟨fs, fld, i, h1, h2, h3, h4, h5⟩ := hf
  subst h3
  simp [execOp, Instr.fieldAt, run_underlying h1, h2, ha, Instr.sureAddr, fieldPlace, sizeOf, typeInfo, h4, h5]
theorem add_blk (b o n : Nat) : (⟨b, o, none⟩ : Addr).add n = ⟨b, o + n, none⟩ := Addr.add_lit b o n
theorem run_fieldAddr_blk {s f off : Nat} {x : Operand} {b o o' : Nat} (hf : FieldT P s f off) (ho : o + off = o') (ha : ev ρ x = .pointer (some ⟨b, o, none⟩)) :
    (execOp (ev ρ) ⟨dst, .fieldAddr s x f, ty, pos, aft, gd⟩).run P w = .ok (.value (.pointer (some ⟨b, o', none⟩))) w := by
  subst ho; rw [← add_blk]; exact run_fieldAddr hf ha
theorem run_len_str {t : TypeId} {x : Operand} {s : List UInt8} (ht : P.underlying t = some .string) (ha : ev ρ x = str s) :
    (execOp (ev ρ) ⟨dst, .call ⟨.builtin .len, #[x], #[t]⟩, ty, pos, aft, gd⟩).run P w = .ok (.value (i64 s.length)) w := by
  have hs : (⟨s.toArray⟩ : ByteArray).size = s.length := by show s.toArray.size = _; simp
  simp [execOp, resolve, invoke, builtin, ha, Builtin.len_, run_underlying ht, goInt, hs]
theorem run_len_slice' {t e : TypeId} {x : Operand} {A : Option Addr} {n c : Nat} (ht : P.underlying t = some (.slice e)) (ha : ev ρ x = .slice A n c) :
    (execOp (ev ρ) ⟨dst, .call ⟨.builtin .len, #[x], #[t]⟩, ty, pos, aft, gd⟩).run P w = .ok (.value (i64 n)) w := by
  simp [execOp, resolve, invoke, builtin, ha, Builtin.len_, run_underlying ht, goInt]
theorem run_indexAddr {t e k : Nat} {x y : Operand} {a : Addr} {n c i : Nat} {info : TypeInfo} (ht : P.underlying t = some (.slice e)) (hi : P.info? e = some info) (hk : info.size = k)
    (ha : ev ρ x = .slice (some a) n c) (hb : ev ρ y = i64 (i : Nat)) (hlt : i < n) :
    (execOp (ev ρ) ⟨dst, .indexAddr t x y, ty, pos, aft, gd⟩).run P w = .ok (.value (.pointer (some (a.add (i * k))))) w := by
  have h1 : ¬ n ≤ i := by omega
  simp [execOp, Instr.indexAt, run_underlying ht, asIntOf, ha, hb, sizeOf, typeInfo, hi, hk, h1]
theorem run_eql_bool' {t t' : TypeId} {x y : Operand} {a b : Bool} (ht : P.underlying t = some .bool) (ha : ev ρ x = .bool a) (hb : ev ρ y = .bool b) :
    (execOp (ev ρ) ⟨dst, .binOp .eql t x y t', ty, pos, aft, gd⟩).run P w = .ok (.value (.bool (a == b))) w := by
  simp [execOp, ha, hb, run_eql_bool _ _ _ _ ht, eqGuard]
theorem run_neq_bool' {t t' : TypeId} {x y : Operand} {a b : Bool} (ht : P.underlying t = some .bool) (ha : ev ρ x = .bool a) (hb : ev ρ y = .bool b) :
    (execOp (ev ρ) ⟨dst, .binOp .neq t x y t', ty, pos, aft, gd⟩).run P w = .ok (.value (.bool (!(a == b)))) w := by
  simp [execOp, ha, hb, run_neq_bool _ _ _ _ ht, eqGuard]
theorem run_min2 {t t1 t2 : TypeId} {x y : Operand} {a b : Int} {k : IntKind} (ha : ev ρ x = .int k a) (hb : ev ρ y = .int k b) :
    (execOp (ev ρ) ⟨dst, .call ⟨.builtin .min, #[x, y], #[t1, t2]⟩, t, pos, aft, gd⟩).run P w = .ok (.value (.int k (min a b))) w := by
  have h : (if b < a then b else a) = min a b := by omega
  simp [execOp, resolve, invoke, builtin, ha, hb, Builtin.min_, Builtin.min2, h]
theorem run_max2 {t t1 t2 : TypeId} {x y : Operand} {a b : Int} {k : IntKind} (ha : ev ρ x = .int k a) (hb : ev ρ y = .int k b) :
    (execOp (ev ρ) ⟨dst, .call ⟨.builtin .max, #[x, y], #[t1, t2]⟩, t, pos, aft, gd⟩).run P w = .ok (.value (.int k (max a b))) w := by
  have h : (if b > a then b else a) = max a b := by omega
  simp [execOp, resolve, invoke, builtin, ha, hb, Builtin.max_, Builtin.max2, h]
theorem run_max3 {t t1 t2 t3 : TypeId} {x y z : Operand} {a b c : Int} {k : IntKind} (ha : ev ρ x = .int k a) (hb : ev ρ y = .int k b) (hc : ev ρ z = .int k c) :
    (execOp (ev ρ) ⟨dst, .call ⟨.builtin .max, #[x, y, z], #[t1, t2, t3]⟩, t, pos, aft, gd⟩).run P w = .ok (.value (.int k (max (max a b) c))) w := by
  have h1 : (if b > a then b else a) = max a b := by omega
  have h : (if c > max a b then c else max a b) = max (max a b) c := by omega
  simp [execOp, resolve, invoke, builtin, ha, hb, hc, Builtin.max_, Builtin.max2, h1, h]
end

theorem wrap64_id {a : Int} (h1 : -9223372036854775808 ≤ a) (h2 : a ≤ 9223372036854775807) : IntKind.i64.wrap a = a := by
  rw [IntKind.wrap_i64]; omega
end Go.Eng
