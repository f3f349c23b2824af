/- JournalLasts, in plain Lean. -/
import Derived.Test.YtoflckochjijcaaDoorV
set_option linter.all false
set_option maxRecDepth 100000
namespace Go.Proofs.YtoflckochjijcaaDoor
open Go Go.RowKit Go.Eng Go.EV Go.Lib
variable [Fuel]
structure DInv (i : Nat) (all sure : List (List UInt8)) (W : Wd) : Prop where
 jsl : W.js.length ≤ i + 1
 fok : FOK (300 * i + 300) W.d.files
 q : QOK (300 * i + 300) W.d.queue
 st : (W.d.dset.map (·.1)).Nodup
 lost : 0 ≤ W.d.lost ∧ W.d.lost ≤ 9223372036854775807
 armed : 0 ≤ W.d.armed ∧ W.d.armed ≤ 9223372036854775807
 keep : W.d.keep.length ≤ 50
 alen : all.length ≤ i
 a200 : ∀ t ∈ all, t.length ≤ 200
 s200 : ∀ t ∈ sure, t.length ≤ 200
 pn : Pr all sure (fl W.d.files 3).now
 pl : Pr all sure (fl W.d.files 3).last
def JInv (i jn : Nat) (all : List (List UInt8)) (W : Wd) : Prop := jn = 0 ∨ ∃ j, W.js[jn - 1]? = some j ∧ j.recs.length ≤ i ∧ (j.broken = true ∨ (j.file = 3 ∧ (fl W.d.files 3).now = forms j.recs ∧ j.bytes = ((forms j.recs).length : Int) ∧ all = j.recs))
theorem FOK.mono {B C : Nat} {F : List (Int × disk_file)} (h : FOK B F) (hb : B ≤ C) : FOK C F := ⟨h.nd, fun g => ⟨Nat.le_trans (h.sz g).1 hb, Nat.le_trans (h.sz g).2 hb⟩⟩
theorem QOK.mono {B C : Nat} {q : List disk_sector} (h : QOK B q) (hb : B ≤ C) : QOK C q := ⟨Nat.le_trans h.1 hb, h.2⟩
theorem DInv.up {i : Nat} {all sure : List (List UInt8)} {W : Wd} (h : DInv i all sure W) : DInv (i + 1) all sure W :=
 ⟨by have := h.jsl; omega, h.fok.mono (by omega), h.q.mono (by omega), h.st, h.lost, h.armed, h.keep, by have := h.alen; omega, h.a200, h.s200, h.pn, h.pl⟩
theorem JInv.up {i jn : Nat} {all : List (List UInt8)} {W : Wd} (h : JInv i jn all W) : JInv (i + 1) jn all W := by
 rcases h with h | ⟨j, h1, h2, h3⟩
 ·exact .inl h
 ·exact .inr ⟨j, h1, by omega, h3⟩
theorem form200 {t : List UInt8} (h : t.length ≤ 200) : (form t).length ≤ 243 := by have := form_len t (by omega); omega
theorem forms200 : ∀ {l : List (List UInt8)}, (∀ t ∈ l, t.length ≤ 200) → (forms l).length ≤ 243 * l.length
 | [], _ => by simp [forms]
 | t :: l, h => by
  have h1 := form200 (h t (List.mem_cons_self ..))
  have h2 := forms200 fun x hx => h x (List.mem_cons_of_mem _ hx)
  rw [forms_cons, List.length_append, List.length_cons]; omega
end Go.Proofs.YtoflckochjijcaaDoor
