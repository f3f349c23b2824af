/- JournalReads, in plain Lean. -/
import Derived.Test.YtoflckochjijcaaDoorR
set_option linter.all false
set_option maxRecDepth 100000
namespace Go.Proofs.YtoflckochjijcaaDoor
open Go Go.RowKit Go.Eng Go.EV Go.Lib
variable [Fuel]
theorem open_calm {F : List (Int × disk_file)} {Q : List disk_sector} {S : List (disk_sector × Bool)} {f : Int} {keep : List Int} {js : List Jrn} {n : Nat} {x : List UInt8} {l : List (List UInt8)} (h : 0 ≤ f ∧ f < 16) (hjs : js.length < 400000) (hq : QOK n Q) (hn : n ≤ 549755813888) (hS : (S.map (·.1)).Nodup) (hx : (fl F f).now = x) (hxl : x.length ≤ 549755813888) (hl : Parsed x l) :
  ∃ F' q' st', k_open ⟨⟨F, Q, S, 0, false, 0, keep⟩, js⟩ f = some ((js.length + 1, 0), ⟨⟨F', q', st', 0, false, 0, keep⟩, js ++ [⟨f, l, ((forms l).length : Int), false⟩]⟩) ∧ fl F' f = ⟨forms l, forms l⟩ ∧ (∀ g, g ≠ f → fl F' g = fl F g) ∧ QOK n q' ∧ (st'.map (·.1)).Nodup ∧ ((F.map (·.1)).Nodup → (F'.map (·.1)).Nodup) := by
 obtain ⟨h1, h2, h3⟩ := forms_le hl
 by_cases hlt : (forms l).length < x.length
 ·obtain ⟨q', st', e, hq', hst'⟩ := open_p2 (a := 0) (keep := keep) h hjs (by decide) (by decide) (by decide) (by decide) hq hn hS hx hxl hl hlt
  refine ⟨_, q', st', e, by rw [fl_self], fun g hg => by rw [fl_mset, if_neg hg, fl_mset, if_neg hg], hq', hst', fun hn => nodup_mset _ _ _ (nodup_mset _ _ _ hn)⟩
 ·have hf := h3 (by omega)
  obtain ⟨q', st', e, hq', hst'⟩ := open_p1 (a := 0) (keep := keep) h hjs (by decide) (by decide) (by decide) hq hn hS hx hxl hl hf
  refine ⟨_, q', st', ?_, by rw [fl_self, ← hf], fun g hg => by rw [fl_mset, if_neg hg], hq', hst', fun hn => nodup_mset _ _ _ hn⟩
  rw [← hf]; exact e
theorem kwrite_nil {F : List (Int × disk_file)} {Q : List disk_sector} {S : List (disk_sector × Bool)} {f : Int} {keep : List Int} {js : List Jrn} (h : 0 ≤ f ∧ f < 16) (hjs : js.length < 400000) : k_write ⟨⟨F, Q, S, 0, false, 0, keep⟩, js⟩ f 0 [] = some (0, ⟨⟨F, Q, S, 0, false, 0, keep⟩, js⟩) := by
 have e : s_disk_Disk_Write_n F Q S 0 false 0 keep f 0 [] = some (0, 0, false, 0, keep, F, Q, S) := by
  unfold s_disk_Disk_Write_n
  rw [ends_up (by decide) (by decide), Option.bind_some]
  simp only [show decide ((0 : Int) = 1) = false from rfl, cond_false, s_disk_Disk_write, may_up h, Option.bind_some, decide_true, Bool.not_true]
  rfl
 simp only [k_write, grd_of hjs, Option.bind_some, e, orO]
end Go.Proofs.YtoflckochjijcaaDoor
