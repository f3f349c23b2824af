/- The code's journal does what the plain one does. -/
import Derived.Test.YtoflckochjijcaaGreatDoorYt
set_option linter.all false
set_option maxRecDepth 100000
namespace Go.Proofs.YtoflckochjijcaaGreatDoor.E
open Go Go.RowKit Go.Eng Go.EV Go.EQ Go.Lib
variable [Fuel]
variable {F : List (Int × disk_file)} {Q : List disk_sector} {S : List (disk_sector × Bool)} {lost a : Int} {down : Bool} {keep : List Int} {m : SM} {C : Nat}
noncomputable def parse (s : List UInt8) : List (List UInt8) := Classical.choose (parsed_ex s.length s (Nat.le_refl _))
theorem parse_spec (s : List UInt8) : Parsed s (parse s) := Classical.choose_spec (parsed_ex s.length s (Nat.le_refl _))
theorem forms_le (s : List UInt8) : (forms (parse s)).length ≤ s.length := by
 obtain ⟨_, v, h, _⟩ := parse_spec s
 have := congrArg List.length h
 rw [List.length_append] at this
 omega
noncomputable def openS (m : SM) : Option (List (List UInt8)) × Int × SM :=
 if (syncS m).1 = 0 then
  (if (forms (parse (syncS m).2.now)).length < (syncS m).2.now.length then
   (if (truncS (syncS m).2 (forms (parse (syncS m).2.now)).length).1 = 0 then (some (parse (syncS m).2.now), 0, (truncS (syncS m).2 (forms (parse (syncS m).2.now)).length).2)
    else (none, (truncS (syncS m).2 (forms (parse (syncS m).2.now)).length).1, (truncS (syncS m).2 (forms (parse (syncS m).2.now)).length).2))
   else (some (parse (syncS m).2.now), 0, (syncS m).2))
 else (none, (syncS m).1, (syncS m).2)
def appendS (m : SM) (recs : List (List UInt8)) (bad : Bool) (r : List UInt8) : Int × SM × List (List UInt8) × Bool :=
 if bad = true then (7, m, recs, true) else if r.length > 20000 then (3, m, recs, false) else if (forms recs).length + (form r).length > 1048576 then (6, m, recs, false) else
  if (writeS m (forms recs).length (form r)).1 = 0 then (0, (writeS m (forms recs).length (form r)).2, recs ++ [r], false) else ((writeS m (forms recs).length (form r)).1, (writeS m (forms recs).length (form r)).2, recs, true)
def syncJ (m : SM) (bad : Bool) : Int × SM × Bool := if bad = true then (7, m, true) else ((syncS m).1, (syncS m).2, !decide ((syncS m).1 = 0))
theorem sync_up (h : (syncS m).1 = 0) : (syncS m).2.down = false := by
 unfold syncS at h ⊢
 cases hd : (lastS m).down with
 | true => simp [hd] at h
 | false =>
  simp only [hd, Bool.false_eq_true, if_false] at h ⊢
  by_cases hl : (lastS m).lost > 0
  ·simp [hl] at h
  ·rw [if_neg hl]
theorem lastS_now (h : (lastS m).down = false) : (lastS m).now = m.now := by
 unfold lastS at h ⊢
 split at h
 ·cases h
 ·rename_i hb; rw [if_neg hb]; rfl
theorem form_ne (t : List UInt8) : form t ≠ [] := fun h => by
 have := form_pos t
 rw [h] at this
 simp at this
theorem OKm.opens (h : OKm C m) : OKm C (openS m).2.2 := by
 unfold openS
 split
 ·split
  ·split
   ·exact h.sync.trunc
   ·exact h.sync.trunc
  ·exact h.sync
 ·exact h.sync
theorem opens_len (h : OKm C m) {l : List (List UInt8)} {e : Int} {m' : SM} (ho : openS m = (some l, e, m')) : (forms l).length ≤ 2097152 := by
 have h1 := h.sync.now
 have h2 := forms_le (syncS m).2.now
 unfold openS at ho
 split at ho
 ·split at ho
  ·split at ho
   ·cases ho; omega
   ·cases ho
  ·cases ho; omega
 ·cases ho
theorem c_Open_no {e : Int} {m' : SM} (h : CR F Q S m) (hm : OKm C m) (hC : C ≤ 1000000) (ho : openS m = (none, e, m')) :
  ∃ F' Q' S', s_journal_Open_1 F Q S m.lost m.down m.armed m.keep 3 = some (e, m'.lost, m'.down, m'.armed, m'.keep, F', Q', S') ∧ CR F' Q' S' m' := by
 obtain ⟨F1, Q1, S1, h1, h2⟩ := c_Sync h hm hC
 have hm1 := hm.sync
 have hnl := hm1.now
 unfold s_journal_Open_1
 rw [show (bif (decide ((3 : Int) < 0)) then some true else some (decide ((3 : Int) > 15))) = some false from rfl, Option.bind_some, cond_false, h1, Option.bind_some]
 dsimp only
 unfold openS at ho
 by_cases h0 : (syncS m).1 = 0
 ·rw [if_pos h0] at ho
  have hup := sync_up h0
  simp only [h0, decide_true, Bool.not_true, cond_false]
  unfold s_disk_Disk_Size
  rw [h2.f.find, Option.bind_some, hup, c_Read h2 (Nat.le_refl _), Option.bind_some]
  simp only [decide_true, Bool.not_true, cond_false]
  have hle := forms_le (syncS m).2.now
  rw [read_spec (by omega) (parse_spec _), Option.bind_some]
  dsimp only
  split at ho
  ·rename_i hlt
   obtain ⟨F2, Q2, S2, h3, h4⟩ := c_Trunc (k := (forms (parse (syncS m).2.now)).length) h2 hm1 hC (fun hd => by rw [lastS_now hd]; exact hle)
   split at ho
   ·cases ho
   ·rename_i ht
    cases ho
    refine ⟨F2, Q2, S2, ?_, h4⟩
    have : (((forms (parse (syncS m).2.now)).length : Nat) : Int) < (((syncS m).2.now.length : Nat) : Int) := by omega
    simp only [this, decide_true, cond_true]
    rw [hup] at h3
    rw [h3, Option.bind_some]
    simp only [ht, decide_false, Bool.not_false, cond_true, Option.bind_some, sumC]
  ·cases ho
 ·rw [if_neg h0] at ho
  cases ho
  refine ⟨F1, Q1, S1, ?_, h2⟩
  simp only [h0, decide_false, Bool.not_false, cond_true]
theorem c_Open_yes {l : List (List UInt8)} {e : Int} {m' : SM} (h : CR F Q S m) (hm : OKm C m) (hC : C ≤ 1000000) (ho : openS m = (some l, e, m')) :
  e = 0 ∧ s_journal_Open_1 F Q S m.lost m.down m.armed m.keep 3 = none ∧ ∃ F' Q' S', s_journal_Open_2 F Q S m.lost m.down m.armed m.keep 3 = some (0, m'.lost, m'.down, m'.armed, m'.keep, F', 3, (((forms l).length : Nat) : Int), false, Q', S', l) ∧ CR F' Q' S' m' := by
 obtain ⟨F1, Q1, S1, h1, h2⟩ := c_Sync h hm hC
 have hm1 := hm.sync
 have hnl := hm1.now
 unfold s_journal_Open_1 s_journal_Open_2
 rw [show (bif (decide ((3 : Int) < 0)) then some true else some (decide ((3 : Int) > 15))) = some false from rfl, Option.bind_some, Option.bind_some, cond_false, cond_false, h1, Option.bind_some, Option.bind_some]
 dsimp only
 unfold openS at ho
 by_cases h0 : (syncS m).1 = 0
 ·rw [if_pos h0] at ho
  have hup := sync_up h0
  simp only [h0, decide_true, Bool.not_true, cond_false]
  unfold s_disk_Disk_Size
  rw [h2.f.find, Option.bind_some, Option.bind_some, hup, c_Read h2 (Nat.le_refl _), Option.bind_some, Option.bind_some]
  simp only [decide_true, Bool.not_true, cond_false]
  have hle := forms_le (syncS m).2.now
  rw [read_spec (by omega) (parse_spec _), Option.bind_some, Option.bind_some]
  dsimp only
  split at ho
  ·rename_i hlt
   obtain ⟨F2, Q2, S2, h3, h4⟩ := c_Trunc (k := (forms (parse (syncS m).2.now)).length) h2 hm1 hC (fun hd => by rw [lastS_now hd]; exact hle)
   split at ho
   ·rename_i ht
    cases ho
    have : (((forms (parse (syncS m).2.now)).length : Nat) : Int) < (((syncS m).2.now.length : Nat) : Int) := by omega
    simp only [this, decide_true, cond_true]
    rw [hup] at h3
    rw [h3, Option.bind_some, Option.bind_some]
    simp only [ht, decide_true, Bool.not_true, cond_false, Option.bind_some, sumC]
    exact ⟨trivial, trivial, F2, Q2, S2, rfl, h4⟩
   ·cases ho
  ·rename_i hlt
   cases ho
   have : ¬ (((forms (parse (syncS m).2.now)).length : Nat) : Int) < (((syncS m).2.now.length : Nat) : Int) := by omega
   simp only [this, decide_false, cond_false, Option.bind_some, sumC]
   exact ⟨trivial, trivial, F1, Q1, S1, by rw [hup], h2⟩
 ·rw [if_neg h0] at ho
  cases ho
theorem c_Append {recs : List (List UInt8)} {bad : Bool} {r : List UInt8} (h : CR F Q S m) (hm : OKm C m) (hC : C + 300 ≤ 1000000) (hr : r.length ≤ 200) (hf : (forms recs).length ≤ 2097152) :
  ∃ F' Q' S', s_journal_Journal_Append F Q S m.lost m.down m.armed m.keep 3 recs (((forms recs).length : Nat) : Int) bad r = some ((appendS m recs bad r).1, (((forms (appendS m recs bad r).2.2.1).length : Nat) : Int), (appendS m recs bad r).2.2.2, (appendS m recs bad r).2.1.lost, (appendS m recs bad r).2.1.down, (appendS m recs bad r).2.1.armed, (appendS m recs bad r).2.1.keep, F', (appendS m recs bad r).2.2.1, Q', S') ∧ CR F' Q' S' (appendS m recs bad r).2.1 := by
 have hfl := form_len r (by omega)
 unfold s_journal_Journal_Append
 rw [form_spec (by omega), Option.bind_some]
 unfold appendS
 cases bad with
 | true => exact ⟨F, Q, S, rfl, h⟩
 | false =>
  simp only [cond_false, Bool.false_eq_true, if_false]
  have e1 : ¬ (((r.length : Nat) : Int) > 20000) := by omega
  have e1' : ¬ (r.length > 20000) := by omega
  simp only [e1, e1', decide_false, cond_false, if_false]
  rw [w64_id (by omega) (by omega)]
  by_cases hfull : (forms recs).length + (form r).length > 1048576
  ·have : (((forms recs).length : Nat) : Int) + (((form r).length : Nat) : Int) > 1048576 := by omega
   simp only [this, hfull, decide_true, cond_true, if_true]
   exact ⟨F, Q, S, rfl, h⟩
  ·have : ¬ ((((forms recs).length : Nat) : Int) + (((form r).length : Nat) : Int) > 1048576) := by omega
   simp only [this, hfull, decide_false, cond_false, if_false]
   obtain ⟨F', Q', S', h1, h2⟩ := c_Write (k := (forms recs).length) (s := form r) h hm (by omega) (form_ne r) (by omega)
   rw [h1, Option.bind_some]
   dsimp only
   by_cases hw : (writeS m (forms recs).length (form r)).1 = 0
   ·rw [if_pos hw]
    refine ⟨F', Q', S', ?_, h2⟩
    simp only [hw, decide_true, Bool.not_true, cond_false]
    have hfl2 := forms_length recs
    rw [grd_ofI (by simp only [List.length_append, List.length_singleton]; omega), Option.bind_some]
    have : ((((forms (recs ++ [r])).length : Nat) : Int)) = (((forms recs).length : Nat) : Int) + (((form r).length : Nat) : Int) := by
     rw [forms_append, forms_one, List.length_append]; omega
    rw [this]
   ·rw [if_neg hw]
    refine ⟨F', Q', S', ?_, h2⟩
    simp only [hw, decide_false, Bool.not_false, cond_true]
theorem c_JSync {recs : List (List UInt8)} {by_ : Int} {bad : Bool} (h : CR F Q S m) (hm : OKm C m) (hC : C ≤ 1000000) :
  ∃ F' Q' S', s_journal_Journal_Sync F Q S m.lost m.down m.armed m.keep 3 recs by_ bad = some ((syncJ m bad).1, (syncJ m bad).2.2, (syncJ m bad).2.1.lost, (syncJ m bad).2.1.down, (syncJ m bad).2.1.armed, (syncJ m bad).2.1.keep, F', Q', S') ∧ CR F' Q' S' (syncJ m bad).2.1 := by
 unfold s_journal_Journal_Sync syncJ
 cases bad with
 | true => exact ⟨F, Q, S, rfl, h⟩
 | false =>
  obtain ⟨F', Q', S', h1, h2⟩ := c_Sync h hm hC
  simp only [cond_false, Bool.false_eq_true, if_false]
  exact ⟨F', Q', S', by rw [h1]; rfl, h2⟩
theorem c_All {recs : List (List UInt8)} {by_ : Int} {f : Int} {bad : Bool} (hl : recs.length ≤ 1099511627776) : s_journal_Journal_All F Q S lost down a keep f recs by_ bad = some recs := by
 unfold s_journal_Journal_All
 rw [grd_ofI (by omega), Option.bind_some, grd_ofI (by omega), Option.bind_some]
 congr 1
 simp only [Int.toNat_natCast, List.length_replicate, Nat.min_self, List.take_length]
 rw [cpyT_eq (by simp)]
 simp [cpy]
theorem c_Arm {n : Int} {k : List Int} (hk : k.length ≤ 1099511627776) : s_disk_Disk_Arm F Q S lost down a keep n k = some (max n 0, k) := by
 unfold s_disk_Disk_Arm e_clone s_slices_Clone
 by_cases h : k.length = 0
 ·have : k = [] := List.length_eq_zero_iff.1 h
  subst this
  rfl
 ·rw [show nd (k.length = 0) (some ([] : List Int)) ((grd (k.length * 8 ≤ 140737488355328)).bind fun _ => some k) = some k by
   unfold nd
   rw [grd_ofI (by omega), Option.bind_some]
   simp [h]]
  rfl
end Go.Proofs.YtoflckochjijcaaGreatDoor.E
