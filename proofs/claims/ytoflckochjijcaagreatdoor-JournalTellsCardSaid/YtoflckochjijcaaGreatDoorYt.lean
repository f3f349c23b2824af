/- The code's disk and journal do what the plain ones do. -/
import Derived.Test.YtoflckochjijcaaGreatDoorYs
set_option linter.all false
set_option maxRecDepth 100000
namespace Go.Proofs.YtoflckochjijcaaGreatDoor.E
open Go Go.RowKit Go.Eng Go.EV Go.EQ Go.Lib
variable [Fuel]
variable {F : List (Int × disk_file)} {Q : List disk_sector} {S : List (disk_sector × Bool)} {lost a : Int} {down : Bool} {keep : List Int} {m : SM} {C : Nat}
def lastS (m : SM) : SM := if endB m = true then crashS (comeS m) m.keep else comeS m
def syncS (m : SM) : Int × SM := if (lastS m).down = true then (8, lastS m) else if (lastS m).lost > 0 then (9, { lastS m with lost := (lastS m).lost - 1 }) else (0, { lastS m with last := (lastS m).now, q := [] })
def truncS (m : SM) (k : Nat) : Int × SM := if (lastS m).down = true then (8, lastS m) else (0, { lastS m with now := (lastS m).now.take k, last := (lastS m).now.take k, q := [] })
def writeS (m : SM) (a : Nat) (s : List UInt8) : Int × SM := if endB m = true then (8, crashS (addS (comeS m) a s) m.keep) else if m.down = true then (8, comeS m) else (0, addS (comeS m) a s)
theorem CR.come (h : CR F Q S m) : CR F Q S (comeS m) := ⟨h.f, h.q, h.s⟩
theorem endB_up (h : endB m = true) : m.down = false := by
 unfold endB at h
 cases hd : m.down with
 | false => rfl
 | true => rw [hd] at h; cases h
theorem OKm.lastS (h : OKm C m) : OKm C (lastS m) := by
 unfold E.lastS
 split
 ·exact h.come.crash
 ·exact h.come
theorem OKm.sync (h : OKm C m) : OKm C (syncS m).2 := by
 have h1 := h.lastS
 unfold syncS
 split
 ·exact h1
 ·split
  ·rename_i hl
   have := h1.lost
   exact ⟨h1.now, h1.last, h1.ql, h1.qn, (show 0 ≤ (E.lastS m).lost - 1 ∧ (E.lastS m).lost - 1 ≤ 9223372036854775807 by omega), h1.armed, h1.keep⟩
  ·exact ⟨h1.now, h1.now, Nat.zero_le _, (fun _ h => by cases h), h1.lost, h1.armed, h1.keep⟩
theorem OKm.trunc {k : Nat} (h : OKm C m) : OKm C (truncS m k).2 := by
 have h1 := h.lastS
 have := h1.now
 unfold truncS
 split
 ·exact h1
 ·exact ⟨by simp only [List.length_take]; omega, by simp only [List.length_take]; omega, Nat.zero_le _, (fun _ h => by cases h), h1.lost, h1.armed, h1.keep⟩
theorem OKm.write {k : Nat} {s : List UInt8} (h : OKm C m) (ha : k + s.length ≤ 2097152) (hs : s ≠ []) : OKm (C + s.length + 2) (writeS m k s).2 := by
 unfold writeS
 split
 ·exact (h.come.add ha hs).crash
 ·split
  ·exact h.come.mono (by omega)
  ·exact h.come.add ha hs
theorem c_last (h : CR F Q S m) (hm : OKm C m) (hC : C ≤ 1000000) : ∃ F' Q' S', ((s_disk_Disk_ends F Q S m.lost m.down m.armed m.keep).bind fun x2 => (bif x2.1 then (orC (e_disk_crash_n F Q S m.lost m.down x2.2 m.keep m.keep) (fun x4 => some (x4.1, x4.2.1, x4.2.2.1, x4.2.2.2, F, Q, S)) (orC (e_disk_crash_x F Q S m.lost m.down x2.2 m.keep m.keep) (fun x3 => some (x3.2.2.1, x3.2.2.2.1, x3.2.2.2.2.1, x3.2.2.2.2.2, x3.2.1, ([] : List disk_sector), x3.1)) none)) else some (m.lost, m.down, x2.2, m.keep, F, Q, S))) = some ((lastS m).lost, (lastS m).down, (lastS m).armed, (lastS m).keep, F', Q', S') ∧ CR F' Q' S' (lastS m) := by
 rw [c_ends hm, Option.bind_some]
 unfold lastS
 cases he : endB m with
 | true =>
  obtain ⟨F', h1, h2⟩ := c_crash (lost := m.lost) (a := (comeS m).armed) (k0 := m.keep) (keep := m.keep) h.come hm.come hC hm.keep
  have hd := endB_up he
  refine ⟨F', [], [], ?_, h2⟩
  simp only [cond_true, hd]
  rw [c_crash_n, h1]
  rfl
 | false => exact ⟨F, Q, S, rfl, h.come⟩
theorem c_Sync (h : CR F Q S m) (hm : OKm C m) (hC : C ≤ 1000000) : ∃ F' Q' S', s_disk_Disk_Sync F Q S m.lost m.down m.armed m.keep 3 = some ((syncS m).1, (syncS m).2.lost, (syncS m).2.down, (syncS m).2.armed, (syncS m).2.keep, F', Q', S') ∧ CR F' Q' S' (syncS m).2 := by
 obtain ⟨F', Q', S', h1, h2⟩ := c_last h hm hC
 have hm2 := hm.lastS
 have hl := hm2.lost
 unfold s_disk_Disk_Sync
 rw [h1, Option.bind_some]
 dsimp only
 rw [c_may, Option.bind_some]
 unfold syncS
 cases hd : (lastS m).down with
 | true =>
  refine ⟨F', Q', S', ?_, by simpa using h2⟩
  simp [hd]
 | false =>
  simp only [cond_false, decide_true, Bool.not_true, Bool.false_eq_true, if_false]
  by_cases hl0 : (lastS m).lost > 0
  ·refine ⟨F', Q', S', ?_, by rw [if_pos hl0]; exact ⟨h2.f, h2.q, h2.s⟩⟩
   simp only [hl0, decide_true, cond_true, if_true]
   rw [w64_id (by omega) (by omega), hd]
  ·obtain ⟨S2, h3, h4⟩ := c_settle (lost := (lastS m).lost) (down := false) (a := (lastS m).armed) (keep := (lastS m).keep) (s := (lastS m).now) h2 hm2 hC
   refine ⟨[(3, ⟨(lastS m).now, (lastS m).now⟩)], [], S2, ?_, by rw [if_neg hl0]; exact ⟨.inl rfl, rfl, h4⟩⟩
   simp only [hl0, decide_false, cond_false, if_false]
   rw [h2.f.find, h3, Option.bind_some, hd]
theorem c_Trunc {k : Nat} (h : CR F Q S m) (hm : OKm C m) (hC : C ≤ 1000000) (hk : (lastS m).down = false → k ≤ (lastS m).now.length) : ∃ F' Q' S', s_disk_Disk_Truncate F Q S m.lost m.down m.armed m.keep 3 (k : Int) = some ((truncS m k).1, (truncS m k).2.lost, (truncS m k).2.down, (truncS m k).2.armed, (truncS m k).2.keep, F', Q', S') ∧ CR F' Q' S' (truncS m k).2 := by
 obtain ⟨F', Q', S', h1, h2⟩ := c_last h hm hC
 have hm2 := hm.lastS
 unfold s_disk_Disk_Truncate
 rw [h1, Option.bind_some]
 dsimp only
 rw [c_may, Option.bind_some]
 unfold truncS
 cases hd : (lastS m).down with
 | true =>
  refine ⟨F', Q', S', ?_, by simpa using h2⟩
  simp [hd]
 | false =>
  have hk := hk hd
  simp only [cond_false, decide_true, Bool.not_true, Bool.false_eq_true, if_false]
  obtain ⟨S2, h3, h4⟩ := c_settle (lost := (lastS m).lost) (down := false) (a := (lastS m).armed) (keep := (lastS m).keep) (s := (lastS m).now.take k) h2 hm2 hC
  refine ⟨[(3, ⟨(lastS m).now.take k, (lastS m).now.take k⟩)], [], S2, ?_, ⟨.inl rfl, rfl, h4⟩⟩
  have e1 : ¬ ((k : Int) < 0) := by omega
  simp only [e1, decide_false, cond_false]
  unfold s_disk_Disk_Size
  rw [h2.f.find, Option.bind_some]
  have e2 : ¬ ((k : Int) > (((lastS m).now.length : Nat) : Int)) := by omega
  simp only [e2, decide_false, Option.bind_some, cond_false]
  rw [cut_tk hk, Option.bind_some, h3, Option.bind_some, hd]
theorem c_Write {k : Nat} {s : List UInt8} (h : CR F Q S m) (hm : OKm C m) (hC : C + s.length + 2 ≤ 1000000) (hs : s ≠ []) (hl : k + s.length ≤ 2097152) : ∃ F' Q' S', s_disk_Disk_Write F Q S m.lost m.down m.armed m.keep 3 (k : Int) s = some ((writeS m k s).1, (writeS m k s).2.lost, (writeS m k s).2.down, (writeS m k s).2.armed, (writeS m k s).2.keep, F', Q', S') ∧ CR F' Q' S' (writeS m k s).2 := by
 unfold s_disk_Disk_Write
 rw [c_ends hm, Option.bind_some]
 dsimp only
 unfold writeS
 cases hd : m.down with
 | true =>
  have he : endB m = false := by simp [endB, hd]
  refine ⟨F, Q, S, ?_, by rw [he]; exact h.come⟩
  rw [show e_disk_write F Q S m.lost true (comeS m).armed m.keep 3 (k : Int) s = some (8, m.lost, true, (comeS m).armed, m.keep, F, Q, S) from rfl, Option.bind_some, he]
  simp [comeS, hd]
 | false =>
  obtain ⟨F1, Q1, S1, h1, h2⟩ := c_write (lost := m.lost) (a := (comeS m).armed) (keep := m.keep) h.come hm.come (by omega) hs hl
  rw [show e_disk_write F Q S m.lost false (comeS m).armed m.keep 3 (k : Int) s = _ from h1, Option.bind_some]
  cases he : endB m with
  | true =>
   obtain ⟨F', h3, h4⟩ := c_crash (lost := m.lost) (a := (comeS m).armed) (k0 := m.keep) (keep := m.keep) h2 (hm.come.add hl hs) hC hm.keep
   refine ⟨F', [], [], ?_, h4⟩
   simp only [cond_true]
   rw [c_crash_n, h3]
   rfl
  | false =>
   refine ⟨F1, Q1, S1, ?_, by simpa using h2⟩
   simp [addS, comeS, hd]
theorem c_Read {n : Nat} (h : CR F Q S m) (hn : m.now.length ≤ n) : s_disk_Disk_Read F Q S lost false a keep 3 0 (n : Int) = some (m.now, 0) := by
 unfold s_disk_Disk_Read
 rw [c_may, Option.bind_some, h.f.find]
 simp only [cond_false, decide_true, Bool.not_true, show decide ((0 : Int) < 0) = false from rfl]
 have e1 : ¬ ((n : Int) < 0) := by omega
 simp only [e1, decide_false, Option.bind_some, cond_false]
 have h1 : cut m.now (min 0 ((m.now.length : Nat) : Int)) ((m.now.length : Nat) : Int) = some m.now := by
  rw [show min (0 : Int) ((m.now.length : Nat) : Int) = ((0 : Nat) : Int) by omega, cut_dr (Nat.zero_le _)]; rfl
 have h2 : cut m.now 0 (min (n : Int) ((m.now.length : Nat) : Int)) = some m.now := by
  rw [show min (n : Int) ((m.now.length : Nat) : Int) = ((m.now.length : Nat) : Int) by omega, cut_tk (Nat.le_refl _), List.take_length]
 rw [h1, Option.bind_some, h2]
 rfl
end Go.Proofs.YtoflckochjijcaaGreatDoor.E
