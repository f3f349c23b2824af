/- The calls of the journal, in plain Lean. -/
import Derived.Test.YtoflckochjijcaaDoorP
set_option linter.all false
set_option maxRecDepth 100000
namespace Go.Proofs.YtoflckochjijcaaDoor
open Go Go.RowKit Go.Eng Go.EV Go.Lib
variable [Fuel]
theorem forms_le {x : List UInt8} {l : List (List UInt8)} (h : Parsed x l) : (forms l).length ≤ x.length ∧ x.take (forms l).length = forms l ∧ (x.length ≤ (forms l).length → x = forms l) := by
 obtain ⟨_, v, rfl, _⟩ := h
 refine ⟨by simp, by simp, fun hv => ?_⟩
 have : v = [] := List.eq_nil_of_length_eq_zero (by simp only [List.length_append] at hv; omega)
 subst this; simp
section
variable {F : List (Int × disk_file)} {Q : List disk_sector} {S : List (disk_sector × Bool)} {lost a f : Int} {keep : List Int} {js : List Jrn} {n B : Nat}
theorem file_ok (h : 0 ≤ f ∧ f < 16) : (bif (decide (f < 0)) then some true else some (decide (f > 15))) = some false := by
 rw [show decide (f < 0) = false by simp; omega, cond_false, show decide (f > 15) = false by simp; omega]
theorem fl_self (f : Int) (v : disk_file) (F : List (Int × disk_file)) : fl (mset f v F) f = v := by rw [fl_mset, if_pos rfl]
theorem open_p1 {x : List UInt8} {l : List (List UInt8)} (h : 0 ≤ f ∧ f < 16) (hjs : js.length < 400000) (ha0 : 0 ≤ a) (ha : a ≤ 9223372036854775807) (he : a ≠ 1) (hq : QOK n Q) (hn : n ≤ 549755813888) (hS : (S.map (·.1)).Nodup) (hx : (fl F f).now = x) (hxl : x.length ≤ 549755813888) (hl : Parsed x l) (hfull : x = forms l) :
  ∃ q' st', k_open ⟨⟨F, Q, S, 0, false, a, keep⟩, js⟩ f = some ((js.length + 1, 0), ⟨⟨mset f ⟨x, x⟩ F, q', st', 0, false, dec1 a, keep⟩, js ++ [⟨f, l, (x.length : Int), false⟩]⟩) ∧ QOK n q' ∧ (st'.map (·.1)).Nodup := by
 obtain ⟨h1, q', st', h2, h3, h4⟩ := Sync_ok (F := F) (keep := keep) ha0 ha he h hq hn hS
 rw [hx] at h2
 refine ⟨q', st', ?_, h3, h4⟩
 have hr := read_spec (by omega) hl
 rw [← hfull] at hr
 have hfx : (fl (mset f ⟨x, x⟩ F) f).now = x := by rw [fl_self]
 have r1 := read_all (Q := q') (S := st') (lost := 0) (a := dec1 a) (keep := keep) (n := x.length) h hfx (Nat.le_refl _)
 have hd : decide ((x.length : Int) < (x.length : Int)) = false := by simp
 have e1 : s_journal_Open_n F Q S 0 false a keep f = none := by
  simp only [s_journal_Open_n, file_ok h, Option.bind_some, cond_false, h1, h2, orO, size_is, hfx, r1, decide_true, Bool.not_true, hr, hd]
 have e2 : s_journal_Open_x0 F Q S 0 false a keep f = none := by
  simp only [s_journal_Open_x0, file_ok h, Option.bind_some, cond_false, h1, h2, orO, size_is, hfx, r1, decide_true, Bool.not_true, hr, hd]
 have e3 : s_journal_Open_x1 F Q S 0 false a keep f = none := by
  simp only [s_journal_Open_x1, file_ok h, Option.bind_some, cond_false, h1, h2, orO, size_is, hfx, r1, decide_true, Bool.not_true, hr, hd]
 have e4 : s_journal_Open_p1 F Q S 0 false a keep f = some (f, (x.length : Int), 0, false, dec1 a, keep, mset f ⟨x, x⟩ F, q', st', l) := by
  simp only [s_journal_Open_p1, file_ok h, Option.bind_some, cond_false, h1, h2, orO, size_is, hfx, r1, decide_true, Bool.not_true, hr, hd]
 simp only [k_open, grd_of hjs, Option.bind_some, e1, e2, e3, e4, orO]
theorem open_p2 {x : List UInt8} {l : List (List UInt8)} (h : 0 ≤ f ∧ f < 16) (hjs : js.length < 400000) (ha0 : 0 ≤ a) (ha : a ≤ 9223372036854775807) (he : a ≠ 1) (he2 : a ≠ 2) (hq : QOK n Q) (hn : n ≤ 549755813888) (hS : (S.map (·.1)).Nodup) (hx : (fl F f).now = x) (hxl : x.length ≤ 549755813888) (hl : Parsed x l) (hless : (forms l).length < x.length) :
  ∃ q' st', k_open ⟨⟨F, Q, S, 0, false, a, keep⟩, js⟩ f = some ((js.length + 1, 0), ⟨⟨mset f ⟨forms l, forms l⟩ (mset f ⟨x, x⟩ F), q', st', 0, false, dec1 (dec1 a), keep⟩, js ++ [⟨f, l, ((forms l).length : Int), false⟩]⟩) ∧ QOK n q' ∧ (st'.map (·.1)).Nodup := by
 obtain ⟨h1, q1, st1, h2, h3, h4⟩ := Sync_ok (F := F) (keep := keep) ha0 ha he h hq hn hS
 rw [hx] at h2
 have hr := read_spec (by omega) hl
 have hfx : (fl (mset f ⟨x, x⟩ F) f).now = x := by rw [fl_self]
 have r1 := read_all (Q := q1) (S := st1) (lost := 0) (a := dec1 a) (keep := keep) (n := x.length) h hfx (Nat.le_refl _)
 have hd : decide (((forms l).length : Int) < (x.length : Int)) = true := by simp; omega
 have hda := dec1_ok ha0 ha
 obtain ⟨t1, q', st', t2, t3, t4⟩ := Trunc_ok (F := mset f ⟨x, x⟩ F) (lost := 0) (a := dec1 a) (keep := keep) (k := (forms l).length) hda.1 hda.2 (by unfold dec1; split <;> omega) h h3 hn h4 (by rw [hfx]; omega)
 rw [hfx, (forms_le hl).2.1] at t2
 refine ⟨q', st', ?_, t3, t4⟩
 have e1 : s_journal_Open_n F Q S 0 false a keep f = none := by
  simp only [s_journal_Open_n, file_ok h, Option.bind_some, cond_false, h1, h2, orO, size_is, hfx, r1, decide_true, Bool.not_true, hr, hd, cond_true, t1, t2]
 have e2 : s_journal_Open_x0 F Q S 0 false a keep f = none := by
  simp only [s_journal_Open_x0, file_ok h, Option.bind_some, cond_false, h1, h2, orO, size_is, hfx, r1, decide_true, Bool.not_true, hr, hd, cond_true, t1, t2]
 have e3 : s_journal_Open_x1 F Q S 0 false a keep f = none := by
  simp only [s_journal_Open_x1, file_ok h, Option.bind_some, cond_false, h1, h2, orO, size_is, hfx, r1, decide_true, Bool.not_true, hr, hd, cond_true, t1, t2]
 have e4 : s_journal_Open_p1 F Q S 0 false a keep f = none := by
  simp only [s_journal_Open_p1, file_ok h, Option.bind_some, cond_false, h1, h2, orO, size_is, hfx, r1, decide_true, Bool.not_true, hr, hd, cond_true, t1, t2]
 have e5 : s_journal_Open_p2 F Q S 0 false a keep f = some (f, ((forms l).length : Int), st', q', mset f ⟨forms l, forms l⟩ (mset f ⟨x, x⟩ F), 0, false, dec1 (dec1 a), keep, l) := by
  simp only [s_journal_Open_p2, file_ok h, Option.bind_some, cond_false, h1, h2, orO, size_is, hfx, r1, decide_true, Bool.not_true, hr, hd, cond_true, t1, t2]
 simp only [k_open, grd_of hjs, Option.bind_some, e1, e2, e3, e4, e5, orO]
theorem set_self {α : Type} : ∀ {l : List α} {i : Nat} {x : α}, l[i]? = some x → l.set i x = l
 | [], i, x, h => by simp at h
 | y :: l, 0, x, h => by simp at h; subst h; rfl
 | y :: l, i + 1, x, h => by simp [set_self (l := l) (i := i) (by simpa using h)]
section
variable {jn : Nat} {j : Jrn} {r : List UInt8}
theorem append_long {W : Wd} (hjs : W.js.length < 400000) (h0 : jn ≠ 0) (hj : W.js[jn - 1]? = some j) (hb : j.broken = false) (hr : r.length ≤ 1099511627776) (hl : 20000 < r.length) : k_append W jn r = some (3, W) := by
 have e : s_journal_Journal_Append_n W.d.files W.d.queue W.d.dset W.d.lost W.d.down W.d.armed W.d.keep j.file j.recs j.bytes j.broken r = some (3, j.file, j.bytes, j.broken, W.d.lost, W.d.down, W.d.armed, W.d.keep, W.d.files, W.d.queue, W.d.dset, j.recs) := by
  simp only [s_journal_Journal_Append_n, form_spec hr, Option.bind_some, hb, cond_false, show decide ((r.length : Int) > 20000) = true by simp; omega, cond_true]
 simp only [k_append, grd_of hjs, grd_of h0, Option.bind_some, hj, e, orO]
 rw [set_self hj]
theorem all_spec {W : Wd} (hjs : W.js.length < 400000) (h0 : jn ≠ 0) (hj : W.js[jn - 1]? = some j) (hl : j.recs.length ≤ 1099511627776) : k_all W jn = some (j.recs, W) := by
 have e : s_journal_Journal_All W.d.files W.d.queue W.d.dset W.d.lost W.d.down W.d.armed W.d.keep j.file j.recs j.bytes j.broken = some (j.recs, j.file, j.bytes, j.broken, W.d.lost, W.d.down, W.d.armed, W.d.keep) := by
  unfold s_journal_Journal_All
  refine Option.bind_eq_some_iff.2 ⟨(), grd_ofI (by omega), ?_⟩
  simp only [Int.toNat_natCast, List.length_replicate, Nat.min_self, List.take_length]
  rw [cpyT_eq (by simp), cpy]
  simp
 simp only [k_all, grd_of hjs, grd_of h0, Option.bind_some, hj, e]
 rw [set_self hj]
theorem len_spec {W : Wd} (hjs : W.js.length < 400000) (h0 : jn ≠ 0) (hj : W.js[jn - 1]? = some j) : k_len W jn = some ((j.recs.length : Int), W) := by
 have e : s_journal_Journal_Len W.d.files W.d.queue W.d.dset W.d.lost W.d.down W.d.armed W.d.keep j.file j.recs j.bytes j.broken = some ((j.recs.length : Int), j.file, j.bytes, j.broken, W.d.lost, W.d.down, W.d.armed, W.d.keep) := rfl
 simp only [k_len, grd_of hjs, grd_of h0, Option.bind_some, hj, e]
 rw [set_self hj]
theorem get_spec {W : Wd} {i : Int} (hjs : W.js.length < 400000) (h0 : jn ≠ 0) (hj : W.js[jn - 1]? = some j) (hl : j.recs.length ≤ 1099511627776) : k_get W jn i = some (if 0 ≤ i then (j.recs[i.toNat]?).getD [] else [], W) := by
 have e : s_journal_Journal_Get W.d.files W.d.queue W.d.dset W.d.lost W.d.down W.d.armed W.d.keep j.file j.recs j.bytes j.broken i = some (if 0 ≤ i then (j.recs[i.toNat]?).getD [] else [], j.file, j.bytes, j.broken, W.d.lost, W.d.down, W.d.armed, W.d.keep) := by
  unfold s_journal_Journal_Get
  by_cases h1 : i < 0
  ·simp only [show decide (i < 0) = true by simp [h1], cond_true, Option.bind_some, if_neg (show ¬ 0 ≤ i by omega)]
  ·simp only [show decide (i < 0) = false by simp; omega, cond_false, Option.bind_some, if_pos (show 0 ≤ i by omega)]
   by_cases h2 : i < (j.recs.length : Int)
   ·simp only [show decide (i ≥ (j.recs.length : Int)) = false by simp; omega, cond_false]
    rw [grd_ofI (by omega)]
    rfl
   ·simp only [show decide (i ≥ (j.recs.length : Int)) = true by simp; omega, cond_true]
    rw [List.getElem?_eq_none (by omega)]
    rfl
 simp only [k_get, grd_of hjs, grd_of h0, Option.bind_some, hj, e]
 rw [set_self hj]
theorem form_ne (t : List UInt8) : form t ≠ [] := fun h => by have := form_pos t; rw [h] at this; simp at this
theorem append_ok {jf : Int} {recs : List (List UInt8)} {x : List UInt8} (hjs : js.length < 400000) (h0 : jn ≠ 0) (hj : js[jn - 1]? = some ⟨jf, recs, (x.length : Int), false⟩) (hr : r.length ≤ 20000) (hb : x.length + (form r).length ≤ 1048576) (hrec : recs.length ≤ 1099511627776)
  (ha0 : 0 ≤ a) (ha : a ≤ 9223372036854775807) (he : a ≠ 1) (h : 0 ≤ jf ∧ jf < 16) (hx : (fl F jf).now = x) (hq : QOK n Q) (hS : (S.map (·.1)).Nodup) (hn : n ≤ 549755813888) :
  ∃ q' st', k_append ⟨⟨F, Q, S, lost, false, a, keep⟩, js⟩ jn r = some (0, ⟨⟨mset jf ⟨x ++ form r, (fl F jf).last⟩ F, q', st', lost, false, dec1 a, keep⟩, js.set (jn - 1) ⟨jf, recs ++ [r], ((x ++ form r).length : Int), false⟩⟩) ∧ QOK (n + (form r).length + 2) q' ∧ (st'.map (·.1)).Nodup := by
 obtain ⟨q', st', h1, h2, h3⟩ := Write_ok (lost := lost) (keep := keep) ha0 ha he h hx (form_ne r) (by omega) hq hS hn
 refine ⟨q', st', ?_, h2, h3⟩
 have e : s_journal_Journal_Append_n F Q S lost false a keep jf recs (x.length : Int) false r = some (0, jf, ((x ++ form r).length : Int), false, lost, false, dec1 a, keep, mset jf ⟨x ++ form r, (fl F jf).last⟩ F, q', st', recs ++ [r]) := by
  simp only [s_journal_Journal_Append_n, form_spec (show r.length ≤ 1099511627776 by omega), Option.bind_some, cond_false, show decide ((r.length : Int) > 20000) = false by simp; omega]
  rw [w64_id (n := (x.length : Int) + ((form r).length : Int)) (by omega) (by omega)]
  simp only [show decide ((x.length : Int) + ((form r).length : Int) > 1048576) = false by simp; omega, cond_false, h1, orO, decide_true, Bool.not_true]
  have hrl : (recs ++ [r]).length = recs.length + 1 := by simp
  refine Option.bind_eq_some_iff.2 ⟨(), grd_ofI (by omega), ?_⟩
  simp
 simp only [k_append, grd_of hjs, grd_of h0, Option.bind_some, hj, e, orO]
end
/- calls of the disk -/
theorem ksize_spec {W : Wd} {f : Int} (hjs : W.js.length < 400000) : k_size W f = some (((fl W.d.files f).now.length : Int), W) := by
 simp only [k_size, grd_of hjs, Option.bind_some, size_is]
theorem kread_spec {s : List UInt8} {m : Nat} (hjs : js.length < 400000) (h : 0 ≤ f ∧ f < 16) (hs : (fl F f).now = s) (hm : s.length ≤ m) : k_read ⟨⟨F, Q, S, lost, false, a, keep⟩, js⟩ f 0 (m : Int) = some ((s, 0), ⟨⟨F, Q, S, lost, false, a, keep⟩, js⟩) := by
 simp only [k_read, grd_of hjs, Option.bind_some, read_all h hs hm]
theorem kwrite_spec {s x : List UInt8} (hjs : js.length < 400000) (ha0 : 0 ≤ a) (ha : a ≤ 9223372036854775807) (he : a ≠ 1) (h : 0 ≤ f ∧ f < 16) (hx : (fl F f).now = x) (hs0 : s ≠ []) (hl : x.length + s.length ≤ 16777216) (hq : QOK n Q) (hS : (S.map (·.1)).Nodup) (hn : n ≤ 549755813888) :
  ∃ q' st', k_write ⟨⟨F, Q, S, lost, false, a, keep⟩, js⟩ f (x.length : Int) s = some (0, ⟨⟨mset f ⟨x ++ s, (fl F f).last⟩ F, q', st', lost, false, dec1 a, keep⟩, js⟩) ∧ QOK (n + s.length + 2) q' ∧ (st'.map (·.1)).Nodup := by
 obtain ⟨q', st', h1, h2, h3⟩ := Write_ok (lost := lost) (keep := keep) ha0 ha he h hx hs0 hl hq hS hn
 refine ⟨q', st', ?_, h2, h3⟩
 simp only [k_write, grd_of hjs, Option.bind_some, h1, orO]
end
end Go.Proofs.YtoflckochjijcaaDoor
