/- The reference's disk does what the plain disk does, calls. -/
import Derived.Test.YtoflckochjijcaaGreatDoorYv
set_option linter.all false
set_option maxRecDepth 100000
namespace Go.Proofs.YtoflckochjijcaaGreatDoor.E
open Go Go.RowKit Go.Eng Go.EV Go.EQ Go.Lib
variable [Fuel]
variable {F : List greenbeltref02_File} {Q : List greenbeltref02_Sector} {lost a : Int} {down : Bool} {keep : List Int} {m : SM} {C : Nat} {now last : List UInt8}
theorem r_survive {n : Nat} (h : RF now last F) (hn : n ≤ 1000000) (h1 : now.length ≤ 2097152) (h2 : last.length ≤ 2097152) :
  s_greenbeltref02_Disk_survive F Q lost down a keep (rsec n) = some [⟨3, now, if n * 64 < now.length then putL last (n * 64) ((now.take (min (n * 64 + 64) now.length)).drop (n * 64)) else last⟩] := by
 unfold s_greenbeltref02_Disk_survive
 have hw : w64 (64 * (rsec n).N) = ((n * 64 : Nat) : Int) := by
  show w64 (64 * (n : Int)) = _
  rw [w64_id (by omega) (by omega)]; omega
 rw [show (rsec n).F = 3 from rfl, r_get h, Option.bind_some, hw]
 dsimp only
 by_cases hlt : n * 64 < now.length
 ·have e : ((n * 64 : Nat) : Int) < ((now.length : Nat) : Int) := by omega
  have hc : cut now ((n * 64 : Nat) : Int) (min (w64 (((n * 64 : Nat) : Int) + 64)) (now.length : Int)) = some ((now.take (min (n * 64 + 64) now.length)).drop (n * 64)) := by
   rw [w64_id (by omega) (by omega)]
   unfold cut
   rw [if_pos ⟨by omega, by omega, by omega⟩]
   congr 2
   congr 1
   omega
  have htl : ((now.take (min (n * 64 + 64) now.length)).drop (n * 64)).length = min (n * 64 + 64) now.length - n * 64 := by
   rw [List.length_drop, List.length_take]; omega
  simp only [e, decide_true, cond_true]
  rw [hc, Option.bind_some, r_put (by intro h; rw [h] at htl; simp at htl; omega) (by omega) (by omega), Option.bind_some, Option.bind_some, r_set h, Option.bind_some, if_pos hlt]
 ·have e : ¬ (((n * 64 : Nat) : Int) < ((now.length : Nat) : Int)) := by omega
  simp only [e, decide_false, cond_false, Option.bind_some]
  rw [r_set h, Option.bind_some, if_neg hlt]
theorem surv_nil : ∀ (q : List Nat) (i : Nat) (l : List UInt8), surv now [] i q l = l
 | [], _, _ => rfl
 | n :: r, i, l => by
  simp only [surv, show hit now [] i n = false from rfl, cond_false]
  exact surv_nil r (i + 1) l
theorem r_crash_L {q : List Nat} {k0 : List Int} (hk0 : keep ≠ []) (hk : keep.length ≤ 1099511627776) (hql : q.length ≤ 1000000) (hqn : ∀ n ∈ q, n ≤ 1000000) (hn : now.length ≤ 2097152) : ∀ (r : List Nat) (i fuel : Nat) (l : List UInt8) (F : List greenbeltref02_File), q.drop i = r → r.length < fuel → i ≤ q.length → l.length ≤ 2097152 → RF now l F →
  ∃ F', s_greenbeltref02_Disk_Crash_L1 keep (q.map rsec) fuel ((i : Int), F, lost, true, 0, k0) = some (F', lost, true, 0, k0) ∧ RF now (surv now keep i r l) F' := by
 intro r
 induction r with
 | nil =>
  intro i fuel l F hd hf hi hl h
  obtain ⟨f, rfl⟩ : ∃ f, fuel = f + 1 := ⟨fuel - 1, by omega⟩
  have hle : q.length ≤ i := by simpa using hd
  refine ⟨F, ?_, h⟩
  rw [s_greenbeltref02_Disk_Crash_L1]
  simp only [show decide ((i : Int) < ((q.map rsec).length : Int)) = false by simp; omega, cond_false, Option.bind_some]
 | cons n r ih =>
  intro i fuel l F hd hf hi hl h
  obtain ⟨f, rfl⟩ : ∃ f, fuel = f + 1 := ⟨fuel - 1, by omega⟩
  obtain ⟨h1, h2, h3⟩ := rsec_get hd
  have hnb : n ≤ 1000000 := hqn n (by
   have : n ∈ q.drop i := by rw [hd]; exact List.mem_cons_self ..
   exact List.mem_of_mem_drop this)
  have hp : 0 < keep.length := List.length_pos_iff.2 hk0
  have hm : Int.tmod (i : Int) (keep.length : Int) = ((i % keep.length : Nat) : Int) := by
   rw [Int.tmod_eq_emod_of_nonneg (by omega)]; rfl
  have e0 : ((keep.length : Nat) : Int) > 0 := by omega
  rw [s_greenbeltref02_Disk_Crash_L1]
  simp only [show decide ((i : Int) < ((q.map rsec).length : Int)) = true by simp; omega, cond_true, e0, decide_true, Option.bind_some, Int.toNat_natCast, h2, hm, idx_of (Nat.mod_lt i hp)]
  rw [grd_ofI (by omega), Option.bind_some, w64_id (n := (i : Int) + 1) (by omega) (by omega)]
  simp only [surv]
  rw [show IntKind.i64.wrap ((BitVec.ofInt IntKind.i64.bits (keep.getD (i % keep.length) default) &&& BitVec.ofInt IntKind.i64.bits 1).toNat : Int) = kb (keep.getD (i % keep.length) default) from rfl]
  have hk1 : decide (keep ≠ []) = true := by simpa using hk0
  rcases kb01 (keep.getD (i % keep.length) default) with e | e
  ·have hh : hit now keep i n = false := by rw [hit, e, hk1]; rfl
   rw [e, hh]
   simp only [show decide ((0 : Int) = 1) = false from rfl, cond_false, Option.bind_some]
   exact ih (i + 1) f l F h3 (by simp only [List.length_cons] at hf; omega) (by omega) hl h
  ·have hh : hit now keep i n = decide (n * 64 < now.length) := by rw [hit, e, hk1]; simp
   rw [e, hh]
   simp only [decide_true, cond_true]
   rw [grd_ofI (by simp only [List.length_map]; omega), Option.bind_some, r_survive h hnb hn hl, Option.bind_some, Option.bind_some]
   have hb : (bif decide (n * 64 < now.length) then putL l (n * 64) ((now.take (min (n * 64 + 64) now.length)).drop (n * 64)) else l) = if n * 64 < now.length then putL l (n * 64) ((now.take (min (n * 64 + 64) now.length)).drop (n * 64)) else l := by
    by_cases hx : n * 64 < now.length <;> simp [hx]
   rw [hb]
   refine ih (i + 1) f _ _ h3 (by simp only [List.length_cons] at hf; omega) (by omega) ?_ (.inl rfl)
   split
   ·exact putL_max hl (by simp only [List.length_drop, List.length_take]; omega)
   ·exact hl
theorem r_Crash {k0 : List Int} (h : RR F Q m) (hm : OKm C m) (hC : C ≤ 1000000) (hk : keep.length ≤ 1099511627776) :
  ∃ F', s_greenbeltref02_Disk_Crash F Q lost false a k0 keep = some (F', lost, true, 0, k0, []) ∧ RR F' [] (crashS m keep) := by
 have hql := hm.ql
 have hL : ∃ F', s_greenbeltref02_Disk_Crash_L1 keep Q KK (0, F, lost, true, 0, k0) = some (F', lost, true, 0, k0) ∧ RF m.now (surv m.now keep 0 m.q m.last) F' := by
  by_cases hk0 : keep = []
  ·subst hk0
   obtain ⟨k, hk⟩ := kk_succ
   refine ⟨F, ?_, by rw [surv_nil]; exact h.f⟩
   rw [hk, s_greenbeltref02_Disk_Crash_L1]
   cases decide (((0 : Int), F, lost, true, (0 : Int), k0).1 < ((Q.length : Nat) : Int)) <;> rfl
  ·rw [h.q]
   exact r_crash_L (q := m.q) hk0 hk (by omega) hm.qn hm.now m.q 0 KK m.last F rfl (kk_lt (by omega)) (Nat.zero_le _) hm.last h.f
 obtain ⟨F', h1, h2⟩ := hL
 unfold s_greenbeltref02_Disk_Crash
 rw [cond_false, h1, Option.bind_some]
 dsimp only
 obtain ⟨k, hk⟩ : ∃ k, KK = k + 2 := ⟨KK - 2, by have := kk_lt (n := 1) (by omega); omega⟩
 rcases h2 with rfl | ⟨rfl, hx, hy⟩
 ·refine ⟨[⟨3, surv m.now keep 0 m.q m.last, surv m.now keep 0 m.q m.last⟩], ?_, ⟨.inl rfl, rfl⟩⟩
  rw [hk, s_greenbeltref02_Disk_Crash_L2]
  simp only [List.length_singleton, show decide ((0 : Int) < ((1 : Nat) : Int)) = true from rfl, cond_true]
  rw [show idx [(⟨3, m.now, surv m.now keep 0 m.q m.last⟩ : greenbeltref02_File)] 0 = some ⟨3, m.now, surv m.now keep 0 m.q m.last⟩ from rfl, Option.bind_some, Option.bind_some, Option.bind_some, grd_ofI (by simp), Option.bind_some, s_greenbeltref02_Disk_Crash_L2]
  rfl
 ·refine ⟨[], ?_, ⟨.inr ⟨rfl, hy, hy⟩, rfl⟩⟩
  rw [hk, s_greenbeltref02_Disk_Crash_L2]
  rfl
theorem RR.come (h : RR F Q m) : RR F Q (comeS m) := ⟨h.f, h.q⟩
theorem r_comes (f : Int) (at_ : Int) (s : List UInt8) (m2 : SM) (hC : C ≤ 1000000) (hm2 : endB m = true → OKm C m2) (h : RR F Q m) (hm : OKm C m)
  (hx : endB m = true → ∃ F2 Q2, ((bif (decide (f ≥ 0)) then (bif (decide (f ≤ 15)) then (s_greenbeltref02_fits at_ s).bind fun x4 => some x4 else some false) else some false).bind fun x3 => (bif x3 then (s_greenbeltref02_Disk_add F Q m.lost false 0 m.keep f at_ s).bind fun x5 => some (x5.1, x5.2) else some (F, Q))) = some (F2, Q2) ∧ RR F2 Q2 m2) :
  ∃ F' Q', s_greenbeltref02_Disk_comes F Q m.lost m.down m.armed m.keep f at_ s = some (F', m.lost, (if endB m = true then true else m.down), (if endB m = true then 0 else (comeS m).armed), m.keep, Q') ∧ RR F' Q' (if endB m = true then crashS m2 m.keep else comeS m) := by
 have ha := hm.armed
 unfold s_greenbeltref02_Disk_comes
 cases hd : m.down with
 | true =>
  have he : endB m = false := by simp [endB, hd]
  refine ⟨F, Q, ?_, by rw [he]; exact h.come⟩
  simp [he, comeS, hd]
 | false =>
  simp only [cond_false, Option.bind_some]
  by_cases h0 : m.armed = 0
  ·have he : endB m = false := by simp [endB, h0]
   refine ⟨F, Q, ?_, by rw [he]; exact h.come⟩
   simp [he, comeS, h0]
  ·simp only [h0, decide_false, cond_false]
   rw [w64_id (by omega) (by omega)]
   by_cases h1 : m.armed = 1
   ·have he : endB m = true := by simp [endB, hd, h1]
    obtain ⟨F2, Q2, h2, h3⟩ := hx he
    have e1 : m.armed - 1 = 0 := by omega
    rw [e1]
    simp only [show decide ((0 : Int) > 0) = false from rfl, cond_false]
    rw [h2, Option.bind_some]
    obtain ⟨F', h4, h5⟩ := r_Crash (lost := m.lost) (a := 0) (k0 := m.keep) (keep := m.keep) h3 (hm2 he) hC hm.keep
    dsimp only
    rw [h4, Option.bind_some]
    refine ⟨F', [], ?_, by rw [he]; exact h5⟩
    simp [he]
   ·have he : endB m = false := by simp [endB, h1]
    have e1 : m.armed - 1 > 0 := by omega
    refine ⟨F, Q, ?_, by rw [he]; exact h.come⟩
    simp only [e1, decide_true, cond_true]
    simp [he, comeS, hd, h0]
theorem r_comes0 (h : RR F Q m) (hm : OKm C m) (hC : C ≤ 1000000) : ∃ F' Q', s_greenbeltref02_Disk_comes F Q m.lost m.down m.armed m.keep 0 0 ([] : List UInt8) = some (F', (lastS m).lost, (lastS m).down, (lastS m).armed, (lastS m).keep, Q') ∧ RR F' Q' (lastS m) := by
 obtain ⟨F', Q', h1, h2⟩ := r_comes 0 0 [] (comeS m) hC (fun _ => hm.come) h hm (fun _ => ⟨F, Q, rfl, h.come⟩)
 refine ⟨F', Q', ?_, ?_⟩
 ·rw [h1]
  unfold lastS
  cases he : endB m <;> simp [crashS, comeS]
 ·unfold lastS
  exact h2
theorem r_may : s_greenbeltref02_Disk_may F Q lost down a keep 3 = some (bif down then 8 else 0) := by
 cases down <;> rfl
theorem r_settle_L {q : List Nat} {Fi : List greenbeltref02_File} (hq : q.length ≤ 1000000) : ∀ (r : List Nat) (i fuel : Nat), q.drop i = r → i ≤ q.length → r.length < fuel → s_greenbeltref02_Disk_settle_L1 3 Fi lost down a keep (q.map rsec) fuel ((i : Int), []) = some [] := by
 intro r
 induction r with
 | nil =>
  intro i fuel hd hi hf
  obtain ⟨f, rfl⟩ : ∃ f, fuel = f + 1 := ⟨fuel - 1, by omega⟩
  have hle : q.length ≤ i := by simpa using hd
  rw [s_greenbeltref02_Disk_settle_L1]
  simp only [show decide ((i : Int) < ((q.map rsec).length : Int)) = false by simp; omega, cond_false]
 | cons n r ih =>
  intro i fuel hd hi hf
  obtain ⟨f, rfl⟩ : ∃ f, fuel = f + 1 := ⟨fuel - 1, by omega⟩
  obtain ⟨h1, h2, h3⟩ := rsec_get hd
  rw [s_greenbeltref02_Disk_settle_L1]
  simp only [show decide ((i : Int) < ((q.map rsec).length : Int)) = true by simp; omega, cond_true, Int.toNat_natCast, h2, Option.bind_some]
  rw [grd_ofI (by simp only [List.length_map]; omega), Option.bind_some]
  simp only [rsec, decide_true, Bool.not_true, cond_false, Option.bind_some]
  rw [w64_id (by omega) (by omega)]
  exact ih (i + 1) f h3 (by omega) (by simp only [List.length_cons] at hf; omega)
theorem r_settle {s : List UInt8} (h : RR F Q m) (hm : OKm C m) (hC : C ≤ 1000000) : s_greenbeltref02_Disk_settle F Q lost down a keep 3 s = some ([⟨3, s, s⟩], []) := by
 have hql := hm.ql
 unfold s_greenbeltref02_Disk_settle
 rw [r_set h.f, Option.bind_some, h.q, show ((0 : Int), ([] : List greenbeltref02_Sector)) = (((0 : Nat) : Int), []) from rfl, r_settle_L (by omega) m.q 0 KK rfl (Nat.zero_le _) (kk_lt (by omega)), Option.bind_some]
theorem r_Sync (h : RR F Q m) (hm : OKm C m) (hC : C ≤ 1000000) : ∃ F' Q', s_greenbeltref02_Disk_Sync F Q m.lost m.down m.armed m.keep 3 = some ((syncS m).1, F', (syncS m).2.lost, (syncS m).2.down, (syncS m).2.armed, (syncS m).2.keep, Q') ∧ RR F' Q' (syncS m).2 := by
 obtain ⟨F', Q', h1, h2⟩ := r_comes0 h hm hC
 have hm2 := hm.lastS
 have hl := hm2.lost
 unfold s_greenbeltref02_Disk_Sync
 rw [h1, Option.bind_some]
 dsimp only
 rw [r_may, Option.bind_some]
 unfold syncS
 cases hd : (lastS m).down with
 | true =>
  refine ⟨F', Q', ?_, by simpa using h2⟩
  simp [hd]
 | false =>
  simp only [cond_false, decide_true, Bool.not_true, Bool.false_eq_true, if_false]
  by_cases hl0 : (lastS m).lost > 0
  ·refine ⟨F', Q', ?_, by rw [if_pos hl0]; exact ⟨h2.f, h2.q⟩⟩
   simp only [hl0, decide_true, cond_true, if_true]
   rw [w64_id (by omega) (by omega), hd]
  ·refine ⟨[⟨3, (lastS m).now, (lastS m).now⟩], [], ?_, by rw [if_neg hl0]; exact ⟨.inl rfl, rfl⟩⟩
   simp only [hl0, decide_false, cond_false, if_false]
   rw [r_get h2.f, Option.bind_some, r_settle h2 hm2 hC, Option.bind_some, hd]
theorem r_Trunc {k : Nat} (h : RR F Q m) (hm : OKm C m) (hC : C ≤ 1000000) (hk : (lastS m).down = false → k ≤ (lastS m).now.length) : ∃ F' Q', s_greenbeltref02_Disk_Truncate F Q m.lost m.down m.armed m.keep 3 (k : Int) = some ((truncS m k).1, F', (truncS m k).2.lost, (truncS m k).2.down, (truncS m k).2.armed, (truncS m k).2.keep, Q') ∧ RR F' Q' (truncS m k).2 := by
 obtain ⟨F', Q', h1, h2⟩ := r_comes0 h hm hC
 have hm2 := hm.lastS
 unfold s_greenbeltref02_Disk_Truncate
 rw [h1, Option.bind_some]
 dsimp only
 rw [r_may, Option.bind_some]
 unfold truncS
 cases hd : (lastS m).down with
 | true =>
  refine ⟨F', Q', ?_, by simpa using h2⟩
  simp [hd]
 | false =>
  have hk := hk hd
  simp only [cond_false, decide_true, Bool.not_true, Bool.false_eq_true, if_false]
  refine ⟨[⟨3, (lastS m).now.take k, (lastS m).now.take k⟩], [], ?_, ⟨.inl rfl, rfl⟩⟩
  rw [r_get h2.f, Option.bind_some]
  have e1 : ¬ ((k : Int) < 0) := by omega
  have e2 : ¬ ((k : Int) > (((lastS m).now.length : Nat) : Int)) := by omega
  simp only [e1, e2, decide_false, cond_false, Option.bind_some]
  rw [cut_tk hk, Option.bind_some, r_settle h2 hm2 hC, Option.bind_some, hd]
theorem r_fits {k : Nat} {s : List UInt8} (hl : k + s.length ≤ 2097152) : s_greenbeltref02_fits (k : Int) s = some true := by
 unfold s_greenbeltref02_fits
 have e1 : (k : Int) ≥ 0 := by omega
 have e2 : (k : Int) ≤ 16777216 := by omega
 simp only [e1, e2, decide_true, cond_true]
 rw [w64_id (by omega) (by omega)]
 have e3 : (k : Int) + ((s.length : Nat) : Int) ≤ 16777216 := by omega
 simp only [e3, decide_true]
theorem r_Write {k : Nat} {s : List UInt8} (h : RR F Q m) (hm : OKm C m) (hC : C + s.length + 2 ≤ 1000000) (hs : s ≠ []) (hl : k + s.length ≤ 2097152) : ∃ F' Q', s_greenbeltref02_Disk_Write F Q m.lost m.down m.armed m.keep 3 (k : Int) s = some ((writeS m k s).1, F', (writeS m k s).2.lost, (writeS m k s).2.down, (writeS m k s).2.armed, (writeS m k s).2.keep, Q') ∧ RR F' Q' (writeS m k s).2 := by
 obtain ⟨F', Q', h1, h2⟩ := r_comes (C := C + s.length + 2) 3 (k : Int) s (addS (comeS m) k s) hC (fun _ => hm.come.add hl hs) h (hm.mono (by omega)) (fun _ => by
  obtain ⟨F2, Q2, h3, h4⟩ := r_add (lost := m.lost) (down := false) (a := 0) (keep := m.keep) (at_ := k) (s := s) h.come hm.come (by omega) hs hl
  refine ⟨F2, Q2, ?_, h4⟩
  simp only [show decide ((3 : Int) ≥ 0) = true from rfl, show decide ((3 : Int) ≤ 15) = true from rfl, cond_true]
  rw [r_fits hl, Option.bind_some, Option.bind_some, cond_true, h3, Option.bind_some])
 unfold s_greenbeltref02_Disk_Write
 rw [h1, Option.bind_some]
 dsimp only
 rw [r_may, Option.bind_some]
 unfold writeS
 cases he : endB m with
 | true =>
  rw [he] at h2
  refine ⟨F', Q', ?_, by simpa using h2⟩
  simp [crashS, addS, comeS]
 | false =>
  rw [he] at h2
  simp only [Bool.false_eq_true, if_false] at h2 ⊢
  cases hd : m.down with
  | true =>
   refine ⟨F', Q', ?_, by simpa using h2⟩
   simp [comeS, hd]
  | false =>
   simp only [cond_false, decide_true, Bool.not_true, Bool.false_eq_true, if_false]
   have e1 : ¬ ((k : Int) < 0) := by omega
   simp only [e1, decide_false, cond_false]
   rw [r_fits hl, Option.bind_some]
   simp only [Bool.not_true, cond_false]
   obtain ⟨F2, Q2, h3, h4⟩ := r_add (lost := m.lost) (down := false) (a := (comeS m).armed) (keep := m.keep) (at_ := k) (s := s) h2 hm.come (by omega) hs hl
   rw [h3, Option.bind_some]
   refine ⟨F2, Q2, ?_, h4⟩
   simp [addS, comeS, hd]
theorem r_Size (h : RR F Q m) : s_greenbeltref02_Disk_Size F Q lost down a keep 3 = some ((m.now.length : Nat) : Int) := by
 unfold s_greenbeltref02_Disk_Size
 rw [r_get h.f, Option.bind_some]
theorem r_Read {n : Nat} (h : RR F Q m) (hm : OKm C m) (hn : n = m.now.length) : s_greenbeltref02_Disk_Read F Q lost false a keep 3 0 (n : Int) = some (m.now, 0) := by
 subst hn
 have hnw := hm.now
 unfold s_greenbeltref02_Disk_Read
 rw [r_may, Option.bind_some]
 simp only [cond_false, decide_true, Bool.not_true, show decide ((0 : Int) < 0) = false from rfl]
 have e1 : ¬ ((m.now.length : Int) < 0) := by omega
 simp only [e1, decide_false, Option.bind_some, cond_false]
 rw [r_get h.f, Option.bind_some]
 dsimp only
 by_cases h0 : m.now = []
 ·rw [h0]; rfl
 ·have hp : 0 < m.now.length := List.length_pos_iff.2 h0
  have e2 : ¬ ((0 : Int) ≥ ((m.now.length : Nat) : Int)) := by omega
  simp only [e2, decide_false, cond_false]
  rw [w64_id (n := ((m.now.length : Nat) : Int) - 0) (by omega) (by omega), w64_id (by omega) (by omega), show (0 : Int) + min ((m.now.length : Nat) : Int) (((m.now.length : Nat) : Int) - 0) = ((m.now.length : Nat) : Int) by omega, cut_tk (Nat.le_refl _), List.take_length]
  rfl
end Go.Proofs.YtoflckochjijcaaGreatDoor.E
