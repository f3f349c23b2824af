/- The calls of the disk, in plain Lean. -/
import Derived.Test.YtoflckochjijcaaDoorO
set_option linter.all false
set_option maxRecDepth 100000
namespace Go.Proofs.YtoflckochjijcaaDoor
open Go Go.RowKit Go.Eng Go.EV Go.Lib
variable [Fuel]
structure FOK (B : Nat) (files : List (Int × disk_file)) : Prop where
 nd : (files.map (·.1)).Nodup
 sz : ∀ g, (fl files g).now.length ≤ B ∧ (fl files g).last.length ≤ B
def TornF (files files' : List (Int × disk_file)) : Prop := (files'.map (·.1)).Nodup ∧ ∀ g, ∃ c, fl files' g = ⟨c, c⟩ ∧ Torn (fl files g).last (fl files g).now c
theorem TornF.ok {B : Nat} {files files' : List (Int × disk_file)} (h : TornF files files') (hf : FOK B files) : FOK B files' := by
 refine ⟨h.1, fun g => ?_⟩
 obtain ⟨c, h1, h2⟩ := h.2 g
 have := hf.sz g
 rw [h1]
 have := h2.2.1
 simp only; omega
/- crash -/
theorem crash_v3 {files : List (Int × disk_file)} {keep : List Int} {i : Nat} (e : disk_sector) (hk : keep.length ≤ 1099511627776) (hi : i ≤ 1099511627776) :
  ∃ b, (bif (decide ((List.length keep : Int) = 0)) then some true else (grd ((List.length keep : Int) ≠ 0)).bind fun _ => (idx keep (Int.tmod (i : Int) (List.length keep : Int))).bind fun x1 => (bif (decide ((IntKind.i64.wrap ((BitVec.ofInt IntKind.i64.bits x1 &&& BitVec.ofInt IntKind.i64.bits 1).toNat : Int)) = 0)) then some true else some (decide ((w64 (e.number * 64)) ≥ (List.length ((Option.getD (mfind e.file files) (disk_file.mk [] [])).now) : Int))))) = some b ∧ (b = false → w64 (e.number * 64) < ((fl files e.file).now.length : Int)) := by
 by_cases h0 : keep = []
 ·subst h0
  exact ⟨true, by simp, fun h => by cases h⟩
 ·have hp : 0 < keep.length := List.length_pos_iff.2 h0
  rw [show decide ((keep.length : Int) = 0) = false by simp [h0], cF]
  rw [grd_ofI (by omega), oB]
  have hm : Int.tmod (i : Int) (keep.length : Int) = ((i % keep.length : Nat) : Int) := by
   rw [Int.tmod_eq_emod_of_nonneg (by omega)]; rfl
  rw [hm, idx_of (Nat.mod_lt _ hp), oB]
  cases hb : decide ((IntKind.i64.wrap ((BitVec.ofInt IntKind.i64.bits (keep.getD (i % keep.length) default) &&& BitVec.ofInt IntKind.i64.bits 1).toNat : Int)) = 0) with
  | true => exact ⟨true, rfl, fun h => by cases h⟩
  | false =>
   refine ⟨_, rfl, fun h => ?_⟩
   have := of_decide_eq_false h
   show w64 (e.number * 64) < (((mfind e.file files).getD ⟨[], []⟩).now.length : Int)
   omega
theorem crash_L {n B : Nat} {q : List disk_sector} {keep : List Int} {f0 : List (Int × disk_file)} (hq : QOK n q) (hn : n ≤ 1099511627776) (hk : keep.length ≤ 1099511627776) (hB : B ≤ 549755813888) (hf : FOK B f0) :
  ∀ (k i fuel : Nat) (files : List (Int × disk_file)), k = q.length - i → i ≤ q.length → k < fuel → (files.map (·.1)).Nodup → (∀ g, (fl files g).now = (fl f0 g).now ∧ Torn (fl f0 g).last (fl f0 g).now (fl files g).last) →
  ∃ files', s_disk_Disk_Crash_x_L1 q keep fuel ((i : Int), files) = some files' ∧ (files'.map (·.1)).Nodup ∧ ∀ g, (fl files' g).now = (fl f0 g).now ∧ Torn (fl f0 g).last (fl f0 g).now (fl files' g).last := by
 intro k
 induction k with
 | zero =>
  intro i fuel files hk' hi hfu hnd hI
  obtain ⟨f, rfl⟩ : ∃ f, fuel = f + 1 := ⟨fuel - 1, by omega⟩
  refine ⟨files, ?_, hnd, hI⟩
  rw [s_disk_Disk_Crash_x_L1]
  simp only [show decide ((i : Int) < (q.length : Int)) = false by simp; omega, cF]
 | succ k ih =>
  intro i fuel files hk' hi hfu hnd hI
  obtain ⟨f, rfl⟩ : ∃ f, fuel = f + 1 := ⟨fuel - 1, by omega⟩
  have hlt : i < q.length := by omega
  have hql := hq.1
  have hqe := hq.2 _ (getD_mem hlt)
  rw [s_disk_Disk_Crash_x_L1]
  simp only [show decide ((i : Int) < (q.length : Int)) = true by simp; omega, cT, Int.toNat_natCast, oB]
  rw [grd_ofI (by omega), oB]
  generalize q.getD i default = e at hqe ⊢
  obtain ⟨b, hb, hb2⟩ := crash_v3 (files := files) (i := i) e hk (by omega)
  rw [hb, oB, w64_id (n := (i : Int) + 1) (by omega) (by omega)]
  cases b with
  | true =>
   rw [cT, oB]
   exact ih (i + 1) f files (by omega) (by omega) (by omega) hnd hI
  | false =>
   rw [cF]
   have hlt2 := hb2 rfl
   obtain ⟨N, hN⟩ : ∃ N : Nat, e.number = (N : Int) := ⟨e.number.toNat, by omega⟩
   have hw : w64 (e.number * 64) = ((N * 64 : Nat) : Int) := by
    rw [hN, w64_id (by omega) (by omega)]; omega
   rw [hw] at hlt2
   have hIe := hI e.file
   have hsz := hf.sz e.file
   rw [hw]
   change ∃ files', ((cut (fl files e.file).now ((N * 64 : Nat) : Int) (min (w64 (((N * 64 : Nat) : Int) + 64)) ((fl files e.file).now.length : Int))).bind fun x2 => (s_disk_put (fl files e.file).last ((N * 64 : Nat) : Int) x2).bind fun y1 => some (mset e.file (disk_file.mk (fl files e.file).now y1) files)).bind _ = some files' ∧ _
   have hlen : (fl files e.file).now.length ≤ B := by rw [hIe.1]; exact hsz.1
   have hc : cut (fl files e.file).now ((N * 64 : Nat) : Int) (min (w64 (((N * 64 : Nat) : Int) + 64)) ((fl files e.file).now.length : Int)) = some (((fl files e.file).now.take (min (N * 64 + 64) (fl files e.file).now.length)).drop (N * 64)) := by
    rw [w64_id (by omega) (by omega)]
    unfold cut
    rw [if_pos ⟨by omega, by omega, by omega⟩]
    congr 2
    congr 1
    omega
   have htl : (((fl files e.file).now.take (min (N * 64 + 64) (fl files e.file).now.length)).drop (N * 64)).length = min (N * 64 + 64) (fl files e.file).now.length - N * 64 := by
    rw [List.length_drop, List.length_take]; omega
   have hll : (fl files e.file).last.length ≤ B := by
    have := hIe.2.2.1; omega
   rw [hc, oB, put_spec (by intro h; rw [h] at htl; simp at htl; omega) (by omega) (by omega), oB, oB]
   refine ih (i + 1) f _ (by omega) (by omega) (by omega) (nodup_mset _ _ _ hnd) fun g => ?_
   rw [fl_mset]
   split
   ·rename_i hg
    subst hg
    refine ⟨hIe.1, ?_⟩
    rw [hIe.1] at hlt2 ⊢
    exact torn_put hIe.2 (by omega)
   ·exact hI g
theorem crash_x {n B : Nat} {q : List disk_sector} {keep keep0 : List Int} {files : List (Int × disk_file)} {st : List (disk_sector × Bool)} {lost armed : Int} (hq : QOK n q) (hn : n ≤ 1099511627776) (hk : keep.length ≤ 1099511627776) (hB : B ≤ 549755813888) (hf : FOK B files) :
  ∃ files', s_disk_Disk_Crash_x files q st lost false armed keep0 keep = some (files', lost, keep0) ∧ TornF files files' := by
 obtain ⟨f1, h1, h2, h3⟩ := crash_L hq hn hk hB hf q.length 0 KK files (by omega) (by omega) (kk_lt (by have := hq.1; omega)) hf.nd fun g => ⟨rfl, torn_refl _ _⟩
 refine ⟨both2 f1, ?_, by rw [keys_both]; exact h2, fun g => ⟨(fl f1 g).last, by rw [fl_both]; rfl, (h3 g).2⟩⟩
 unfold s_disk_Disk_Crash_x
 rw [cF, show ((0 : Int), files) = (((0 : Nat) : Int), files) from rfl, h1, oB, grd_ofI h2, oB]
theorem crash_n {q : List disk_sector} {keep keep0 : List Int} {files : List (Int × disk_file)} {st : List (disk_sector × Bool)} {lost armed : Int} : s_disk_Disk_Crash_n files q st lost false armed keep0 keep = none := rfl
theorem crash_n_down {q : List disk_sector} {keep keep0 : List Int} {files : List (Int × disk_file)} {st : List (disk_sector × Bool)} {lost armed : Int} : s_disk_Disk_Crash_n files q st lost true armed keep0 keep = some (lost, true, armed, keep0) := rfl
section
variable {F F' : List (Int × disk_file)} {Q : List disk_sector} {S : List (disk_sector × Bool)} {lost a f : Int} {keep : List Int} {down : Bool}
def dec1 (a : Int) : Int := if a = 0 then 0 else a - 1
theorem dec1_ok (h0 : 0 ≤ a) (h1 : a ≤ 9223372036854775807) : 0 ≤ dec1 a ∧ dec1 a ≤ 9223372036854775807 := by unfold dec1; split <;> omega
theorem ends_up (h0 : 0 ≤ a) (h1 : a ≤ 9223372036854775807) : s_disk_Disk_ends F Q S lost false a keep = some (decide (a = 1), lost, false, dec1 a, keep) := by
 unfold s_disk_Disk_ends dec1
 by_cases h : a = 0
 ·subst h; rfl
 ·rw [cF, oB]
  simp only [show decide (a = 0) = false by simp [h], cF, if_neg h]
  rw [w64_id (by omega) (by omega)]
  have : decide (a - 1 = 0) = decide (a = 1) := by rw [decide_eq_decide]; omega
  rw [this]
theorem may_up (h : 0 ≤ f ∧ f < 16) : s_disk_Disk_may F Q S lost false a keep f = some (0, lost, false, a, keep) := by
 unfold s_disk_Disk_may
 rw [cF, show decide (f < 0) = false by simp; omega, cF, show decide (f ≥ 16) = false by simp; omega]
 rfl
theorem may2_down : s_disk_Disk_may_2 F S lost true a keep f = some (8, lost, true, a, keep) := rfl
theorem size_is : s_disk_Disk_Size F Q S lost down a keep f = some (((fl F f).now.length : Int), lost, down, a, keep) := rfl
theorem read_all {s : List UInt8} {n : Nat} (h : 0 ≤ f ∧ f < 16) (hs : (fl F f).now = s) (hn : s.length ≤ n) : s_disk_Disk_Read F Q S lost false a keep f 0 (n : Int) = some (s, 0, lost, false, a, keep) := by
 unfold s_disk_Disk_Read
 rw [may_up h, oB]
 simp only [decide_true, Bool.not_true, cF, show decide ((0 : Int) < 0) = false from rfl, show decide ((n : Int) < 0) = false by simp, oB]
 change ((cut (fl F f).now (min 0 ((fl F f).now.length : Int)) ((fl F f).now.length : Int)).bind fun x1 => (cut x1 0 (min (n : Int) (x1.length : Int))).bind fun x2 => some (x2, 0, lost, false, a, keep)) = _
 rw [hs, show min (0 : Int) (s.length : Int) = ((0 : Nat) : Int) by omega, cut_dr (by omega), oB, List.drop_zero, show min (n : Int) (s.length : Int) = (s.length : Int) by omega, cut_tk (by omega), oB, List.take_length]
/- writes -/
theorem write_L {f at_ : Int} {s : List UInt8} {e : Nat} (he : w64 (Int.tdiv (w64 ((w64 (at_ + (List.length s : Int))) - 1)) 64) = (e : Int)) (hE : e ≤ 1099511627776) : ∀ (k i fuel n : Nat) (q : List disk_sector) (st : List (disk_sector × Bool)), k = e + 1 - i → i ≤ e + 1 → k < fuel → QOK n q → (st.map (·.1)).Nodup → n + k ≤ 1099511627776 →
  ∃ q' st', s_disk_Disk_write_L1 f at_ s fuel ((i : Int), q, st) = some (q', st') ∧ QOK (n + k) q' ∧ (st'.map (·.1)).Nodup := by
 intro k
 induction k with
 | zero =>
  intro i fuel n q st hk hi hf hq hst hn
  obtain ⟨fu, rfl⟩ : ∃ fu, fuel = fu + 1 := ⟨fuel - 1, by omega⟩
  refine ⟨q, st, ?_, hq, hst⟩
  rw [s_disk_Disk_write_L1, he]
  simp only [show decide ((i : Int) ≤ (e : Int)) = false by simp; omega, cF]
 | succ k ih =>
  intro i fuel n q st hk hi hf hq hst hn
  obtain ⟨fu, rfl⟩ : ∃ fu, fuel = fu + 1 := ⟨fuel - 1, by omega⟩
  rw [s_disk_Disk_write_L1, he]
  simp only [show decide ((i : Int) ≤ (e : Int)) = true by simp; omega, cT]
  rw [w64_id (n := (i : Int) + 1) (by omega) (by omega)]
  have hql := hq.1
  cases hb : !(Option.getD (mfind (disk_sector.mk f (i : Int)) st) false) with
  | false =>
   rw [cF, oB]
   obtain ⟨q', st', e1, e2, e3⟩ := ih (i + 1) fu n q st (by omega) (by omega) (by omega) hq hst (by omega)
   exact ⟨q', st', e1, ⟨by have := e2.1; omega, e2.2⟩, e3⟩
  | true =>
   rw [cT]
   have hl : (q ++ [disk_sector.mk f (i : Int)]).length = q.length + 1 := by simp
   rw [grd_ofI (by omega), oB, oB]
   obtain ⟨q', st', e1, e2, e3⟩ := ih (i + 1) fu (n + 1) (q ++ [disk_sector.mk f (i : Int)]) (mset (disk_sector.mk f (i : Int)) true st) (by omega) (by omega) (by omega) ⟨by omega, fun p hp => by
    rcases List.mem_append.1 hp with hp | hp
    ·exact hq.2 p hp
    ·rw [List.mem_singleton.1 hp]; simp only; omega⟩ (nodup_mset _ _ _ hst) (by omega)
   exact ⟨q', st', e1, ⟨by have := e2.1; omega, e2.2⟩, e3⟩
theorem write_end {n : Nat} {s x : List UInt8} (h : 0 ≤ f ∧ f < 16) (hx : (fl F f).now = x) (hs0 : s ≠ []) (hl : x.length + s.length ≤ 16777216) (hq : QOK n Q) (hS : (S.map (·.1)).Nodup) (hn : n ≤ 549755813888) :
  ∃ q' st', s_disk_Disk_write F Q S lost false a keep f (x.length : Int) s = some (0, lost, false, a, keep, mset f ⟨x ++ s, (fl F f).last⟩ F, q', st') ∧ QOK (n + s.length + 2) q' ∧ (st'.map (·.1)).Nodup := by
 have hsp : 0 < s.length := List.length_pos_iff.2 hs0
 have e1 : w64 ((x.length : Int) + (s.length : Int)) = ((x.length + s.length : Nat) : Int) := by rw [w64_id (by omega) (by omega)]; rfl
 have e2 : w64 (((x.length + s.length : Nat) : Int) - 1) = ((x.length + s.length - 1 : Nat) : Int) := by rw [w64_id (by omega) (by omega)]; omega
 have e3 : w64 (Int.tdiv ((x.length + s.length - 1 : Nat) : Int) 64) = (((x.length + s.length - 1) / 64 : Nat) : Int) := by
  rw [Int.tdiv_eq_ediv_of_nonneg (by omega), w64_id (by omega) (by omega)]; omega
 have e4 : w64 (Int.tdiv (x.length : Int) 64) = ((x.length / 64 : Nat) : Int) := by
  rw [Int.tdiv_eq_ediv_of_nonneg (by omega), w64_id (by omega) (by omega)]; omega
 have hk : (x.length + s.length - 1) / 64 + 1 - x.length / 64 ≤ s.length + 2 := by omega
 obtain ⟨q', st', h1, h2, h3⟩ := write_L (f := f) (at_ := (x.length : Int)) (s := s) (e := (x.length + s.length - 1) / 64) (by rw [e1, e2, e3]) (by omega) _ (x.length / 64) KK n Q S rfl (by omega) (kk_lt (by omega)) hq hS (by omega)
 refine ⟨q', st', ?_, ⟨by have := h2.1; omega, h2.2⟩, h3⟩
 unfold s_disk_Disk_write
 rw [may_up h, oB]
 simp only [decide_true, Bool.not_true, cF, show decide ((x.length : Int) < 0) = false by simp, show decide ((x.length : Int) > 16777216) = false by simp; omega]
 rw [w64_id (n := 16777216 - (x.length : Int)) (by omega) (by omega)]
 simp only [show decide ((s.length : Int) > 16777216 - (x.length : Int)) = false by simp; omega, oB, cF, show decide (s = []) = false by simp [hs0]]
 change ((s_disk_put (fl F f).now (x.length : Int) s).bind fun y2 => ((s_disk_Disk_write_L1 f (x.length : Int) s) KK ((w64 (Int.tdiv (x.length : Int) 64)), Q, S)).bind fun v2 => some (0, lost, false, a, keep, (mset f (disk_file.mk y2 (fl F f).last) F), v2.1, v2.2)) = _
 rw [hx, put_spec hs0 (by omega) (by omega), oB, putL_end, e4, h1, oB]
theorem Write_ok {n : Nat} {s x : List UInt8} (ha0 : 0 ≤ a) (ha : a ≤ 9223372036854775807) (he : a ≠ 1) (h : 0 ≤ f ∧ f < 16) (hx : (fl F f).now = x) (hs0 : s ≠ []) (hl : x.length + s.length ≤ 16777216) (hq : QOK n Q) (hS : (S.map (·.1)).Nodup) (hn : n ≤ 549755813888) :
  ∃ q' st', s_disk_Disk_Write_n F Q S lost false a keep f (x.length : Int) s = some (0, lost, false, dec1 a, keep, mset f ⟨x ++ s, (fl F f).last⟩ F, q', st') ∧ QOK (n + s.length + 2) q' ∧ (st'.map (·.1)).Nodup := by
 obtain ⟨q', st', h1, h2, h3⟩ := write_end (lost := lost) (a := dec1 a) (keep := keep) h hx hs0 hl hq hS hn
 refine ⟨q', st', ?_, h2, h3⟩
 unfold s_disk_Disk_Write_n
 rw [ends_up ha0 ha, oB]
 simp only [show decide (a = 1) = false by simp [he]]
 rw [h1, oB, cF]
theorem FOK.mset {B : Nat} {v : disk_file} (hF : FOK B F) (h1 : v.now.length ≤ B) (h2 : v.last.length ≤ B) : FOK B (mset f v F) := by
 refine ⟨nodup_mset _ _ _ hF.nd, fun g => ?_⟩
 rw [fl_mset]
 split
 ·exact ⟨h1, h2⟩
 ·exact hF.sz g
theorem Write_crash {n B : Nat} {s x : List UInt8} (h : 0 ≤ f ∧ f < 16) (hx : (fl F f).now = x) (hs0 : s ≠ []) (hl : x.length + s.length ≤ 16777216) (hq : QOK n Q) (hS : (S.map (·.1)).Nodup) (hn : n ≤ 549755813888) (hk : keep.length ≤ 1099511627776) (hB : B ≤ 549755813888) (hF : FOK B F) (hB2 : x.length + s.length ≤ B) :
  s_disk_Disk_Write_n F Q S lost false 1 keep f (x.length : Int) s = none ∧ ∃ F' q' st', s_disk_Disk_Write_x F Q S lost false 1 keep f (x.length : Int) s = some (F', lost, keep, q', st') ∧ TornF (mset f ⟨x ++ s, (fl F f).last⟩ F) F' := by
 obtain ⟨q', st', h1, h2, h3⟩ := write_end (lost := lost) (a := dec1 1) (keep := keep) h hx hs0 hl hq hS hn
 have hF2 : FOK B (mset f ⟨x ++ s, (fl F f).last⟩ F) := hF.mset (by simp only [List.length_append]; omega) (hF.sz f).2
 obtain ⟨F', e1, e2⟩ := crash_x (st := st') (lost := lost) (armed := dec1 1) (keep0 := keep) (keep := keep) h2 (by omega) hk hB hF2
 constructor
 ·unfold s_disk_Disk_Write_n
  rw [ends_up (by omega) (by omega), oB]
  rw [h1, oB]
  simp only [decide_true, cT, crash_n, orO, e1]
 ·refine ⟨F', q', st', ?_, e2⟩
  unfold s_disk_Disk_Write_x
  rw [ends_up (by omega) (by omega), oB]
  rw [h1, oB]
  simp only [decide_true, cT, crash_n, orO, e1]
theorem Write_down {at_ : Int} {s : List UInt8} : s_disk_Disk_Write_n F Q S lost true a keep f at_ s = some (8, lost, true, a, keep, F, Q, S) := rfl
/- syncs -/
theorem Sync_down : s_disk_Disk_Sync_n F Q S lost true a keep f = some (8, lost, true, a, keep) := rfl
theorem Sync_crash {n B : Nat} (hq : QOK n Q) (hn : n ≤ 549755813888) (hk : keep.length ≤ 1099511627776) (hB : B ≤ 549755813888) (hF : FOK B F) :
  s_disk_Disk_Sync_n F Q S lost false 1 keep f = none ∧ s_disk_Disk_Sync_s F Q S lost false 1 keep f = none ∧ ∃ F', s_disk_Disk_Sync_x F Q S lost false 1 keep f = some (8, lost, true, 0, keep, F') ∧ TornF F F' := by
 obtain ⟨F', e1, e2⟩ := crash_x (st := S) (lost := lost) (armed := dec1 1) (keep0 := keep) (keep := keep) hq (by omega) hk hB hF
 refine ⟨?_, ?_, F', ?_, e2⟩
 ·unfold s_disk_Disk_Sync_n
  rw [ends_up (by omega) (by omega), oB]
  simp only [decide_true, cT, crash_n, orO, e1, may2_down, oB]
  rfl
 ·unfold s_disk_Disk_Sync_s
  rw [ends_up (by omega) (by omega), oB]
  simp only [decide_true, cT, crash_n, orO, e1, may2_down, oB]
  rfl
 ·unfold s_disk_Disk_Sync_x
  rw [ends_up (by omega) (by omega), oB]
  simp only [decide_true, cT, crash_n, orO, e1, may2_down, oB]
  rfl
theorem Sync_lost (ha0 : 0 ≤ a) (ha : a ≤ 9223372036854775807) (he : a ≠ 1) (h : 0 ≤ f ∧ f < 16) (h0 : 0 < lost) (h1 : lost ≤ 9223372036854775807) : s_disk_Disk_Sync_n F Q S lost false a keep f = some (9, lost - 1, false, dec1 a, keep) := by
 unfold s_disk_Disk_Sync_n
 rw [ends_up ha0 ha, oB]
 simp only [show decide (a = 1) = false by simp [he], cF, may_up h, oB, decide_true, Bool.not_true, show decide (lost > 0) = true by simp [h0], cT]
 rw [w64_id (by omega) (by omega)]
theorem Sync_ok {n : Nat} (ha0 : 0 ≤ a) (ha : a ≤ 9223372036854775807) (he : a ≠ 1) (h : 0 ≤ f ∧ f < 16) (hq : QOK n Q) (hn : n ≤ 549755813888) (hS : (S.map (·.1)).Nodup) :
  s_disk_Disk_Sync_n F Q S 0 false a keep f = none ∧ ∃ q' st', s_disk_Disk_Sync_s F Q S 0 false a keep f = some (st', q', mset f ⟨(fl F f).now, (fl F f).now⟩ F, 0, false, dec1 a, keep) ∧ QOK n q' ∧ (st'.map (·.1)).Nodup := by
 obtain ⟨q', st', e1, e2, e3⟩ := settle_spec (files := F) 0 false (dec1 a) keep f (fl F f).now hq (by omega) hS
 refine ⟨?_, q', st', ?_, e2, e3⟩
 ·unfold s_disk_Disk_Sync_n
  rw [ends_up ha0 ha, oB]
  simp only [show decide (a = 1) = false by simp [he], cF, may_up h, oB, decide_true, Bool.not_true, show decide ((0 : Int) > 0) = false from rfl]
 ·unfold s_disk_Disk_Sync_s
  rw [ends_up ha0 ha, oB]
  simp only [show decide (a = 1) = false by simp [he], cF, may_up h, oB, decide_true, Bool.not_true, show decide ((0 : Int) > 0) = false from rfl]
  change (s_disk_Disk_settle_2 F Q S 0 false (dec1 a) keep f (fl F f).now).bind _ = _
  rw [e1, oB]
/- cutting off -/
theorem Trunc_crash {n B : Nat} {size : Int} (hq : QOK n Q) (hn : n ≤ 549755813888) (hk : keep.length ≤ 1099511627776) (hB : B ≤ 549755813888) (hF : FOK B F) :
  s_disk_Disk_Truncate_n F Q S lost false 1 keep f size = none ∧ s_disk_Disk_Truncate_s F Q S lost false 1 keep f size = none ∧ ∃ F', s_disk_Disk_Truncate_x F Q S lost false 1 keep f size = some (8, lost, true, 0, keep, F') ∧ TornF F F' := by
 obtain ⟨F', e1, e2⟩ := crash_x (st := S) (lost := lost) (armed := dec1 1) (keep0 := keep) (keep := keep) hq (by omega) hk hB hF
 refine ⟨?_, ?_, F', ?_, e2⟩
 ·unfold s_disk_Disk_Truncate_n
  rw [ends_up (by omega) (by omega), oB]
  simp only [decide_true, cT, crash_n, orO, e1, may2_down, oB]
  rfl
 ·unfold s_disk_Disk_Truncate_s
  rw [ends_up (by omega) (by omega), oB]
  simp only [decide_true, cT, crash_n, orO, e1, may2_down, oB]
  rfl
 ·unfold s_disk_Disk_Truncate_x
  rw [ends_up (by omega) (by omega), oB]
  simp only [decide_true, cT, crash_n, orO, e1, may2_down, oB]
  rfl
theorem Trunc_ok {n k : Nat} (ha0 : 0 ≤ a) (ha : a ≤ 9223372036854775807) (he : a ≠ 1) (h : 0 ≤ f ∧ f < 16) (hq : QOK n Q) (hn : n ≤ 549755813888) (hS : (S.map (·.1)).Nodup) (hk : k ≤ (fl F f).now.length) :
  s_disk_Disk_Truncate_n F Q S lost false a keep f (k : Int) = none ∧ ∃ q' st', s_disk_Disk_Truncate_s F Q S lost false a keep f (k : Int) = some (st', q', mset f ⟨(fl F f).now.take k, (fl F f).now.take k⟩ F, lost, false, dec1 a, keep) ∧ QOK n q' ∧ (st'.map (·.1)).Nodup := by
 obtain ⟨q', st', e1, e2, e3⟩ := settle_spec (files := F) lost false (dec1 a) keep f ((fl F f).now.take k) hq (by omega) hS
 refine ⟨?_, q', st', ?_, e2, e3⟩
 ·unfold s_disk_Disk_Truncate_n
  rw [ends_up ha0 ha, oB]
  simp only [show decide (a = 1) = false by simp [he], cF, may_up h, oB, decide_true, Bool.not_true, show decide ((k : Int) < 0) = false by simp, size_is, show decide ((k : Int) > ((fl F f).now.length : Int)) = false by simp; omega]
 ·unfold s_disk_Disk_Truncate_s
  rw [ends_up ha0 ha, oB]
  simp only [show decide (a = 1) = false by simp [he], cF, may_up h, oB, decide_true, Bool.not_true, show decide ((k : Int) < 0) = false by simp, size_is, show decide ((k : Int) > ((fl F f).now.length : Int)) = false by simp; omega]
  change ((cut (fl F f).now 0 (k : Int)).bind _) = _
  rw [cut_tk hk, oB, e1, oB]
end
end Go.Proofs.YtoflckochjijcaaDoor
