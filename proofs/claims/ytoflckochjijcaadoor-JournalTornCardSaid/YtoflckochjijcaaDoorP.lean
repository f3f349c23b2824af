/- The calls of the disk, in plain Lean. -/
import Derived.Test.YtoflckochjijcaaDoorO
set_option linter.all false
set_option maxRecDepth 100000
namespace Go.Proofs.YtoflckochjijcaaDoor
open Go Go.RowKit Go.Eng Go.EV Go.Lib
variable [Fuel]
structure FOK (B : Nat) (files : List (Int × disk_file)) : Prop where
 nd : (files.map (·.1)).Nodup
 sz : ∀ g, (fl files g).now.length ≤ B ∧ (fl files g).last.length ≤ B
def TornF (files files' : List (Int × disk_file)) : Prop := (files'.map (·.1)).Nodup ∧ ∀ g, ∃ c, fl files' g = ⟨c, c⟩ ∧ Torn (fl files g).last (fl files g).now c
theorem TornF.ok {B : Nat} {files files' : List (Int × disk_file)} (h : TornF files files') (hf : FOK B files) : FOK B files' := by
 refine ⟨h.1, fun g => ?_⟩
 obtain ⟨c, h1, h2⟩ := h.2 g
 have := hf.sz g
 rw [h1]
 have := h2.2.1
 simp only; omega
/- crash -/
section
variable {F F' : List (Int × disk_file)} {Q : List disk_sector} {S : List (disk_sector × Bool)} {lost a f : Int} {keep : List Int} {down : Bool}
def dec1 (a : Int) : Int := if a = 0 then 0 else a - 1
theorem dec1_ok (h0 : 0 ≤ a) (h1 : a ≤ 9223372036854775807) : 0 ≤ dec1 a ∧ dec1 a ≤ 9223372036854775807 := by unfold dec1; split <;> omega
theorem ends_up (h0 : 0 ≤ a) (h1 : a ≤ 9223372036854775807) : s_disk_Disk_ends F Q S lost false a keep = some (decide (a = 1), lost, false, dec1 a, keep) := by
 unfold s_disk_Disk_ends dec1
 by_cases h : a = 0
 ·subst h; rfl
 ·rw [cond_false, Option.bind_some]
  simp only [show decide (a = 0) = false by simp [h], cond_false, if_neg h]
  rw [w64_id (by omega) (by omega)]
  have : decide (a - 1 = 0) = decide (a = 1) := by rw [decide_eq_decide]; omega
  rw [this]
theorem may_up (h : 0 ≤ f ∧ f < 16) : s_disk_Disk_may F Q S lost false a keep f = some (0, lost, false, a, keep) := by
 unfold s_disk_Disk_may
 rw [cond_false, show decide (f < 0) = false by simp; omega, cond_false, show decide (f ≥ 16) = false by simp; omega]
 rfl
theorem size_is : s_disk_Disk_Size F Q S lost down a keep f = some (((fl F f).now.length : Int), lost, down, a, keep) := rfl
theorem read_all {s : List UInt8} {n : Nat} (h : 0 ≤ f ∧ f < 16) (hs : (fl F f).now = s) (hn : s.length ≤ n) : s_disk_Disk_Read F Q S lost false a keep f 0 (n : Int) = some (s, 0, lost, false, a, keep) := by
 unfold s_disk_Disk_Read
 rw [may_up h, Option.bind_some]
 simp only [decide_true, Bool.not_true, cond_false, show decide ((0 : Int) < 0) = false from rfl, show decide ((n : Int) < 0) = false by simp, Option.bind_some]
 change ((cut (fl F f).now (min 0 ((fl F f).now.length : Int)) ((fl F f).now.length : Int)).bind fun x1 => (cut x1 0 (min (n : Int) (x1.length : Int))).bind fun x2 => some (x2, 0, lost, false, a, keep)) = _
 rw [hs, show min (0 : Int) (s.length : Int) = ((0 : Nat) : Int) by omega, cut_dr (by omega), Option.bind_some, List.drop_zero, show min (n : Int) (s.length : Int) = (s.length : Int) by omega, cut_tk (by omega), Option.bind_some, List.take_length]
/- writes -/
theorem write_L {f at_ : Int} {s : List UInt8} {e : Nat} (he : w64 (Int.tdiv (w64 ((w64 (at_ + (List.length s : Int))) - 1)) 64) = (e : Int)) (hE : e ≤ 1099511627776) : ∀ (k i fuel n : Nat) (q : List disk_sector) (st : List (disk_sector × Bool)), k = e + 1 - i → i ≤ e + 1 → k < fuel → QOK n q → (st.map (·.1)).Nodup → n + k ≤ 1099511627776 →
  ∃ q' st', s_disk_Disk_write_L1 f at_ s fuel ((i : Int), q, st) = some (q', st') ∧ QOK (n + k) q' ∧ (st'.map (·.1)).Nodup := by
 intro k
 induction k with
 | zero =>
  intro i fuel n q st hk hi hf hq hst hn
  obtain ⟨fu, rfl⟩ : ∃ fu, fuel = fu + 1 := ⟨fuel - 1, by omega⟩
  refine ⟨q, st, ?_, hq, hst⟩
  rw [s_disk_Disk_write_L1, he]
  simp only [show decide ((i : Int) ≤ (e : Int)) = false by simp; omega, cond_false]
 | succ k ih =>
  intro i fuel n q st hk hi hf hq hst hn
  obtain ⟨fu, rfl⟩ : ∃ fu, fuel = fu + 1 := ⟨fuel - 1, by omega⟩
  rw [s_disk_Disk_write_L1, he]
  simp only [show decide ((i : Int) ≤ (e : Int)) = true by simp; omega, cond_true]
  rw [w64_id (n := (i : Int) + 1) (by omega) (by omega)]
  have hql := hq.1
  cases hb : !(Option.getD (mfind (disk_sector.mk f (i : Int)) st) false) with
  | false =>
   rw [cond_false, Option.bind_some]
   obtain ⟨q', st', e1, e2, e3⟩ := ih (i + 1) fu n q st (by omega) (by omega) (by omega) hq hst (by omega)
   exact ⟨q', st', e1, ⟨by have := e2.1; omega, e2.2⟩, e3⟩
  | true =>
   rw [cond_true]
   have hl : (q ++ [disk_sector.mk f (i : Int)]).length = q.length + 1 := by simp
   rw [grd_ofI (by omega), Option.bind_some, Option.bind_some]
   obtain ⟨q', st', e1, e2, e3⟩ := ih (i + 1) fu (n + 1) (q ++ [disk_sector.mk f (i : Int)]) (mset (disk_sector.mk f (i : Int)) true st) (by omega) (by omega) (by omega) ⟨by omega, fun p hp => by
    rcases List.mem_append.1 hp with hp | hp
    ·exact hq.2 p hp
    ·rw [List.mem_singleton.1 hp]; simp only; omega⟩ (nodup_mset _ _ _ hst) (by omega)
   exact ⟨q', st', e1, ⟨by have := e2.1; omega, e2.2⟩, e3⟩
theorem write_end {n : Nat} {s x : List UInt8} (h : 0 ≤ f ∧ f < 16) (hx : (fl F f).now = x) (hs0 : s ≠ []) (hl : x.length + s.length ≤ 16777216) (hq : QOK n Q) (hS : (S.map (·.1)).Nodup) (hn : n ≤ 549755813888) :
  ∃ q' st', s_disk_Disk_write F Q S lost false a keep f (x.length : Int) s = some (0, lost, false, a, keep, mset f ⟨x ++ s, (fl F f).last⟩ F, q', st') ∧ QOK (n + s.length + 2) q' ∧ (st'.map (·.1)).Nodup := by
 have hsp : 0 < s.length := List.length_pos_iff.2 hs0
 have e1 : w64 ((x.length : Int) + (s.length : Int)) = ((x.length + s.length : Nat) : Int) := by rw [w64_id (by omega) (by omega)]; rfl
 have e2 : w64 (((x.length + s.length : Nat) : Int) - 1) = ((x.length + s.length - 1 : Nat) : Int) := by rw [w64_id (by omega) (by omega)]; omega
 have e3 : w64 (Int.tdiv ((x.length + s.length - 1 : Nat) : Int) 64) = (((x.length + s.length - 1) / 64 : Nat) : Int) := by
  rw [Int.tdiv_eq_ediv_of_nonneg (by omega), w64_id (by omega) (by omega)]; omega
 have e4 : w64 (Int.tdiv (x.length : Int) 64) = ((x.length / 64 : Nat) : Int) := by
  rw [Int.tdiv_eq_ediv_of_nonneg (by omega), w64_id (by omega) (by omega)]; omega
 have hk : (x.length + s.length - 1) / 64 + 1 - x.length / 64 ≤ s.length + 2 := by omega
 obtain ⟨q', st', h1, h2, h3⟩ := write_L (f := f) (at_ := (x.length : Int)) (s := s) (e := (x.length + s.length - 1) / 64) (by rw [e1, e2, e3]) (by omega) _ (x.length / 64) KK n Q S rfl (by omega) (kk_lt (by omega)) hq hS (by omega)
 refine ⟨q', st', ?_, ⟨by have := h2.1; omega, h2.2⟩, h3⟩
 unfold s_disk_Disk_write
 rw [may_up h, Option.bind_some]
 simp only [decide_true, Bool.not_true, cond_false, show decide ((x.length : Int) < 0) = false by simp, show decide ((x.length : Int) > 16777216) = false by simp; omega]
 rw [w64_id (n := 16777216 - (x.length : Int)) (by omega) (by omega)]
 simp only [show decide ((s.length : Int) > 16777216 - (x.length : Int)) = false by simp; omega, Option.bind_some, cond_false, show decide (s = []) = false by simp [hs0]]
 change ((s_disk_put (fl F f).now (x.length : Int) s).bind fun y2 => ((s_disk_Disk_write_L1 f (x.length : Int) s) KK ((w64 (Int.tdiv (x.length : Int) 64)), Q, S)).bind fun v2 => some (0, lost, false, a, keep, (mset f (disk_file.mk y2 (fl F f).last) F), v2.1, v2.2)) = _
 rw [hx, put_spec hs0 (by omega) (by omega), Option.bind_some, putL_end, e4, h1, Option.bind_some]
theorem Write_ok {n : Nat} {s x : List UInt8} (ha0 : 0 ≤ a) (ha : a ≤ 9223372036854775807) (he : a ≠ 1) (h : 0 ≤ f ∧ f < 16) (hx : (fl F f).now = x) (hs0 : s ≠ []) (hl : x.length + s.length ≤ 16777216) (hq : QOK n Q) (hS : (S.map (·.1)).Nodup) (hn : n ≤ 549755813888) :
  ∃ q' st', s_disk_Disk_Write_n F Q S lost false a keep f (x.length : Int) s = some (0, lost, false, dec1 a, keep, mset f ⟨x ++ s, (fl F f).last⟩ F, q', st') ∧ QOK (n + s.length + 2) q' ∧ (st'.map (·.1)).Nodup := by
 obtain ⟨q', st', h1, h2, h3⟩ := write_end (lost := lost) (a := dec1 a) (keep := keep) h hx hs0 hl hq hS hn
 refine ⟨q', st', ?_, h2, h3⟩
 unfold s_disk_Disk_Write_n
 rw [ends_up ha0 ha, Option.bind_some]
 simp only [show decide (a = 1) = false by simp [he]]
 rw [h1, Option.bind_some, cond_false]
theorem FOK.mset {B : Nat} {v : disk_file} (hF : FOK B F) (h1 : v.now.length ≤ B) (h2 : v.last.length ≤ B) : FOK B (mset f v F) := by
 refine ⟨nodup_mset _ _ _ hF.nd, fun g => ?_⟩
 rw [fl_mset]
 split
 ·exact ⟨h1, h2⟩
 ·exact hF.sz g
theorem Sync_ok {n : Nat} (ha0 : 0 ≤ a) (ha : a ≤ 9223372036854775807) (he : a ≠ 1) (h : 0 ≤ f ∧ f < 16) (hq : QOK n Q) (hn : n ≤ 549755813888) (hS : (S.map (·.1)).Nodup) :
  s_disk_Disk_Sync_n F Q S 0 false a keep f = none ∧ ∃ q' st', s_disk_Disk_Sync_s F Q S 0 false a keep f = some (st', q', mset f ⟨(fl F f).now, (fl F f).now⟩ F, 0, false, dec1 a, keep) ∧ QOK n q' ∧ (st'.map (·.1)).Nodup := by
 obtain ⟨q', st', e1, e2, e3⟩ := settle_spec (files := F) 0 false (dec1 a) keep f (fl F f).now hq (by omega) hS
 refine ⟨?_, q', st', ?_, e2, e3⟩
 ·unfold s_disk_Disk_Sync_n
  rw [ends_up ha0 ha, Option.bind_some]
  simp only [show decide (a = 1) = false by simp [he], cond_false, may_up h, Option.bind_some, decide_true, Bool.not_true, show decide ((0 : Int) > 0) = false from rfl]
 ·unfold s_disk_Disk_Sync_s
  rw [ends_up ha0 ha, Option.bind_some]
  simp only [show decide (a = 1) = false by simp [he], cond_false, may_up h, Option.bind_some, decide_true, Bool.not_true, show decide ((0 : Int) > 0) = false from rfl]
  change (s_disk_Disk_settle_2 F Q S 0 false (dec1 a) keep f (fl F f).now).bind _ = _
  rw [e1, Option.bind_some]
/- cutting off -/
theorem Trunc_ok {n k : Nat} (ha0 : 0 ≤ a) (ha : a ≤ 9223372036854775807) (he : a ≠ 1) (h : 0 ≤ f ∧ f < 16) (hq : QOK n Q) (hn : n ≤ 549755813888) (hS : (S.map (·.1)).Nodup) (hk : k ≤ (fl F f).now.length) :
  s_disk_Disk_Truncate_n F Q S lost false a keep f (k : Int) = none ∧ ∃ q' st', s_disk_Disk_Truncate_s F Q S lost false a keep f (k : Int) = some (st', q', mset f ⟨(fl F f).now.take k, (fl F f).now.take k⟩ F, lost, false, dec1 a, keep) ∧ QOK n q' ∧ (st'.map (·.1)).Nodup := by
 obtain ⟨q', st', e1, e2, e3⟩ := settle_spec (files := F) lost false (dec1 a) keep f ((fl F f).now.take k) hq (by omega) hS
 refine ⟨?_, q', st', ?_, e2, e3⟩
 ·unfold s_disk_Disk_Truncate_n
  rw [ends_up ha0 ha, Option.bind_some]
  simp only [show decide (a = 1) = false by simp [he], cond_false, may_up h, Option.bind_some, decide_true, Bool.not_true, show decide ((k : Int) < 0) = false by simp, size_is, show decide ((k : Int) > ((fl F f).now.length : Int)) = false by simp; omega]
 ·unfold s_disk_Disk_Truncate_s
  rw [ends_up ha0 ha, Option.bind_some]
  simp only [show decide (a = 1) = false by simp [he], cond_false, may_up h, Option.bind_some, decide_true, Bool.not_true, show decide ((k : Int) < 0) = false by simp, size_is, show decide ((k : Int) > ((fl F f).now.length : Int)) = false by simp; omega]
  change ((cut (fl F f).now 0 (k : Int)).bind _) = _
  rw [cut_tk hk, Option.bind_some, e1, Option.bind_some]
end
end Go.Proofs.YtoflckochjijcaaDoor
