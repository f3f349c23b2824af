/- The hidden world, and what the calls make of it; printed by mkH.py. -/
import Derived.Test.YtoflckochjijcaaDoorSD
set_option linter.all false
set_option maxRecDepth 100000
namespace Go.Proofs.YtoflckochjijcaaDoor
open Go Go.RowKit Go.Eng Go.EV
variable [Fuel]
/-- The disk. -/
structure Dsk where
  files : List (Int × disk_file)
  queue : List disk_sector
  dset : List (disk_sector × Bool)
  lost : Int
  down : Bool
  armed : Int
  keep : List Int
  deriving Inhabited
structure Jrn where
  file : Int
  recs : List (List UInt8)
  bytes : Int
  broken : Bool
  deriving Inhabited
/-- The disk and all journals that were ever opened on it. -/
structure Wd where
  d : Dsk
  js : List Jrn
  deriving Inhabited
def k_new : Option (Unit × Wd) := some ((), ⟨⟨[], [], [], 0, false, 0, []⟩, []⟩)
def k_size (W : Wd) (f : Int) : Option (Int × Wd) :=
  (grd (W.js.length < 400000)).bind fun _ => (s_disk_Disk_Size W.d.files W.d.queue W.d.dset W.d.lost W.d.down W.d.armed W.d.keep f).bind fun r => some (r.1, ⟨⟨W.d.files, W.d.queue, W.d.dset, r.2.1, r.2.2.1, r.2.2.2.1, r.2.2.2.2⟩, W.js⟩)
def k_read (W : Wd) (f : Int) (at_ : Int) (size : Int) : Option (((List UInt8) × Int) × Wd) :=
  (grd (W.js.length < 400000)).bind fun _ => (s_disk_Disk_Read W.d.files W.d.queue W.d.dset W.d.lost W.d.down W.d.armed W.d.keep f at_ size).bind fun r => some ((r.1, r.2.1), ⟨⟨W.d.files, W.d.queue, W.d.dset, r.2.2.1, r.2.2.2.1, r.2.2.2.2.1, r.2.2.2.2.2⟩, W.js⟩)
def k_lose (W : Wd) (n : Int) : Option (Unit × Wd) :=
  (grd (W.js.length < 400000)).bind fun _ => (s_disk_Disk_Lose W.d.files W.d.queue W.d.dset W.d.lost W.d.down W.d.armed W.d.keep n).bind fun r => some ((), ⟨⟨W.d.files, W.d.queue, W.d.dset, r.1, r.2.1, r.2.2.1, r.2.2.2⟩, W.js⟩)
def k_crash (W : Wd) (keep : (List Int)) : Option (Unit × Wd) :=
  (grd (W.js.length < 400000)).bind fun _ => orO (s_disk_Disk_Crash_n W.d.files W.d.queue W.d.dset W.d.lost W.d.down W.d.armed W.d.keep keep) (fun r => some ((), ⟨⟨W.d.files, W.d.queue, W.d.dset, r.1, r.2.1, r.2.2.1, r.2.2.2⟩, W.js⟩)) (orO (s_disk_Disk_Crash_x W.d.files W.d.queue W.d.dset W.d.lost W.d.down W.d.armed W.d.keep keep) (fun r => some ((), ⟨⟨r.1, [], [], r.2.1, true, 0, r.2.2⟩, W.js⟩)) (none))
def k_start (W : Wd)  : Option (Unit × Wd) :=
  (grd (W.js.length < 400000)).bind fun _ => (s_disk_Disk_Start W.d.files W.d.queue W.d.dset W.d.lost W.d.down W.d.armed W.d.keep).bind fun r => some ((), ⟨⟨W.d.files, W.d.queue, W.d.dset, r.1, false, r.2.1, r.2.2⟩, W.js⟩)
def k_arm (W : Wd) (n : Int) (keep : (List Int)) : Option (Unit × Wd) :=
  (grd (W.js.length < 400000)).bind fun _ => (s_disk_Disk_Arm W.d.files W.d.queue W.d.dset W.d.lost W.d.down W.d.armed W.d.keep n keep).bind fun r => some ((), ⟨⟨W.d.files, W.d.queue, W.d.dset, r.1, r.2.1, r.2.2.1, r.2.2.2⟩, W.js⟩)
def k_write (W : Wd) (f : Int) (at_ : Int) (s : (List UInt8)) : Option (Int × Wd) :=
  (grd (W.js.length < 400000)).bind fun _ => orO (s_disk_Disk_Write_n W.d.files W.d.queue W.d.dset W.d.lost W.d.down W.d.armed W.d.keep f at_ s) (fun r => some (r.1, ⟨⟨r.2.2.2.2.2.1, r.2.2.2.2.2.2.1, r.2.2.2.2.2.2.2, r.2.1, r.2.2.1, r.2.2.2.1, r.2.2.2.2.1⟩, W.js⟩)) (orO (s_disk_Disk_Write_x W.d.files W.d.queue W.d.dset W.d.lost W.d.down W.d.armed W.d.keep f at_ s) (fun r => some (8, ⟨⟨r.1, [], [], r.2.1, true, 0, r.2.2.1⟩, W.js⟩)) (none))
def k_open (W : Wd) (file : Int) : Option ((Nat × Int) × Wd) :=
  (grd (W.js.length < 400000)).bind fun _ => orO (s_journal_Open_n W.d.files W.d.queue W.d.dset W.d.lost W.d.down W.d.armed W.d.keep file) (fun r => some ((0, r.1), ⟨⟨W.d.files, W.d.queue, W.d.dset, r.2.1, r.2.2.1, r.2.2.2.1, r.2.2.2.2⟩, W.js⟩)) (orO (s_journal_Open_x0 W.d.files W.d.queue W.d.dset W.d.lost W.d.down W.d.armed W.d.keep file) (fun r => some ((0, r.1), ⟨⟨r.2.2.2.2.2, [], [], r.2.1, r.2.2.1, r.2.2.2.1, r.2.2.2.2.1⟩, W.js⟩)) (orO (s_journal_Open_x1 W.d.files W.d.queue W.d.dset W.d.lost W.d.down W.d.armed W.d.keep file) (fun r => some ((0, r.1), ⟨⟨r.2.2.2.2.2.1, [], [], r.2.1, r.2.2.1, r.2.2.2.1, r.2.2.2.2.1⟩, W.js⟩)) (orO (s_journal_Open_p1 W.d.files W.d.queue W.d.dset W.d.lost W.d.down W.d.armed W.d.keep file) (fun r => some ((W.js.length + 1, 0), ⟨⟨r.2.2.2.2.2.2.1, r.2.2.2.2.2.2.2.1, r.2.2.2.2.2.2.2.2.1, r.2.2.1, r.2.2.2.1, r.2.2.2.2.1, r.2.2.2.2.2.1⟩, W.js ++ [⟨r.1, r.2.2.2.2.2.2.2.2.2, r.2.1, false⟩]⟩)) (orO (s_journal_Open_p2 W.d.files W.d.queue W.d.dset W.d.lost W.d.down W.d.armed W.d.keep file) (fun r => some ((W.js.length + 1, 0), ⟨⟨r.2.2.2.2.1, r.2.2.2.1, r.2.2.1, r.2.2.2.2.2.1, r.2.2.2.2.2.2.1, r.2.2.2.2.2.2.2.1, r.2.2.2.2.2.2.2.2.1⟩, W.js ++ [⟨r.1, r.2.2.2.2.2.2.2.2.2, r.2.1, false⟩]⟩)) (none)))))
def k_append (W : Wd) (jn : Nat) (record : (List UInt8)) : Option (Int × Wd) :=
  (grd (W.js.length < 400000)).bind fun _ => (grd (jn ≠ 0)).bind fun _ => (W.js[jn - 1]?).bind fun j => orO (s_journal_Journal_Append_n W.d.files W.d.queue W.d.dset W.d.lost W.d.down W.d.armed W.d.keep j.file j.recs j.bytes j.broken record) (fun r => some (r.1, ⟨⟨r.2.2.2.2.2.2.2.2.1, r.2.2.2.2.2.2.2.2.2.1, r.2.2.2.2.2.2.2.2.2.2.1, r.2.2.2.2.1, r.2.2.2.2.2.1, r.2.2.2.2.2.2.1, r.2.2.2.2.2.2.2.1⟩, W.js.set (jn - 1) ⟨r.2.1, r.2.2.2.2.2.2.2.2.2.2.2, r.2.2.1, r.2.2.2.1⟩⟩)) (orO (s_journal_Journal_Append_x W.d.files W.d.queue W.d.dset W.d.lost W.d.down W.d.armed W.d.keep j.file j.recs j.bytes j.broken record) (fun r => some (8, ⟨⟨r.1, [], [], r.2.1, true, 0, r.2.2.1⟩, W.js.set (jn - 1) ⟨r.2.2.2.2.2.1, j.recs, r.2.2.2.2.2.2, true⟩⟩)) (none))
def k_sync (W : Wd) (jn : Nat)  : Option (Int × Wd) :=
  (grd (W.js.length < 400000)).bind fun _ => (grd (jn ≠ 0)).bind fun _ => (W.js[jn - 1]?).bind fun j => orO (s_journal_Journal_Sync_n W.d.files W.d.queue W.d.dset W.d.lost W.d.down W.d.armed W.d.keep j.file j.recs j.bytes j.broken) (fun r => some (r.1, ⟨⟨W.d.files, W.d.queue, W.d.dset, r.2.2.2.2.1, r.2.2.2.2.2.1, r.2.2.2.2.2.2.1, r.2.2.2.2.2.2.2⟩, W.js.set (jn - 1) ⟨r.2.1, j.recs, r.2.2.1, r.2.2.2.1⟩⟩)) (orO (s_journal_Journal_Sync_s W.d.files W.d.queue W.d.dset W.d.lost W.d.down W.d.armed W.d.keep j.file j.recs j.bytes j.broken) (fun r => some (0, ⟨⟨r.2.2.1, r.2.1, r.1, r.2.2.2.1, r.2.2.2.2.1, r.2.2.2.2.2.1, r.2.2.2.2.2.2.1⟩, W.js.set (jn - 1) ⟨r.2.2.2.2.2.2.2.1, j.recs, r.2.2.2.2.2.2.2.2, false⟩⟩)) (orO (s_journal_Journal_Sync_x W.d.files W.d.queue W.d.dset W.d.lost W.d.down W.d.armed W.d.keep j.file j.recs j.bytes j.broken) (fun r => some (r.1, ⟨⟨r.2.2.2.2.2.1, [], [], r.2.1, r.2.2.1, r.2.2.2.1, r.2.2.2.2.1⟩, W.js.set (jn - 1) ⟨r.2.2.2.2.2.2.1, j.recs, r.2.2.2.2.2.2.2.1, r.2.2.2.2.2.2.2.2⟩⟩)) (none)))
def k_len (W : Wd) (jn : Nat)  : Option (Int × Wd) :=
  (grd (W.js.length < 400000)).bind fun _ => (grd (jn ≠ 0)).bind fun _ => (W.js[jn - 1]?).bind fun j => (s_journal_Journal_Len W.d.files W.d.queue W.d.dset W.d.lost W.d.down W.d.armed W.d.keep j.file j.recs j.bytes j.broken).bind fun r => some (r.1, ⟨⟨W.d.files, W.d.queue, W.d.dset, r.2.2.2.2.1, r.2.2.2.2.2.1, r.2.2.2.2.2.2.1, r.2.2.2.2.2.2.2⟩, W.js.set (jn - 1) ⟨r.2.1, j.recs, r.2.2.1, r.2.2.2.1⟩⟩)
def k_get (W : Wd) (jn : Nat) (i : Int) : Option ((List UInt8) × Wd) :=
  (grd (W.js.length < 400000)).bind fun _ => (grd (jn ≠ 0)).bind fun _ => (W.js[jn - 1]?).bind fun j => (s_journal_Journal_Get W.d.files W.d.queue W.d.dset W.d.lost W.d.down W.d.armed W.d.keep j.file j.recs j.bytes j.broken i).bind fun r => some (r.1, ⟨⟨W.d.files, W.d.queue, W.d.dset, r.2.2.2.2.1, r.2.2.2.2.2.1, r.2.2.2.2.2.2.1, r.2.2.2.2.2.2.2⟩, W.js.set (jn - 1) ⟨r.2.1, j.recs, r.2.2.1, r.2.2.2.1⟩⟩)
def k_all (W : Wd) (jn : Nat)  : Option ((List (List UInt8)) × Wd) :=
  (grd (W.js.length < 400000)).bind fun _ => (grd (jn ≠ 0)).bind fun _ => (W.js[jn - 1]?).bind fun j => (s_journal_Journal_All W.d.files W.d.queue W.d.dset W.d.lost W.d.down W.d.armed W.d.keep j.file j.recs j.bytes j.broken).bind fun r => some (r.1, ⟨⟨W.d.files, W.d.queue, W.d.dset, r.2.2.2.2.1, r.2.2.2.2.2.1, r.2.2.2.2.2.2.1, r.2.2.2.2.2.2.2⟩, W.js.set (jn - 1) ⟨r.2.1, j.recs, r.2.2.1, r.2.2.2.1⟩⟩)
end Go.Proofs.YtoflckochjijcaaDoor
