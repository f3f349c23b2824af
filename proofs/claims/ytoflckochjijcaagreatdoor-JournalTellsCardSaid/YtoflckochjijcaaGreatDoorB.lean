/- Sectors as keys. -/
import Derived.Test.YtoflckochjijcaaGreatDoorA
import Derived.Test.YtoflckochjijcaaGreatDoorD
set_option linter.all false
namespace Go.Proofs.YtoflckochjijcaaGreatDoor
open Go Go.RowKit Go.Eng Go.EV
def vals_disk_sector (x : disk_sector) : List Value := [.int .i64 x.file, .int .i64 x.number]
theorem keyOK_disk_sector {P : Program} {kt : TypeId} (h : flatTChk P kt [.int .i64, .int .i64] = true) : KeyOK P kt (fun e => V.agg (enc_disk_sector e)) (fun e : disk_sector => Value.agg (vals_disk_sector e).toArray) :=
 keyOK_flat (flat_of h) (fun m Z a x hx => by
  obtain ⟨y, ys, rfl, h1, z, zs, rfl, h2, h3⟩ := hx
  cases h1; cases h2; cases h3; rfl) (fun m Z a => ⟨_, _, rfl, rfl, _, _, rfl, rfl, rfl⟩) (fun a => rfl) (fun a b => by
  rw [Bool.eq_iff_iff]
  cases a; cases b
  simp [vals_disk_sector, eqVs, eqV]) (fun a => by simp [vals_disk_sector, Instr.sameBits])
def disk_both (f : disk_file) : disk_file := ⟨f.last, f.last⟩
def both2 (l : List (Int × disk_file)) : List (Int × disk_file) := l.map fun p => (p.1, disk_both p.2)
end Go.Proofs.YtoflckochjijcaaGreatDoor
