/- What the functions compute; printed by journal.py. -/
import Derived.Test.YtoflckochjijcaaGreatDoorB
set_option linter.all false
set_option maxRecDepth 100000
namespace Go.Proofs.YtoflckochjijcaaGreatDoor
open Go Go.RowKit Go.Eng Go.EV
theorem si {α : Type} {a b : α} (h : some a = some b) : a = b := Option.some.inj h
theorem kr {α : Sort _} {a b : α} (h : a = b := by kernel_rfl) : a = b := h
abbrev nT := @nrm_thenV
abbrev vT := @vr_text
abbrev oN := @ov_nil
abbrev vS := @v_seq
abbrev oR := @o_runs
abbrev bS := @bind_some
abbrev vK := @v_skip
abbrev oP := @o_pure
abbrev rT := @ret_thenV
abbrev rB := @ret_blkV
abbrev nB := @nrm_blkV
abbrev vB := @v_block
abbrev mI (l : List Int) := List.map EV.encI l
abbrev mS (l : List (List UInt8)) := List.map EV.encS l
abbrev mB (l : List Bool) := List.map EV.encB l
abbrev mM {α : Type} (f : α → List V) (l : List α) := List.map f l
abbrev ub : Nat := IntKind.u64.bits
abbrev uw (n : Int) : Int := IntKind.u64.wrap n
theorem bG {p : Prop} [Decidable p] {β : Type} {f : Unit → Option β} {r : β} (h : (grd p).bind f = some r) : p ∧ f () = some r := by
  obtain ⟨u, h1, h2⟩ := bind_some h; exact ⟨grd_some h1, h2⟩
theorem bE {α β : Type} {x : α} {f : α → Option β} {r : β} (h : (some x).bind f = some r) : ∃ a, x = a ∧ f a = some r := ⟨x, rfl, h⟩
/-- The fuel of loops and recursions. -/
class Fuel where
  n : Nat
  big : 18446744073709551616 ≤ n
def KK [Fuel] : Nat := Fuel.n
section
variable [Fuel]
def s_disk_Disk_may (d_files : (List (Int × disk_file))) (d_queue : (List disk_sector)) (d_set : (List (disk_sector × Bool))) (d_lost : Int) (d_down : Bool) (d_armed : Int) (d_keep : (List Int)) (f : Int) : Option (Int × Int × Bool × Int × (List Int)) :=
  (bif d_down then some (8, d_lost, d_down, d_armed, d_keep) else ((bif (decide (f < 0)) then some true else some (decide (f ≥ 16)))).bind fun v1 => (bif v1 then some (1, d_lost, d_down, d_armed, d_keep) else some (0, d_lost, d_down, d_armed, d_keep)))
def s_disk_put (s : (List UInt8)) (at_ : Int) (t : (List UInt8)) : Option (List UInt8) :=
  (bif (decide (t = [])) then some s else (grd (0 ≤ (max (List.length s : Int) (w64 (at_ + (List.length t : Int)))) ∧ (max (List.length s : Int) (w64 (at_ + (List.length t : Int)))) * 1 ≤ 281474976710656 ∧ (max (List.length s : Int) (w64 (at_ + (List.length t : Int)))) ≤ 9223372036854775807)).bind fun _ => (grd (0 ≤ at_ ∧ at_ ≤ (((List.replicate (Int.toNat (max (List.length s : Int) (w64 (at_ + (List.length t : Int))))) (0 : Int))).length : Int) ∧ (((List.replicate (Int.toNat (max (List.length s : Int) (w64 (at_ + (List.length t : Int))))) (0 : Int))).length : Int) ≤ (((List.replicate (Int.toNat (max (List.length s : Int) (w64 (at_ + (List.length t : Int))))) (0 : Int))).length : Nat))).bind fun _ => some (bytesOf (cpyT (cpyT (List.replicate (Int.toNat (max (List.length s : Int) (w64 (at_ + (List.length t : Int))))) (0 : Int)) 0 (List.map (fun b => (b.toNat : Int)) (List.take (min (List.length s) (((List.replicate (Int.toNat (max (List.length s : Int) (w64 (at_ + (List.length t : Int))))) (0 : Int))).length)) s))) (Int.toNat at_) (List.map (fun b => (b.toNat : Int)) (List.take (min (List.length t) (Int.toNat (((List.replicate (Int.toNat (max (List.length s : Int) (w64 (at_ + (List.length t : Int))))) (0 : Int))).length : Int) - Int.toNat at_)) t)))))
def s_disk_Disk_write_L1 (f : Int) (at_ : Int) (s : (List UInt8)) : Nat → (Int × (List disk_sector) × (List (disk_sector × Bool))) → Option ((List disk_sector) × (List (disk_sector × Bool)))
  | 0, _ => none
  | K1 + 1, q1 => (bif (decide (q1.1 ≤ (w64 (Int.tdiv (w64 ((w64 (at_ + (List.length s : Int))) - 1)) 64)))) then ((bif (!(Option.getD (mfind (disk_sector.mk f q1.1) q1.2.2) false)) then (grd (((q1.2.1 ++ [(disk_sector.mk f q1.1)])).length * 16 ≤ 140737488355328)).bind fun _ => some ((mset (disk_sector.mk f q1.1) true q1.2.2), (q1.2.1 ++ [(disk_sector.mk f q1.1)])) else some (q1.2.2, q1.2.1))).bind fun v3 => (s_disk_Disk_write_L1 f at_ s) K1 ((w64 (q1.1 + 1)), v3.2, v3.1) else some (q1.2.1, q1.2.2))
def s_disk_Disk_write (d_files : (List (Int × disk_file))) (d_queue : (List disk_sector)) (d_set : (List (disk_sector × Bool))) (d_lost : Int) (d_down : Bool) (d_armed : Int) (d_keep : (List Int)) (f : Int) (at_ : Int) (s : (List UInt8)) : Option (Int × Int × Bool × Int × (List Int) × (List (Int × disk_file)) × (List disk_sector) × (List (disk_sector × Bool))) :=
  (s_disk_Disk_may d_files d_queue d_set d_lost d_down d_armed d_keep f).bind fun y1 => (bif (!(decide (y1.1 = 0))) then some (y1.1, y1.2.1, y1.2.2.1, y1.2.2.2.1, y1.2.2.2.2, d_files, d_queue, d_set) else (bif (decide (at_ < 0)) then some (1, y1.2.1, y1.2.2.1, y1.2.2.2.1, y1.2.2.2.2, d_files, d_queue, d_set) else ((bif (decide (at_ > 16777216)) then some true else some (decide ((List.length s : Int) > (w64 (16777216 - at_)))))).bind fun v1 => (bif v1 then some (6, y1.2.1, y1.2.2.1, y1.2.2.2.1, y1.2.2.2.2, d_files, d_queue, d_set) else (bif (decide (s = [])) then some (0, y1.2.1, y1.2.2.1, y1.2.2.2.1, y1.2.2.2.2, d_files, d_queue, d_set) else (s_disk_put ((Option.getD (mfind f d_files) (disk_file.mk [] [])).now) at_ s).bind fun y2 => ((s_disk_Disk_write_L1 f at_ s) KK ((w64 (Int.tdiv at_ 64)), d_queue, d_set)).bind fun v2 => some (0, y1.2.1, y1.2.2.1, y1.2.2.2.1, y1.2.2.2.2, (mset f (disk_file.mk y2 ((Option.getD (mfind f d_files) (disk_file.mk [] [])).last)) d_files), v2.1, v2.2)))))
def s_disk_Disk_settle_1 (p : disk_sector) (a1 : Int) : Option (Bool × Int) :=
  some ((decide (p.file = a1)), a1)
def s_slices_IndexFunc_L1 (s : (List disk_sector)) : Nat → (Int × Int) → Option ((Int × Int) ⊕ Int)
  | 0, _ => none
  | K1 + 1, q1 => (bif (decide (q1.1 < ((s).length : Int))) then (grd (0 ≤ q1.1 ∧ q1.1 < ((s).length : Nat))).bind fun _ => (some (s.getD (Int.toNat q1.1) default)).bind fun e1 => (s_disk_Disk_settle_1 e1 q1.2).bind fun y1 => (bif y1.1 then some (.inl (q1.1, y1.2)) else (s_slices_IndexFunc_L1 s) K1 ((w64 (q1.1 + 1)), y1.2)) else some (.inr q1.2))
def s_slices_IndexFunc (s : (List disk_sector)) (p : Int) : Option (Int × Int) :=
  ((s_slices_IndexFunc_L1 s) KK (0, p) : Option ((Int × Int) ⊕ Int)).bind fun z1 => match z1 with
 | .inl r => some r
 | .inr v1 => some ((-1), v1)
def s_slices_DeleteFunc_L1  : Nat → (Int × Int × Int × (List disk_sector)) → Option (Int × Int × (List disk_sector))
  | 0, _ => none
  | K1 + 1, q1 => (bif (decide (q1.2.1 < ((q1.2.2.2).length : Int))) then (grd (0 ≤ q1.2.1 ∧ q1.2.1 < ((q1.2.2.2).length : Nat))).bind fun _ => (some (q1.2.2.2.getD (Int.toNat q1.2.1) default)).bind fun e1 => (s_disk_Disk_settle_1 e1 q1.2.2.1).bind fun y2 => ((bif (!y2.1) then (grd (0 ≤ q1.1 ∧ q1.1 < ((q1.2.2.2).length : Nat))).bind fun _ => (some (q1.2.2.2.getD (Int.toNat q1.1) default)).bind fun e2 => some ((w64 (q1.1 + 1)), (List.set q1.2.2.2 (Int.toNat q1.1) e1)) else some (q1.1, q1.2.2.2))).bind fun v2 => s_slices_DeleteFunc_L1 K1 (v2.1, (w64 (q1.2.1 + 1)), y2.2, v2.2) else some (q1.1, q1.2.2.1, q1.2.2.2))
def s_slices_DeleteFunc (s : (List disk_sector)) (p : Int) : Option ((List disk_sector) × Int) :=
  (s_slices_IndexFunc s p).bind fun y1 => (bif (decide (y1.1 = (-1))) then some ((List.take ((s).length) s), y1.2) else (s_slices_DeleteFunc_L1 KK (y1.1, (w64 (y1.1 + 1)), y1.2, s)).bind fun v1 => (grd (0 ≤ v1.1 ∧ v1.1 ≤ ((v1.2.2).length : Int) ∧ ((v1.2.2).length : Int) ≤ ((v1.2.2).length : Nat))).bind fun _ => (grd (0 ≤ (0 : Int) ∧ (0 : Int) ≤ v1.1 ∧ v1.1 ≤ ((v1.2.2).length : Nat))).bind fun _ => some ((List.take (Int.toNat v1.1 - Int.toNat 0) (cpyT v1.2.2 (Int.toNat v1.1) (List.replicate (Int.toNat ((v1.2.2).length : Int) - Int.toNat v1.1) (disk_sector.mk 0 0)))), v1.2.1))
def s_disk_Disk_settle (d_files : (List (Int × disk_file))) (d_queue : (List disk_sector)) (d_set : (List (disk_sector × Bool))) (d_lost : Int) (d_down : Bool) (d_armed : Int) (d_keep : (List Int)) (f : Int) (s : (List UInt8)) : Option ((List (disk_sector × Bool)) × (List disk_sector) × (List (Int × disk_file)) × Int × Bool × Int × (List Int)) :=
  (s_slices_DeleteFunc d_queue f).bind fun y1 => (grd ((List.map (·.1) d_set).Nodup)).bind fun _ => some ((List.filter (fun p => !decide (p.1.file = y1.2)) d_set), y1.1, (mset f (disk_file.mk s s) d_files), d_lost, d_down, d_armed, d_keep)
def s_disk_Disk_Crash_n (d_files : (List (Int × disk_file))) (d_queue : (List disk_sector)) (d_set : (List (disk_sector × Bool))) (d_lost : Int) (d_down : Bool) (d_armed : Int) (d_keep : (List Int)) (keep : (List Int)) : Option (Int × Bool × Int × (List Int)) :=
  (bif d_down then some (d_lost, d_down, d_armed, d_keep) else none)
def s_disk_Disk_Crash_x_L1 (d_queue : (List disk_sector)) (keep : (List Int)) : Nat → (Int × (List (Int × disk_file))) → Option (List (Int × disk_file))
  | 0, _ => none
  | K1 + 1, q1 => (bif (decide (q1.1 < ((d_queue).length : Int))) then ((grd (0 ≤ q1.1 ∧ q1.1 < ((d_queue).length : Nat))).bind fun _ => (some (d_queue.getD (Int.toNat q1.1) default)).bind fun e1 => ((bif (decide ((List.length keep : Int) = 0)) then some true else (grd ((List.length keep : Int) ≠ 0)).bind fun _ => (idx keep (Int.tmod q1.1 (List.length keep : Int))).bind fun x1 => (bif (decide ((IntKind.i64.wrap ((BitVec.ofInt IntKind.i64.bits x1 &&& BitVec.ofInt IntKind.i64.bits 1).toNat : Int)) = 0)) then some true else some (decide ((w64 (e1.number * 64)) ≥ (List.length ((Option.getD (mfind e1.file q1.2) (disk_file.mk [] [])).now) : Int)))))).bind fun v3 => (bif v3 then some q1.2 else (cut ((Option.getD (mfind e1.file q1.2) (disk_file.mk [] [])).now) (w64 (e1.number * 64)) (min (w64 ((w64 (e1.number * 64)) + 64)) (List.length ((Option.getD (mfind e1.file q1.2) (disk_file.mk [] [])).now) : Int))).bind fun x2 => (s_disk_put ((Option.getD (mfind e1.file q1.2) (disk_file.mk [] [])).last) (w64 (e1.number * 64)) x2).bind fun y1 => some (mset e1.file (disk_file.mk ((Option.getD (mfind e1.file q1.2) (disk_file.mk [] [])).now) y1) q1.2))).bind fun v2 => (s_disk_Disk_Crash_x_L1 d_queue keep) K1 ((w64 (q1.1 + 1)), v2) else some q1.2)
def s_disk_Disk_Crash_x (d_files : (List (Int × disk_file))) (d_queue : (List disk_sector)) (d_set : (List (disk_sector × Bool))) (d_lost : Int) (d_down : Bool) (d_armed : Int) (d_keep : (List Int)) (keep : (List Int)) : Option ((List (Int × disk_file)) × Int × (List Int)) :=
  (bif d_down then none else ((s_disk_Disk_Crash_x_L1 d_queue keep) KK (0, d_files)).bind fun v1 => (grd ((List.map (·.1) v1).Nodup)).bind fun _ => some ((both2 v1), d_lost, d_keep))
def s_slices_Clone (s : (List Int)) : Option (List Int) :=
  (nd ((List.length s) = 0) (some []) ((grd ((s).length * 8 ≤ 140737488355328)).bind fun _ => some s))
end
end Go.Proofs.YtoflckochjijcaaGreatDoor
