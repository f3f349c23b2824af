/- The contracts over the hidden world; printed by mkH.py. -/
import Derived.Test.YtoflckochjijcaaDoorK
set_option linter.all false
set_option maxRecDepth 100000
namespace Go.Proofs.YtoflckochjijcaaDoor
open Go Go.RowKit Go.Eng Go.EV
variable [Fuel]
variable {ob0 ob1 ob2 : Go.Obj} {u1 u2 : TypeId}
theorem h_size (W : Wd) (f : Int) (r : Int × Int × Bool × Int × (List Int)) (hs : s_disk_Disk_Size W.d.files W.d.queue W.d.dset W.d.lost W.d.down W.d.armed W.d.keep f = some r) (hW : W.js.length < 400000) :
  FnA Tryd.prog 12 [.gv 1000000 (hpl 1 0), iI f] ((1000000, .gen (EV.hide sJ (stF W))) :: gl ob0 ob1 ob2 u1 u2) (iI r.1) ((1000000, .gen (EV.hide sJ (stF ⟨⟨W.d.files, W.d.queue, W.d.dset, r.2.1, r.2.2.1, r.2.2.2.1, r.2.2.2.2⟩, W.js⟩))) :: gl ob0 ob1 ob2 u1 u2) := by
 have hns : (keys [(1000001, (oF W.d.files)), (1000000, (bD 1000002 ((W.d.queue).length) [iI r.2.1, .bool r.2.2.1, iI r.2.2.2.1, .vs 1 (mI r.2.2.2.2)])), (1000002, (oQ W.d.queue)), (1000003, (oS W.d.dset))]).map (asg [(1000000, 1), (1000001, 2), (1000002, 3), (1000003, 4)]) = [2, 1, 3, 4] := by kernel_rfl
 have hc : Conv sJ (renH (asg [(1000000, 1), (1000001, 2), (1000002, 3), (1000003, 4)]) [(1000001, (oF W.d.files)), (1000000, (bD 1000002 ((W.d.queue).length) [iI r.2.1, .bool r.2.2.1, iI r.2.2.2.1, .vs 1 (mI r.2.2.2.2)])), (1000002, (oQ W.d.queue)), (1000003, (oS W.d.dset))] ++ (jsF 0 W.js)) (stF ⟨⟨W.d.files, W.d.queue, W.d.dset, r.2.1, r.2.2.1, r.2.2.2.1, r.2.2.2.2⟩, W.js⟩) := by
  exact (convG (d := ⟨W.d.files, W.d.queue, W.d.dset, r.2.1, r.2.2.1, r.2.2.2.1, r.2.2.2.2⟩) 3 4 (by decide) (by decide) (by decide) (fun p hp => by
   simp only [diskX, List.mem_cons, List.not_mem_nil, or_false] at hp
   rcases hp with rfl | rfl | rfl | rfl
   ·exact mL 1 kr
   ·exact mL 0 kr
   ·exact mL 2 kr
   ·exact mL 3 kr) (fun p hp => List.mem_append_right _ hp) (fun a ha => by
   rcases keyX hns ha with ha | ha
   ·simp at ha
    left; omega
   ·obtain ⟨t, _, h1, h2⟩ := jsF_key ha; exact .inr ⟨t, by simp only [Nat.zero_add] at h1; omega, h2⟩))
 exact lift (A := [(1000000, (bD 1000002 ((W.d.queue).length) [iI W.d.lost, .bool W.d.down, iI W.d.armed, .vs 1 (mI W.d.keep)])), (1000001, (oF W.d.files)), (1000002, (oQ W.d.queue)), (1000003, (oS W.d.dset))]) (A' := [(1000001, (oF W.d.files)), (1000000, (bD 1000002 ((W.d.queue).length) [iI r.2.1, .bool r.2.2.1, iI r.2.2.2.1, .vs 1 (mI r.2.2.2.2)])), (1000002, (oQ W.d.queue)), (1000003, (oS W.d.dset))]) W ⟨⟨W.d.files, W.d.queue, W.d.dset, r.2.1, r.2.2.1, r.2.2.2.1, r.2.2.2.2⟩, W.js⟩ (asg [(1000000, 1), (1000001, 2), (1000002, 3), (1000003, 4)]) (jsF 0 W.js) [2, 1, 3, 4] (FnA.withG (gl ob0 ob1 ob2 u1 u2) (w_disk_Disk_Size W.d.files W.d.queue W.d.dset W.d.lost W.d.down W.d.armed W.d.keep f r hs) kr kr kr kr) ⟨by kernel_rfl, by kernel_rfl, by kernel_rfl⟩ hns (by simp <;> omega) (fun a ha => by simp at ha; omega) kr kr (fun a ha b hb => by
  simp at ha
  obtain ⟨t, h1, h2, h3⟩ := jsF_key hb
  omega) (fun b hb => by
  obtain ⟨t, h1, h2, h3⟩ := jsF_key hb
  omega) (.refl _) hc hW (show hkBL sJ [.ptr 1 0 0, iI f] = true by simp [hkBL, V.hkB, sJ_1]) (show V.hkB sJ (iI r.1) = true by simp [hkBL, V.hkB, sJ_1])
theorem h_read (W : Wd) (f : Int) (at_ : Int) (size : Int) (r : (List UInt8) × Int × Int × Bool × Int × (List Int)) (hs : s_disk_Disk_Read W.d.files W.d.queue W.d.dset W.d.lost W.d.down W.d.armed W.d.keep f at_ size = some r) (hW : W.js.length < 400000) :
  FnA Tryd.prog 13 [.gv 1000000 (hpl 1 0), iI f, iI at_, iI size] ((1000000, .gen (EV.hide sJ (stF W))) :: gl ob0 ob1 ob2 u1 u2) (.tup [.str r.1, iI r.2.1]) ((1000000, .gen (EV.hide sJ (stF ⟨⟨W.d.files, W.d.queue, W.d.dset, r.2.2.1, r.2.2.2.1, r.2.2.2.2.1, r.2.2.2.2.2⟩, W.js⟩))) :: gl ob0 ob1 ob2 u1 u2) := by
 have hns : (keys [(1000000, (bD 1000002 ((W.d.queue).length) [iI r.2.2.1, .bool r.2.2.2.1, iI r.2.2.2.2.1, .vs 1 (mI r.2.2.2.2.2)])), (1000001, (oF W.d.files)), (1000002, (oQ W.d.queue)), (1000003, (oS W.d.dset))]).map (asg [(1000000, 1), (1000001, 2), (1000002, 3), (1000003, 4)]) = [1, 2, 3, 4] := by kernel_rfl
 have hc : Conv sJ (renH (asg [(1000000, 1), (1000001, 2), (1000002, 3), (1000003, 4)]) [(1000000, (bD 1000002 ((W.d.queue).length) [iI r.2.2.1, .bool r.2.2.2.1, iI r.2.2.2.2.1, .vs 1 (mI r.2.2.2.2.2)])), (1000001, (oF W.d.files)), (1000002, (oQ W.d.queue)), (1000003, (oS W.d.dset))] ++ (jsF 0 W.js)) (stF ⟨⟨W.d.files, W.d.queue, W.d.dset, r.2.2.1, r.2.2.2.1, r.2.2.2.2.1, r.2.2.2.2.2⟩, W.js⟩) := by
  exact (convG (d := ⟨W.d.files, W.d.queue, W.d.dset, r.2.2.1, r.2.2.2.1, r.2.2.2.2.1, r.2.2.2.2.2⟩) 3 4 (by decide) (by decide) (by decide) (fun p hp => by
   simp only [diskX, List.mem_cons, List.not_mem_nil, or_false] at hp
   rcases hp with rfl | rfl | rfl | rfl
   ·exact mL 0 kr
   ·exact mL 1 kr
   ·exact mL 2 kr
   ·exact mL 3 kr) (fun p hp => List.mem_append_right _ hp) (fun a ha => by
   rcases keyX hns ha with ha | ha
   ·simp at ha
    left; omega
   ·obtain ⟨t, _, h1, h2⟩ := jsF_key ha; exact .inr ⟨t, by simp only [Nat.zero_add] at h1; omega, h2⟩))
 exact lift (A := [(1000000, (bD 1000002 ((W.d.queue).length) [iI W.d.lost, .bool W.d.down, iI W.d.armed, .vs 1 (mI W.d.keep)])), (1000001, (oF W.d.files)), (1000002, (oQ W.d.queue)), (1000003, (oS W.d.dset))]) (A' := [(1000000, (bD 1000002 ((W.d.queue).length) [iI r.2.2.1, .bool r.2.2.2.1, iI r.2.2.2.2.1, .vs 1 (mI r.2.2.2.2.2)])), (1000001, (oF W.d.files)), (1000002, (oQ W.d.queue)), (1000003, (oS W.d.dset))]) W ⟨⟨W.d.files, W.d.queue, W.d.dset, r.2.2.1, r.2.2.2.1, r.2.2.2.2.1, r.2.2.2.2.2⟩, W.js⟩ (asg [(1000000, 1), (1000001, 2), (1000002, 3), (1000003, 4)]) (jsF 0 W.js) [1, 2, 3, 4] (FnA.withG (gl ob0 ob1 ob2 u1 u2) (w_disk_Disk_Read W.d.files W.d.queue W.d.dset W.d.lost W.d.down W.d.armed W.d.keep f at_ size r hs) kr kr kr kr) ⟨by kernel_rfl, by kernel_rfl, by kernel_rfl⟩ hns (by simp <;> omega) (fun a ha => by simp at ha; omega) kr kr (fun a ha b hb => by
  simp at ha
  obtain ⟨t, h1, h2, h3⟩ := jsF_key hb
  omega) (fun b hb => by
  obtain ⟨t, h1, h2, h3⟩ := jsF_key hb
  omega) (.refl _) hc hW (show hkBL sJ [.ptr 1 0 0, iI f, iI at_, iI size] = true by simp [hkBL, V.hkB, sJ_1]) (show V.hkB sJ (.tup [.str r.1, iI r.2.1]) = true by simp [hkBL, V.hkB, sJ_1])
theorem h_write_n (W : Wd) (f : Int) (at_ : Int) (s : (List UInt8)) (r : Int × Int × Bool × Int × (List Int) × (List (Int × disk_file)) × (List disk_sector) × (List (disk_sector × Bool))) (hs : s_disk_Disk_Write_n W.d.files W.d.queue W.d.dset W.d.lost W.d.down W.d.armed W.d.keep f at_ s = some r) (hW : W.js.length < 400000) :
  FnA Tryd.prog 14 [.gv 1000000 (hpl 1 0), iI f, iI at_, .str s] ((1000000, .gen (EV.hide sJ (stF W))) :: gl ob0 ob1 ob2 u1 u2) (iI r.1) ((1000000, .gen (EV.hide sJ (stF ⟨⟨r.2.2.2.2.2.1, r.2.2.2.2.2.2.1, r.2.2.2.2.2.2.2, r.2.1, r.2.2.1, r.2.2.2.1, r.2.2.2.2.1⟩, W.js⟩))) :: gl ob0 ob1 ob2 u1 u2) := by
 have hns : (keys [(1000000, (bD 1000002 ((r.2.2.2.2.2.2.1).length) [iI r.2.1, .bool r.2.2.1, iI r.2.2.2.1, .vs 1 (mI r.2.2.2.2.1)])), (1000001, (oF r.2.2.2.2.2.1)), (1000002, (oQ r.2.2.2.2.2.2.1)), (1000003, (oS r.2.2.2.2.2.2.2))]).map (asg [(1000000, 1), (1000001, 2), (1000002, 3), (1000003, 4)]) = [1, 2, 3, 4] := by kernel_rfl
 have hc : Conv sJ (renH (asg [(1000000, 1), (1000001, 2), (1000002, 3), (1000003, 4)]) [(1000000, (bD 1000002 ((r.2.2.2.2.2.2.1).length) [iI r.2.1, .bool r.2.2.1, iI r.2.2.2.1, .vs 1 (mI r.2.2.2.2.1)])), (1000001, (oF r.2.2.2.2.2.1)), (1000002, (oQ r.2.2.2.2.2.2.1)), (1000003, (oS r.2.2.2.2.2.2.2))] ++ (jsF 0 W.js)) (stF ⟨⟨r.2.2.2.2.2.1, r.2.2.2.2.2.2.1, r.2.2.2.2.2.2.2, r.2.1, r.2.2.1, r.2.2.2.1, r.2.2.2.2.1⟩, W.js⟩) := by
  exact (convG (d := ⟨r.2.2.2.2.2.1, r.2.2.2.2.2.2.1, r.2.2.2.2.2.2.2, r.2.1, r.2.2.1, r.2.2.2.1, r.2.2.2.2.1⟩) 3 4 (by decide) (by decide) (by decide) (fun p hp => by
   simp only [diskX, List.mem_cons, List.not_mem_nil, or_false] at hp
   rcases hp with rfl | rfl | rfl | rfl
   ·exact mL 0 kr
   ·exact mL 1 kr
   ·exact mL 2 kr
   ·exact mL 3 kr) (fun p hp => List.mem_append_right _ hp) (fun a ha => by
   rcases keyX hns ha with ha | ha
   ·simp at ha
    left; omega
   ·obtain ⟨t, _, h1, h2⟩ := jsF_key ha; exact .inr ⟨t, by simp only [Nat.zero_add] at h1; omega, h2⟩))
 exact lift (A := [(1000000, (bD 1000002 ((W.d.queue).length) [iI W.d.lost, .bool W.d.down, iI W.d.armed, .vs 1 (mI W.d.keep)])), (1000001, (oF W.d.files)), (1000002, (oQ W.d.queue)), (1000003, (oS W.d.dset))]) (A' := [(1000000, (bD 1000002 ((r.2.2.2.2.2.2.1).length) [iI r.2.1, .bool r.2.2.1, iI r.2.2.2.1, .vs 1 (mI r.2.2.2.2.1)])), (1000001, (oF r.2.2.2.2.2.1)), (1000002, (oQ r.2.2.2.2.2.2.1)), (1000003, (oS r.2.2.2.2.2.2.2))]) W ⟨⟨r.2.2.2.2.2.1, r.2.2.2.2.2.2.1, r.2.2.2.2.2.2.2, r.2.1, r.2.2.1, r.2.2.2.1, r.2.2.2.2.1⟩, W.js⟩ (asg [(1000000, 1), (1000001, 2), (1000002, 3), (1000003, 4)]) (jsF 0 W.js) [1, 2, 3, 4] (FnA.withG (gl ob0 ob1 ob2 u1 u2) (w_disk_Disk_Write_n W.d.files W.d.queue W.d.dset W.d.lost W.d.down W.d.armed W.d.keep f at_ s r hs) kr kr kr kr) ⟨by kernel_rfl, by kernel_rfl, by kernel_rfl⟩ hns (by simp <;> omega) (fun a ha => by simp at ha; omega) kr kr (fun a ha b hb => by
  simp at ha
  obtain ⟨t, h1, h2, h3⟩ := jsF_key hb
  omega) (fun b hb => by
  obtain ⟨t, h1, h2, h3⟩ := jsF_key hb
  omega) (.refl _) hc hW (show hkBL sJ [.ptr 1 0 0, iI f, iI at_, .str s] = true by simp [hkBL, V.hkB, sJ_1]) (show V.hkB sJ (iI r.1) = true by simp [hkBL, V.hkB, sJ_1])
theorem h_write_x (W : Wd) (f : Int) (at_ : Int) (s : (List UInt8)) (r : (List (Int × disk_file)) × Int × (List Int) × (List disk_sector) × (List (disk_sector × Bool))) (hs : s_disk_Disk_Write_x W.d.files W.d.queue W.d.dset W.d.lost W.d.down W.d.armed W.d.keep f at_ s = some r) (hW : W.js.length < 400000) :
  FnA Tryd.prog 14 [.gv 1000000 (hpl 1 0), iI f, iI at_, .str s] ((1000000, .gen (EV.hide sJ (stF W))) :: gl ob0 ob1 ob2 u1 u2) (iI 8) ((1000000, .gen (EV.hide sJ (stF ⟨⟨r.1, [], [], r.2.1, true, 0, r.2.2.1⟩, W.js⟩))) :: gl ob0 ob1 ob2 u1 u2) := by
 have hns : (keys [(3002400, (oS [])), (1000001, (oF r.1)), (1000000, .box 64 [.mp 1000001, .nils, .mp 3002400, iI r.2.1, .bool true, iI 0, .vs 1 (mI r.2.2.1)]), (1000002, (oQ r.2.2.2.1)), (1000003, (oS r.2.2.2.2))]).map (asg [(1000000, 1), (1000001, 2), (1000002, 3), (1000003, 4), (3002400, 5)]) = [5, 2, 1, 3, 4] := by kernel_rfl
 have hc : Conv sJ (renH (asg [(1000000, 1), (1000001, 2), (1000002, 3), (1000003, 4), (3002400, 5)]) [(3002400, (oS [])), (1000001, (oF r.1)), (1000000, .box 64 [.mp 1000001, .nils, .mp 3002400, iI r.2.1, .bool true, iI 0, .vs 1 (mI r.2.2.1)]), (1000002, (oQ r.2.2.2.1)), (1000003, (oS r.2.2.2.2))] ++ (jsF 0 W.js)) (stF ⟨⟨r.1, [], [], r.2.1, true, 0, r.2.2.1⟩, W.js⟩) := by
  exact (convN (d := ⟨r.1, [], [], r.2.1, true, 0, r.2.2.1⟩) 5 (by decide) (fun p hp => by
   simp only [diskN, List.mem_cons, List.not_mem_nil, or_false] at hp
   rcases hp with rfl | rfl | rfl
   ·exact mL 2 kr
   ·exact mL 1 kr
   ·exact mL 0 kr) (fun p hp => List.mem_append_right _ hp) (fun a ha => by
   rcases keyX hns ha with ha | ha
   ·simp at ha
    left; omega
   ·obtain ⟨t, _, h1, h2⟩ := jsF_key ha; exact .inr ⟨t, by simp only [Nat.zero_add] at h1; omega, h2⟩))
 exact lift (A := [(1000000, (bD 1000002 ((W.d.queue).length) [iI W.d.lost, .bool W.d.down, iI W.d.armed, .vs 1 (mI W.d.keep)])), (1000001, (oF W.d.files)), (1000002, (oQ W.d.queue)), (1000003, (oS W.d.dset))]) (A' := [(3002400, (oS [])), (1000001, (oF r.1)), (1000000, .box 64 [.mp 1000001, .nils, .mp 3002400, iI r.2.1, .bool true, iI 0, .vs 1 (mI r.2.2.1)]), (1000002, (oQ r.2.2.2.1)), (1000003, (oS r.2.2.2.2))]) W ⟨⟨r.1, [], [], r.2.1, true, 0, r.2.2.1⟩, W.js⟩ (asg [(1000000, 1), (1000001, 2), (1000002, 3), (1000003, 4), (3002400, 5)]) (jsF 0 W.js) [5, 2, 1, 3, 4] (FnA.withG (gl ob0 ob1 ob2 u1 u2) (w_disk_Disk_Write_x W.d.files W.d.queue W.d.dset W.d.lost W.d.down W.d.armed W.d.keep f at_ s r hs) kr kr kr kr) ⟨by kernel_rfl, by kernel_rfl, by kernel_rfl⟩ hns (by simp <;> omega) (fun a ha => by simp at ha; omega) kr kr (fun a ha b hb => by
  simp at ha
  obtain ⟨t, h1, h2, h3⟩ := jsF_key hb
  omega) (fun b hb => by
  obtain ⟨t, h1, h2, h3⟩ := jsF_key hb
  omega) (.refl _) hc hW (show hkBL sJ [.ptr 1 0 0, iI f, iI at_, .str s] = true by simp [hkBL, V.hkB, sJ_1]) (show V.hkB sJ (iI 8) = true by simp [hkBL, V.hkB, sJ_1])
theorem h_open_n (W : Wd) (file : Int) (r : Int × Int × Bool × Int × (List Int)) (hs : s_journal_Open_n W.d.files W.d.queue W.d.dset W.d.lost W.d.down W.d.armed W.d.keep file = some r) (hW : W.js.length < 400000) :
  FnA Tryd.prog 10 [.gv 1000000 (hpl 1 0), iI file] ((1000000, .gen (EV.hide sJ (stF W))) :: gl ob0 ob1 ob2 u1 u2) (.tup [.nilp, iI r.1]) ((1000000, .gen (EV.hide sJ (stF ⟨⟨W.d.files, W.d.queue, W.d.dset, r.2.1, r.2.2.1, r.2.2.2.1, r.2.2.2.2⟩, W.js⟩))) :: gl ob0 ob1 ob2 u1 u2) := by
 have hns : (keys [(1000000, (bD 1000002 ((W.d.queue).length) [iI r.2.1, .bool r.2.2.1, iI r.2.2.2.1, .vs 1 (mI r.2.2.2.2)])), (1000001, (oF W.d.files)), (1000002, (oQ W.d.queue)), (1000003, (oS W.d.dset))]).map (asg [(1000000, 1), (1000001, 2), (1000002, 3), (1000003, 4)]) = [1, 2, 3, 4] := by kernel_rfl
 have hc : Conv sJ (renH (asg [(1000000, 1), (1000001, 2), (1000002, 3), (1000003, 4)]) [(1000000, (bD 1000002 ((W.d.queue).length) [iI r.2.1, .bool r.2.2.1, iI r.2.2.2.1, .vs 1 (mI r.2.2.2.2)])), (1000001, (oF W.d.files)), (1000002, (oQ W.d.queue)), (1000003, (oS W.d.dset))] ++ (jsF 0 W.js)) (stF ⟨⟨W.d.files, W.d.queue, W.d.dset, r.2.1, r.2.2.1, r.2.2.2.1, r.2.2.2.2⟩, W.js⟩) := by
  exact (convG (d := ⟨W.d.files, W.d.queue, W.d.dset, r.2.1, r.2.2.1, r.2.2.2.1, r.2.2.2.2⟩) 3 4 (by decide) (by decide) (by decide) (fun p hp => by
   simp only [diskX, List.mem_cons, List.not_mem_nil, or_false] at hp
   rcases hp with rfl | rfl | rfl | rfl
   ·exact mL 0 kr
   ·exact mL 1 kr
   ·exact mL 2 kr
   ·exact mL 3 kr) (fun p hp => List.mem_append_right _ hp) (fun a ha => by
   rcases keyX hns ha with ha | ha
   ·simp at ha
    left; omega
   ·obtain ⟨t, _, h1, h2⟩ := jsF_key ha; exact .inr ⟨t, by simp only [Nat.zero_add] at h1; omega, h2⟩))
 exact lift (A := [(1000000, (bD 1000002 ((W.d.queue).length) [iI W.d.lost, .bool W.d.down, iI W.d.armed, .vs 1 (mI W.d.keep)])), (1000001, (oF W.d.files)), (1000002, (oQ W.d.queue)), (1000003, (oS W.d.dset))]) (A' := [(1000000, (bD 1000002 ((W.d.queue).length) [iI r.2.1, .bool r.2.2.1, iI r.2.2.2.1, .vs 1 (mI r.2.2.2.2)])), (1000001, (oF W.d.files)), (1000002, (oQ W.d.queue)), (1000003, (oS W.d.dset))]) W ⟨⟨W.d.files, W.d.queue, W.d.dset, r.2.1, r.2.2.1, r.2.2.2.1, r.2.2.2.2⟩, W.js⟩ (asg [(1000000, 1), (1000001, 2), (1000002, 3), (1000003, 4)]) (jsF 0 W.js) [1, 2, 3, 4] (w_journal_Open_n (ob0 := ob0) (ob1 := ob1) (ob2 := ob2) (u1 := u1) (u2 := u2) W.d.files W.d.queue W.d.dset W.d.lost W.d.down W.d.armed W.d.keep file r hs) ⟨by kernel_rfl, by kernel_rfl, by kernel_rfl⟩ hns (by simp <;> omega) (fun a ha => by simp at ha; omega) kr kr (fun a ha b hb => by
  simp at ha
  obtain ⟨t, h1, h2, h3⟩ := jsF_key hb
  omega) (fun b hb => by
  obtain ⟨t, h1, h2, h3⟩ := jsF_key hb
  omega) (.refl _) hc hW (show hkBL sJ [.ptr 1 0 0, iI file] = true by simp [hkBL, V.hkB, sJ_1]) (show V.hkB sJ (.tup [.nilp, iI r.1]) = true by simp [hkBL, V.hkB, sJ_1])
theorem h_open_x0 (W : Wd) (file : Int) (r : Int × Int × Bool × Int × (List Int) × (List (Int × disk_file))) (hs : s_journal_Open_x0 W.d.files W.d.queue W.d.dset W.d.lost W.d.down W.d.armed W.d.keep file = some r) (hW : W.js.length < 400000) :
  FnA Tryd.prog 10 [.gv 1000000 (hpl 1 0), iI file] ((1000000, .gen (EV.hide sJ (stF W))) :: gl ob0 ob1 ob2 u1 u2) (.tup [.nilp, iI r.1]) ((1000000, .gen (EV.hide sJ (stF ⟨⟨r.2.2.2.2.2, [], [], r.2.1, r.2.2.1, r.2.2.2.1, r.2.2.2.2.1⟩, W.js⟩))) :: gl ob0 ob1 ob2 u1 u2) := by
 have hns : (keys [(1000000, .box 64 [.mp 1000001, .nils, .mp 3002000, iI r.2.1, .bool r.2.2.1, iI r.2.2.2.1, .vs 1 (mI r.2.2.2.2.1)]), (1000001, (oF r.2.2.2.2.2)), (3002000, (oS [])), (1000002, (oQ W.d.queue)), (1000003, (oS W.d.dset))]).map (asg [(1000000, 1), (1000001, 2), (1000002, 3), (1000003, 4), (3002000, 5)]) = [1, 2, 5, 3, 4] := by kernel_rfl
 have hc : Conv sJ (renH (asg [(1000000, 1), (1000001, 2), (1000002, 3), (1000003, 4), (3002000, 5)]) [(1000000, .box 64 [.mp 1000001, .nils, .mp 3002000, iI r.2.1, .bool r.2.2.1, iI r.2.2.2.1, .vs 1 (mI r.2.2.2.2.1)]), (1000001, (oF r.2.2.2.2.2)), (3002000, (oS [])), (1000002, (oQ W.d.queue)), (1000003, (oS W.d.dset))] ++ (jsF 0 W.js)) (stF ⟨⟨r.2.2.2.2.2, [], [], r.2.1, r.2.2.1, r.2.2.2.1, r.2.2.2.2.1⟩, W.js⟩) := by
  exact (convN (d := ⟨r.2.2.2.2.2, [], [], r.2.1, r.2.2.1, r.2.2.2.1, r.2.2.2.2.1⟩) 5 (by decide) (fun p hp => by
   simp only [diskN, List.mem_cons, List.not_mem_nil, or_false] at hp
   rcases hp with rfl | rfl | rfl
   ·exact mL 0 kr
   ·exact mL 1 kr
   ·exact mL 2 kr) (fun p hp => List.mem_append_right _ hp) (fun a ha => by
   rcases keyX hns ha with ha | ha
   ·simp at ha
    left; omega
   ·obtain ⟨t, _, h1, h2⟩ := jsF_key ha; exact .inr ⟨t, by simp only [Nat.zero_add] at h1; omega, h2⟩))
 exact lift (A := [(1000000, (bD 1000002 ((W.d.queue).length) [iI W.d.lost, .bool W.d.down, iI W.d.armed, .vs 1 (mI W.d.keep)])), (1000001, (oF W.d.files)), (1000002, (oQ W.d.queue)), (1000003, (oS W.d.dset))]) (A' := [(1000000, .box 64 [.mp 1000001, .nils, .mp 3002000, iI r.2.1, .bool r.2.2.1, iI r.2.2.2.1, .vs 1 (mI r.2.2.2.2.1)]), (1000001, (oF r.2.2.2.2.2)), (3002000, (oS [])), (1000002, (oQ W.d.queue)), (1000003, (oS W.d.dset))]) W ⟨⟨r.2.2.2.2.2, [], [], r.2.1, r.2.2.1, r.2.2.2.1, r.2.2.2.2.1⟩, W.js⟩ (asg [(1000000, 1), (1000001, 2), (1000002, 3), (1000003, 4), (3002000, 5)]) (jsF 0 W.js) [1, 2, 5, 3, 4] (w_journal_Open_x0 (ob0 := ob0) (ob1 := ob1) (ob2 := ob2) (u1 := u1) (u2 := u2) W.d.files W.d.queue W.d.dset W.d.lost W.d.down W.d.armed W.d.keep file r hs) ⟨by kernel_rfl, by kernel_rfl, by kernel_rfl⟩ hns (by simp <;> omega) (fun a ha => by simp at ha; omega) kr kr (fun a ha b hb => by
  simp at ha
  obtain ⟨t, h1, h2, h3⟩ := jsF_key hb
  omega) (fun b hb => by
  obtain ⟨t, h1, h2, h3⟩ := jsF_key hb
  omega) (.refl _) hc hW (show hkBL sJ [.ptr 1 0 0, iI file] = true by simp [hkBL, V.hkB, sJ_1]) (show V.hkB sJ (.tup [.nilp, iI r.1]) = true by simp [hkBL, V.hkB, sJ_1])
theorem h_open_x1 (W : Wd) (file : Int) (r : Int × Int × Bool × Int × (List Int) × (List (Int × disk_file)) × (List (disk_sector × Bool))) (hs : s_journal_Open_x1 W.d.files W.d.queue W.d.dset W.d.lost W.d.down W.d.armed W.d.keep file = some r) (hW : W.js.length < 400000) :
  FnA Tryd.prog 10 [.gv 1000000 (hpl 1 0), iI file] ((1000000, .gen (EV.hide sJ (stF W))) :: gl ob0 ob1 ob2 u1 u2) (.tup [.nilp, iI r.1]) ((1000000, .gen (EV.hide sJ (stF ⟨⟨r.2.2.2.2.2.1, [], [], r.2.1, r.2.2.1, r.2.2.2.1, r.2.2.2.2.1⟩, W.js⟩))) :: gl ob0 ob1 ob2 u1 u2) := by
 have hns : (keys [(1000000, .box 64 [.mp 1000001, .nils, .mp 3004800, iI r.2.1, .bool r.2.2.1, iI r.2.2.2.1, .vs 1 (mI r.2.2.2.2.1)]), (1000001, (oF r.2.2.2.2.2.1)), (3004800, (oS [])), (1000003, (oS r.2.2.2.2.2.2)), (1000002, .gen gone)]).map (asg [(1000000, 1), (1000001, 2), (1000002, 3), (1000003, 4), (3004800, 5)]) = [1, 2, 5, 4, 3] := by kernel_rfl
 have hc : Conv sJ (renH (asg [(1000000, 1), (1000001, 2), (1000002, 3), (1000003, 4), (3004800, 5)]) [(1000000, .box 64 [.mp 1000001, .nils, .mp 3004800, iI r.2.1, .bool r.2.2.1, iI r.2.2.2.1, .vs 1 (mI r.2.2.2.2.1)]), (1000001, (oF r.2.2.2.2.2.1)), (3004800, (oS [])), (1000003, (oS r.2.2.2.2.2.2)), (1000002, .gen gone)] ++ (jsF 0 W.js)) (stF ⟨⟨r.2.2.2.2.2.1, [], [], r.2.1, r.2.2.1, r.2.2.2.1, r.2.2.2.2.1⟩, W.js⟩) := by
  exact (convN (d := ⟨r.2.2.2.2.2.1, [], [], r.2.1, r.2.2.1, r.2.2.2.1, r.2.2.2.2.1⟩) 5 (by decide) (fun p hp => by
   simp only [diskN, List.mem_cons, List.not_mem_nil, or_false] at hp
   rcases hp with rfl | rfl | rfl
   ·exact mL 0 kr
   ·exact mL 1 kr
   ·exact mL 2 kr) (fun p hp => List.mem_append_right _ hp) (fun a ha => by
   rcases keyX hns ha with ha | ha
   ·simp at ha
    left; omega
   ·obtain ⟨t, _, h1, h2⟩ := jsF_key ha; exact .inr ⟨t, by simp only [Nat.zero_add] at h1; omega, h2⟩))
 exact lift (A := [(1000000, (bD 1000002 ((W.d.queue).length) [iI W.d.lost, .bool W.d.down, iI W.d.armed, .vs 1 (mI W.d.keep)])), (1000001, (oF W.d.files)), (1000002, (oQ W.d.queue)), (1000003, (oS W.d.dset))]) (A' := [(1000000, .box 64 [.mp 1000001, .nils, .mp 3004800, iI r.2.1, .bool r.2.2.1, iI r.2.2.2.1, .vs 1 (mI r.2.2.2.2.1)]), (1000001, (oF r.2.2.2.2.2.1)), (3004800, (oS [])), (1000003, (oS r.2.2.2.2.2.2)), (1000002, .gen gone)]) W ⟨⟨r.2.2.2.2.2.1, [], [], r.2.1, r.2.2.1, r.2.2.2.1, r.2.2.2.2.1⟩, W.js⟩ (asg [(1000000, 1), (1000001, 2), (1000002, 3), (1000003, 4), (3004800, 5)]) (jsF 0 W.js) [1, 2, 5, 4, 3] (w_journal_Open_x1 (ob0 := ob0) (ob1 := ob1) (ob2 := ob2) (u1 := u1) (u2 := u2) W.d.files W.d.queue W.d.dset W.d.lost W.d.down W.d.armed W.d.keep file r hs) ⟨by kernel_rfl, by kernel_rfl, by kernel_rfl⟩ hns (by simp <;> omega) (fun a ha => by simp at ha; omega) kr kr (fun a ha b hb => by
  simp at ha
  obtain ⟨t, h1, h2, h3⟩ := jsF_key hb
  omega) (fun b hb => by
  obtain ⟨t, h1, h2, h3⟩ := jsF_key hb
  omega) (.refl _) hc hW (show hkBL sJ [.ptr 1 0 0, iI file] = true by simp [hkBL, V.hkB, sJ_1]) (show V.hkB sJ (.tup [.nilp, iI r.1]) = true by simp [hkBL, V.hkB, sJ_1])
theorem h_open_p1 (W : Wd) (file : Int) (r : Int × Int × Int × Bool × Int × (List Int) × (List (Int × disk_file)) × (List disk_sector) × (List (disk_sector × Bool)) × (List (List UInt8))) (hs : s_journal_Open_p1 W.d.files W.d.queue W.d.dset W.d.lost W.d.down W.d.armed W.d.keep file = some r) (hW : W.js.length < 400000) :
  FnA Tryd.prog 10 [.gv 1000000 (hpl 1 0), iI file] ((1000000, .gen (EV.hide sJ (stF W))) :: gl ob0 ob1 ob2 u1 u2) (.tup [.gv 1000000 (hpl (10 + 2 * W.js.length) 0), iI 0]) ((1000000, .gen (EV.hide sJ (stF ⟨⟨r.2.2.2.2.2.2.1, r.2.2.2.2.2.2.2.1, r.2.2.2.2.2.2.2.2.1, r.2.2.1, r.2.2.2.1, r.2.2.2.2.1, r.2.2.2.2.2.1⟩, W.js ++ [⟨r.1, r.2.2.2.2.2.2.2.2.2, r.2.1, false⟩]⟩))) :: gl ob0 ob1 ob2 u1 u2) := by
 have hns : (keys [(57, .box 70 [pO, iI r.1, .sl 1 3003800 ((r.2.2.2.2.2.2.2.2.2).length) 0 ((r.2.2.2.2.2.2.2.2.2).length), iI r.2.1, .bool false]), (1000000, (bD 3002000 ((r.2.2.2.2.2.2.2.1).length) [iI r.2.2.1, .bool r.2.2.2.1, iI r.2.2.2.2.1, .vs 1 (mI r.2.2.2.2.2.1)])), (1000001, (oF r.2.2.2.2.2.2.1)), (3002000, (oQ r.2.2.2.2.2.2.2.1)), (1000003, (oS r.2.2.2.2.2.2.2.2.1)), (3003800, .row 9 1 0 (mS r.2.2.2.2.2.2.2.2.2)), (1000002, .gen gone)]).map (asg [(1000000, 1), (1000001, 2), (1000002, 3), (1000003, 4), (57, 10 + 2 * W.js.length), (3003800, 11 + 2 * W.js.length), (3002000, 5)]) = [10 + 2 * W.js.length, 1, 2, 5, 4, 11 + 2 * W.js.length, 3] := by kernel_rfl
 have hc : Conv sJ (renH (asg [(1000000, 1), (1000001, 2), (1000002, 3), (1000003, 4), (57, 10 + 2 * W.js.length), (3003800, 11 + 2 * W.js.length), (3002000, 5)]) [(57, .box 70 [pO, iI r.1, .sl 1 3003800 ((r.2.2.2.2.2.2.2.2.2).length) 0 ((r.2.2.2.2.2.2.2.2.2).length), iI r.2.1, .bool false]), (1000000, (bD 3002000 ((r.2.2.2.2.2.2.2.1).length) [iI r.2.2.1, .bool r.2.2.2.1, iI r.2.2.2.2.1, .vs 1 (mI r.2.2.2.2.2.1)])), (1000001, (oF r.2.2.2.2.2.2.1)), (3002000, (oQ r.2.2.2.2.2.2.2.1)), (1000003, (oS r.2.2.2.2.2.2.2.2.1)), (3003800, .row 9 1 0 (mS r.2.2.2.2.2.2.2.2.2)), (1000002, .gen gone)] ++ (jsF 0 W.js)) (stF ⟨⟨r.2.2.2.2.2.2.1, r.2.2.2.2.2.2.2.1, r.2.2.2.2.2.2.2.2.1, r.2.2.1, r.2.2.2.1, r.2.2.2.2.1, r.2.2.2.2.2.1⟩, W.js ++ [⟨r.1, r.2.2.2.2.2.2.2.2.2, r.2.1, false⟩]⟩) := by
  exact (convG (d := ⟨r.2.2.2.2.2.2.1, r.2.2.2.2.2.2.2.1, r.2.2.2.2.2.2.2.2.1, r.2.2.1, r.2.2.2.1, r.2.2.2.2.1, r.2.2.2.2.2.1⟩) 5 4 (by decide) (by decide) (by decide) (fun p hp => by
   simp only [diskX, List.mem_cons, List.not_mem_nil, or_false] at hp
   rcases hp with rfl | rfl | rfl | rfl
   ·exact mL 1 kr
   ·exact mL 2 kr
   ·exact mL 3 kr
   ·exact mL 4 kr) (fun p hp => by
   rcases mem_app hp with hp | hp
   ·simp only [jF, List.mem_cons, List.not_mem_nil, or_false] at hp
    rcases hp with rfl | rfl
    ·exact mL 0 kr
    ·exact mL 5 kr
   ·exact List.mem_append_right _ hp) (fun a ha => by
   rcases keyX hns ha with ha | ha
   ·simp at ha
    simp only [List.length_append, List.length_singleton]; first | omega | (rcases (show a < 10 ∨ a = 10 + 2 * W.js.length ∨ a = 11 + 2 * W.js.length by omega) with h | h | h; exact .inl h; exact .inr ⟨W.js.length, by omega, .inl h⟩; exact .inr ⟨W.js.length, by omega, .inr h⟩)
   ·obtain ⟨t, _, h1, h2⟩ := jsF_key ha; exact .inr ⟨t, by rw [List.length_append, List.length_singleton]; omega, h2⟩))
 exact lift (A := [(1000000, (bD 1000002 ((W.d.queue).length) [iI W.d.lost, .bool W.d.down, iI W.d.armed, .vs 1 (mI W.d.keep)])), (1000001, (oF W.d.files)), (1000002, (oQ W.d.queue)), (1000003, (oS W.d.dset))]) (A' := [(57, .box 70 [pO, iI r.1, .sl 1 3003800 ((r.2.2.2.2.2.2.2.2.2).length) 0 ((r.2.2.2.2.2.2.2.2.2).length), iI r.2.1, .bool false]), (1000000, (bD 3002000 ((r.2.2.2.2.2.2.2.1).length) [iI r.2.2.1, .bool r.2.2.2.1, iI r.2.2.2.2.1, .vs 1 (mI r.2.2.2.2.2.1)])), (1000001, (oF r.2.2.2.2.2.2.1)), (3002000, (oQ r.2.2.2.2.2.2.2.1)), (1000003, (oS r.2.2.2.2.2.2.2.2.1)), (3003800, .row 9 1 0 (mS r.2.2.2.2.2.2.2.2.2)), (1000002, .gen gone)]) W ⟨⟨r.2.2.2.2.2.2.1, r.2.2.2.2.2.2.2.1, r.2.2.2.2.2.2.2.2.1, r.2.2.1, r.2.2.2.1, r.2.2.2.2.1, r.2.2.2.2.2.1⟩, W.js ++ [⟨r.1, r.2.2.2.2.2.2.2.2.2, r.2.1, false⟩]⟩ (asg [(1000000, 1), (1000001, 2), (1000002, 3), (1000003, 4), (57, 10 + 2 * W.js.length), (3003800, 11 + 2 * W.js.length), (3002000, 5)]) (jsF 0 W.js) [10 + 2 * W.js.length, 1, 2, 5, 4, 11 + 2 * W.js.length, 3] (w_journal_Open_p1 (ob0 := ob0) (ob1 := ob1) (ob2 := ob2) (u1 := u1) (u2 := u2) W.d.files W.d.queue W.d.dset W.d.lost W.d.down W.d.armed W.d.keep file r hs) ⟨by kernel_rfl, by kernel_rfl, by kernel_rfl⟩ hns (by simp <;> omega) (fun a ha => by simp at ha; omega) kr kr (fun a ha b hb => by
  simp at ha
  obtain ⟨t, h1, h2, h3⟩ := jsF_key hb
  omega) (fun b hb => by
  obtain ⟨t, h1, h2, h3⟩ := jsF_key hb
  omega) (.refl _) hc hW (show hkBL sJ [.ptr 1 0 0, iI file] = true by simp [hkBL, V.hkB, sJ_1, sJ_j hW]) (show V.hkB sJ (.tup [.ptr (10 + 2 * W.js.length) 0 0, iI 0]) = true by simp [hkBL, V.hkB, sJ_1, sJ_j hW])
theorem h_open_p2 (W : Wd) (file : Int) (r : Int × Int × (List (disk_sector × Bool)) × (List disk_sector) × (List (Int × disk_file)) × Int × Bool × Int × (List Int) × (List (List UInt8))) (hs : s_journal_Open_p2 W.d.files W.d.queue W.d.dset W.d.lost W.d.down W.d.armed W.d.keep file = some r) (hW : W.js.length < 400000) :
  FnA Tryd.prog 10 [.gv 1000000 (hpl 1 0), iI file] ((1000000, .gen (EV.hide sJ (stF W))) :: gl ob0 ob1 ob2 u1 u2) (.tup [.gv 1000000 (hpl (10 + 2 * W.js.length) 0), iI 0]) ((1000000, .gen (EV.hide sJ (stF ⟨⟨r.2.2.2.2.1, r.2.2.2.1, r.2.2.1, r.2.2.2.2.2.1, r.2.2.2.2.2.2.1, r.2.2.2.2.2.2.2.1, r.2.2.2.2.2.2.2.2.1⟩, W.js ++ [⟨r.1, r.2.2.2.2.2.2.2.2.2, r.2.1, false⟩]⟩))) :: gl ob0 ob1 ob2 u1 u2) := by
 have hns : (keys [(57, .box 70 [pO, iI r.1, .sl 1 3003800 ((r.2.2.2.2.2.2.2.2.2).length) 0 ((r.2.2.2.2.2.2.2.2.2).length), iI r.2.1, .bool false]), (1000003, (oS r.2.2.1)), (3004800, (oQ r.2.2.2.1)), (1000001, (oF r.2.2.2.2.1)), (1000000, (bD 3004800 ((r.2.2.2.1).length) [iI r.2.2.2.2.2.1, .bool r.2.2.2.2.2.2.1, iI r.2.2.2.2.2.2.2.1, .vs 1 (mI r.2.2.2.2.2.2.2.2.1)])), (3003800, .row 9 1 0 (mS r.2.2.2.2.2.2.2.2.2)), (1000002, .gen gone)]).map (asg [(1000000, 1), (1000001, 2), (1000002, 3), (1000003, 4), (57, 10 + 2 * W.js.length), (3003800, 11 + 2 * W.js.length), (3004800, 5)]) = [10 + 2 * W.js.length, 4, 5, 2, 1, 11 + 2 * W.js.length, 3] := by kernel_rfl
 have hc : Conv sJ (renH (asg [(1000000, 1), (1000001, 2), (1000002, 3), (1000003, 4), (57, 10 + 2 * W.js.length), (3003800, 11 + 2 * W.js.length), (3004800, 5)]) [(57, .box 70 [pO, iI r.1, .sl 1 3003800 ((r.2.2.2.2.2.2.2.2.2).length) 0 ((r.2.2.2.2.2.2.2.2.2).length), iI r.2.1, .bool false]), (1000003, (oS r.2.2.1)), (3004800, (oQ r.2.2.2.1)), (1000001, (oF r.2.2.2.2.1)), (1000000, (bD 3004800 ((r.2.2.2.1).length) [iI r.2.2.2.2.2.1, .bool r.2.2.2.2.2.2.1, iI r.2.2.2.2.2.2.2.1, .vs 1 (mI r.2.2.2.2.2.2.2.2.1)])), (3003800, .row 9 1 0 (mS r.2.2.2.2.2.2.2.2.2)), (1000002, .gen gone)] ++ (jsF 0 W.js)) (stF ⟨⟨r.2.2.2.2.1, r.2.2.2.1, r.2.2.1, r.2.2.2.2.2.1, r.2.2.2.2.2.2.1, r.2.2.2.2.2.2.2.1, r.2.2.2.2.2.2.2.2.1⟩, W.js ++ [⟨r.1, r.2.2.2.2.2.2.2.2.2, r.2.1, false⟩]⟩) := by
  exact (convG (d := ⟨r.2.2.2.2.1, r.2.2.2.1, r.2.2.1, r.2.2.2.2.2.1, r.2.2.2.2.2.2.1, r.2.2.2.2.2.2.2.1, r.2.2.2.2.2.2.2.2.1⟩) 5 4 (by decide) (by decide) (by decide) (fun p hp => by
   simp only [diskX, List.mem_cons, List.not_mem_nil, or_false] at hp
   rcases hp with rfl | rfl | rfl | rfl
   ·exact mL 4 kr
   ·exact mL 3 kr
   ·exact mL 2 kr
   ·exact mL 1 kr) (fun p hp => by
   rcases mem_app hp with hp | hp
   ·simp only [jF, List.mem_cons, List.not_mem_nil, or_false] at hp
    rcases hp with rfl | rfl
    ·exact mL 0 kr
    ·exact mL 5 kr
   ·exact List.mem_append_right _ hp) (fun a ha => by
   rcases keyX hns ha with ha | ha
   ·simp at ha
    simp only [List.length_append, List.length_singleton]; first | omega | (rcases (show a < 10 ∨ a = 10 + 2 * W.js.length ∨ a = 11 + 2 * W.js.length by omega) with h | h | h; exact .inl h; exact .inr ⟨W.js.length, by omega, .inl h⟩; exact .inr ⟨W.js.length, by omega, .inr h⟩)
   ·obtain ⟨t, _, h1, h2⟩ := jsF_key ha; exact .inr ⟨t, by rw [List.length_append, List.length_singleton]; omega, h2⟩))
 exact lift (A := [(1000000, (bD 1000002 ((W.d.queue).length) [iI W.d.lost, .bool W.d.down, iI W.d.armed, .vs 1 (mI W.d.keep)])), (1000001, (oF W.d.files)), (1000002, (oQ W.d.queue)), (1000003, (oS W.d.dset))]) (A' := [(57, .box 70 [pO, iI r.1, .sl 1 3003800 ((r.2.2.2.2.2.2.2.2.2).length) 0 ((r.2.2.2.2.2.2.2.2.2).length), iI r.2.1, .bool false]), (1000003, (oS r.2.2.1)), (3004800, (oQ r.2.2.2.1)), (1000001, (oF r.2.2.2.2.1)), (1000000, (bD 3004800 ((r.2.2.2.1).length) [iI r.2.2.2.2.2.1, .bool r.2.2.2.2.2.2.1, iI r.2.2.2.2.2.2.2.1, .vs 1 (mI r.2.2.2.2.2.2.2.2.1)])), (3003800, .row 9 1 0 (mS r.2.2.2.2.2.2.2.2.2)), (1000002, .gen gone)]) W ⟨⟨r.2.2.2.2.1, r.2.2.2.1, r.2.2.1, r.2.2.2.2.2.1, r.2.2.2.2.2.2.1, r.2.2.2.2.2.2.2.1, r.2.2.2.2.2.2.2.2.1⟩, W.js ++ [⟨r.1, r.2.2.2.2.2.2.2.2.2, r.2.1, false⟩]⟩ (asg [(1000000, 1), (1000001, 2), (1000002, 3), (1000003, 4), (57, 10 + 2 * W.js.length), (3003800, 11 + 2 * W.js.length), (3004800, 5)]) (jsF 0 W.js) [10 + 2 * W.js.length, 4, 5, 2, 1, 11 + 2 * W.js.length, 3] (w_journal_Open_p2 (ob0 := ob0) (ob1 := ob1) (ob2 := ob2) (u1 := u1) (u2 := u2) W.d.files W.d.queue W.d.dset W.d.lost W.d.down W.d.armed W.d.keep file r hs) ⟨by kernel_rfl, by kernel_rfl, by kernel_rfl⟩ hns (by simp <;> omega) (fun a ha => by simp at ha; omega) kr kr (fun a ha b hb => by
  simp at ha
  obtain ⟨t, h1, h2, h3⟩ := jsF_key hb
  omega) (fun b hb => by
  obtain ⟨t, h1, h2, h3⟩ := jsF_key hb
  omega) (.refl _) hc hW (show hkBL sJ [.ptr 1 0 0, iI file] = true by simp [hkBL, V.hkB, sJ_1, sJ_j hW]) (show V.hkB sJ (.tup [.ptr (10 + 2 * W.js.length) 0 0, iI 0]) = true by simp [hkBL, V.hkB, sJ_1, sJ_j hW])
theorem h_append_n (W : Wd) {ix : Nat} {j : Jrn} (hj : W.js[ix]? = some j) (record : (List UInt8)) (r : Int × Int × Int × Bool × Int × Bool × Int × (List Int) × (List (Int × disk_file)) × (List disk_sector) × (List (disk_sector × Bool)) × (List (List UInt8))) (hs : s_journal_Journal_Append_n W.d.files W.d.queue W.d.dset W.d.lost W.d.down W.d.armed W.d.keep j.file j.recs j.bytes j.broken record = some r) (hW : W.js.length < 400000) :
  FnA Tryd.prog 11 [.gv 1000000 (hpl (10 + 2 * ix) 0), .str record] ((1000000, .gen (EV.hide sJ (stF W))) :: gl ob0 ob1 ob2 u1 u2) (iI r.1) ((1000000, .gen (EV.hide sJ (stF ⟨⟨r.2.2.2.2.2.2.2.2.1, r.2.2.2.2.2.2.2.2.2.1, r.2.2.2.2.2.2.2.2.2.2.1, r.2.2.2.2.1, r.2.2.2.2.2.1, r.2.2.2.2.2.2.1, r.2.2.2.2.2.2.2.1⟩, W.js.set ix ⟨r.2.1, r.2.2.2.2.2.2.2.2.2.2.2, r.2.2.1, r.2.2.2.1⟩⟩))) :: gl ob0 ob1 ob2 u1 u2) := by
 have hi : ix < W.js.length := (List.getElem?_eq_some_iff.1 hj).1
 have hns : (keys [(1000000, .box 70 [.ptr 1000001 0 0, iI r.2.1, .sl 1 1000005 ((r.2.2.2.2.2.2.2.2.2.2.2).length) 0 ((r.2.2.2.2.2.2.2.2.2.2.2).length), iI r.2.2.1, .bool r.2.2.2.1]), (1000001, .box 64 [.mp 1000002, .sl 2 1000003 ((r.2.2.2.2.2.2.2.2.2.1).length) 0 ((r.2.2.2.2.2.2.2.2.2.1).length), .mp 1000004, iI r.2.2.2.2.1, .bool r.2.2.2.2.2.1, iI r.2.2.2.2.2.2.1, .vs 1 (mI r.2.2.2.2.2.2.2.1)]), (1000002, (oF r.2.2.2.2.2.2.2.2.1)), (1000003, (oQ r.2.2.2.2.2.2.2.2.2.1)), (1000004, (oS r.2.2.2.2.2.2.2.2.2.2.1)), (1000005, .row 9 1 0 (mS r.2.2.2.2.2.2.2.2.2.2.2))]).map (asg [(1000001, 1), (1000002, 2), (1000003, 3), (1000004, 4), (1000000, 10 + 2 * ix), (1000005, 11 + 2 * ix)]) = [10 + 2 * ix, 1, 2, 3, 4, 11 + 2 * ix] := by kernel_rfl
 have hc : Conv sJ (renH (asg [(1000001, 1), (1000002, 2), (1000003, 3), (1000004, 4), (1000000, 10 + 2 * ix), (1000005, 11 + 2 * ix)]) [(1000000, .box 70 [.ptr 1000001 0 0, iI r.2.1, .sl 1 1000005 ((r.2.2.2.2.2.2.2.2.2.2.2).length) 0 ((r.2.2.2.2.2.2.2.2.2.2.2).length), iI r.2.2.1, .bool r.2.2.2.1]), (1000001, .box 64 [.mp 1000002, .sl 2 1000003 ((r.2.2.2.2.2.2.2.2.2.1).length) 0 ((r.2.2.2.2.2.2.2.2.2.1).length), .mp 1000004, iI r.2.2.2.2.1, .bool r.2.2.2.2.2.1, iI r.2.2.2.2.2.2.1, .vs 1 (mI r.2.2.2.2.2.2.2.1)]), (1000002, (oF r.2.2.2.2.2.2.2.2.1)), (1000003, (oQ r.2.2.2.2.2.2.2.2.2.1)), (1000004, (oS r.2.2.2.2.2.2.2.2.2.2.1)), (1000005, .row 9 1 0 (mS r.2.2.2.2.2.2.2.2.2.2.2))] ++ (restJ W ix)) (stF ⟨⟨r.2.2.2.2.2.2.2.2.1, r.2.2.2.2.2.2.2.2.2.1, r.2.2.2.2.2.2.2.2.2.2.1, r.2.2.2.2.1, r.2.2.2.2.2.1, r.2.2.2.2.2.2.1, r.2.2.2.2.2.2.2.1⟩, W.js.set ix ⟨r.2.1, r.2.2.2.2.2.2.2.2.2.2.2, r.2.2.1, r.2.2.2.1⟩⟩) := by
  exact (convG (d := ⟨r.2.2.2.2.2.2.2.2.1, r.2.2.2.2.2.2.2.2.2.1, r.2.2.2.2.2.2.2.2.2.2.1, r.2.2.2.2.1, r.2.2.2.2.2.1, r.2.2.2.2.2.2.1, r.2.2.2.2.2.2.2.1⟩) 3 4 (by decide) (by decide) (by decide) (fun p hp => by
   simp only [diskX, List.mem_cons, List.not_mem_nil, or_false] at hp
   rcases hp with rfl | rfl | rfl | rfl
   ·exact mL 1 kr
   ·exact mL 2 kr
   ·exact mL 3 kr
   ·exact mL 4 kr) (fun p hp => by
   rcases mem_set hj hp with hp | hp
   ·simp only [jF, List.mem_cons, List.not_mem_nil, or_false] at hp
    rcases hp with rfl | rfl
    ·exact mL 0 kr
    ·exact mL 5 kr
   ·exact List.mem_append_right _ hp) (fun a ha => by
   rcases keyX hns ha with ha | ha
   ·simp at ha
    have := hi; simp only [List.length_set]; first | omega | (rcases (show a < 10 ∨ a = 10 + 2 * ix ∨ a = 11 + 2 * ix by omega) with h | h | h; exact .inl h; exact .inr ⟨ix, hi, .inl h⟩; exact .inr ⟨ix, hi, .inr h⟩)
   ·obtain ⟨t, h1, _, h2⟩ := restJ_key hj ha; exact .inr ⟨t, by rw [List.length_set]; exact h1, h2⟩))
 exact lift (A := [(1000000, .box 70 [.ptr 1000001 0 0, iI j.file, .sl 1 1000005 ((j.recs).length) 0 ((j.recs).length), iI j.bytes, .bool j.broken]), (1000001, .box 64 [.mp 1000002, .sl 2 1000003 ((W.d.queue).length) 0 ((W.d.queue).length), .mp 1000004, iI W.d.lost, .bool W.d.down, iI W.d.armed, .vs 1 (mI W.d.keep)]), (1000002, (oF W.d.files)), (1000003, (oQ W.d.queue)), (1000004, (oS W.d.dset)), (1000005, .row 9 1 0 (mS j.recs))]) (A' := [(1000000, .box 70 [.ptr 1000001 0 0, iI r.2.1, .sl 1 1000005 ((r.2.2.2.2.2.2.2.2.2.2.2).length) 0 ((r.2.2.2.2.2.2.2.2.2.2.2).length), iI r.2.2.1, .bool r.2.2.2.1]), (1000001, .box 64 [.mp 1000002, .sl 2 1000003 ((r.2.2.2.2.2.2.2.2.2.1).length) 0 ((r.2.2.2.2.2.2.2.2.2.1).length), .mp 1000004, iI r.2.2.2.2.1, .bool r.2.2.2.2.2.1, iI r.2.2.2.2.2.2.1, .vs 1 (mI r.2.2.2.2.2.2.2.1)]), (1000002, (oF r.2.2.2.2.2.2.2.2.1)), (1000003, (oQ r.2.2.2.2.2.2.2.2.2.1)), (1000004, (oS r.2.2.2.2.2.2.2.2.2.2.1)), (1000005, .row 9 1 0 (mS r.2.2.2.2.2.2.2.2.2.2.2))]) W ⟨⟨r.2.2.2.2.2.2.2.2.1, r.2.2.2.2.2.2.2.2.2.1, r.2.2.2.2.2.2.2.2.2.2.1, r.2.2.2.2.1, r.2.2.2.2.2.1, r.2.2.2.2.2.2.1, r.2.2.2.2.2.2.2.1⟩, W.js.set ix ⟨r.2.1, r.2.2.2.2.2.2.2.2.2.2.2, r.2.2.1, r.2.2.2.1⟩⟩ (asg [(1000001, 1), (1000002, 2), (1000003, 3), (1000004, 4), (1000000, 10 + 2 * ix), (1000005, 11 + 2 * ix)]) (restJ W ix) [10 + 2 * ix, 1, 2, 3, 4, 11 + 2 * ix] (w_journal_Journal_Append_n (ob0 := ob0) (ob1 := ob1) (ob2 := ob2) (u1 := u1) (u2 := u2) W.d.files W.d.queue W.d.dset W.d.lost W.d.down W.d.armed W.d.keep j.file j.recs j.bytes j.broken record r hs) ⟨by kernel_rfl, by kernel_rfl, by kernel_rfl⟩ hns (by simp <;> omega) (fun a ha => by simp at ha; omega) kr kr (fun a ha b hb => by
  simp at ha
  obtain ⟨t, h1, h2, h3⟩ := restJ_key hj hb
  omega) (fun b hb => by
  obtain ⟨t, h1, h2, h3⟩ := restJ_key hj hb
  omega) ((List.Perm.of_eq kr).trans (permJ hj)) hc hW (show hkBL sJ [.ptr (10 + 2 * ix) 0 0, .str record] = true by simp [hkBL, V.hkB, sJ_1, sJ_j (show ix < 400000 by omega)]) (show V.hkB sJ (iI r.1) = true by simp [hkBL, V.hkB, sJ_1, sJ_j (show ix < 400000 by omega)])
theorem h_append_x (W : Wd) {ix : Nat} {j : Jrn} (hj : W.js[ix]? = some j) (record : (List UInt8)) (r : (List (Int × disk_file)) × Int × (List Int) × (List disk_sector) × (List (disk_sector × Bool)) × Int × Int) (hs : s_journal_Journal_Append_x W.d.files W.d.queue W.d.dset W.d.lost W.d.down W.d.armed W.d.keep j.file j.recs j.bytes j.broken record = some r) (hW : W.js.length < 400000) :
  FnA Tryd.prog 11 [.gv 1000000 (hpl (10 + 2 * ix) 0), .str record] ((1000000, .gen (EV.hide sJ (stF W))) :: gl ob0 ob1 ob2 u1 u2) (iI 8) ((1000000, .gen (EV.hide sJ (stF ⟨⟨r.1, [], [], r.2.1, true, 0, r.2.2.1⟩, W.js.set ix ⟨r.2.2.2.2.2.1, j.recs, r.2.2.2.2.2.2, true⟩⟩))) :: gl ob0 ob1 ob2 u1 u2) := by
 have hi : ix < W.js.length := (List.getElem?_eq_some_iff.1 hj).1
 have hns : (keys [(3004000, (oS [])), (1000002, (oF r.1)), (1000001, .box 64 [.mp 1000002, .nils, .mp 3004000, iI r.2.1, .bool true, iI 0, .vs 1 (mI r.2.2.1)]), (1000003, (oQ r.2.2.2.1)), (1000004, (oS r.2.2.2.2.1)), (1000000, .box 70 [.ptr 1000001 0 0, iI r.2.2.2.2.2.1, .sl 1 1000005 ((j.recs).length) 0 ((j.recs).length), iI r.2.2.2.2.2.2, .bool true]), (1000005, .row 9 1 0 (mS j.recs))]).map (asg [(1000001, 1), (1000002, 2), (1000003, 3), (1000004, 4), (1000000, 10 + 2 * ix), (1000005, 11 + 2 * ix), (3004000, 5)]) = [5, 2, 1, 3, 4, 10 + 2 * ix, 11 + 2 * ix] := by kernel_rfl
 have hc : Conv sJ (renH (asg [(1000001, 1), (1000002, 2), (1000003, 3), (1000004, 4), (1000000, 10 + 2 * ix), (1000005, 11 + 2 * ix), (3004000, 5)]) [(3004000, (oS [])), (1000002, (oF r.1)), (1000001, .box 64 [.mp 1000002, .nils, .mp 3004000, iI r.2.1, .bool true, iI 0, .vs 1 (mI r.2.2.1)]), (1000003, (oQ r.2.2.2.1)), (1000004, (oS r.2.2.2.2.1)), (1000000, .box 70 [.ptr 1000001 0 0, iI r.2.2.2.2.2.1, .sl 1 1000005 ((j.recs).length) 0 ((j.recs).length), iI r.2.2.2.2.2.2, .bool true]), (1000005, .row 9 1 0 (mS j.recs))] ++ (restJ W ix)) (stF ⟨⟨r.1, [], [], r.2.1, true, 0, r.2.2.1⟩, W.js.set ix ⟨r.2.2.2.2.2.1, j.recs, r.2.2.2.2.2.2, true⟩⟩) := by
  exact (convN (d := ⟨r.1, [], [], r.2.1, true, 0, r.2.2.1⟩) 5 (by decide) (fun p hp => by
   simp only [diskN, List.mem_cons, List.not_mem_nil, or_false] at hp
   rcases hp with rfl | rfl | rfl
   ·exact mL 2 kr
   ·exact mL 1 kr
   ·exact mL 0 kr) (fun p hp => by
   rcases mem_set hj hp with hp | hp
   ·simp only [jF, List.mem_cons, List.not_mem_nil, or_false] at hp
    rcases hp with rfl | rfl
    ·exact mL 5 kr
    ·exact mL 6 kr
   ·exact List.mem_append_right _ hp) (fun a ha => by
   rcases keyX hns ha with ha | ha
   ·simp at ha
    have := hi; simp only [List.length_set]; first | omega | (rcases (show a < 10 ∨ a = 10 + 2 * ix ∨ a = 11 + 2 * ix by omega) with h | h | h; exact .inl h; exact .inr ⟨ix, hi, .inl h⟩; exact .inr ⟨ix, hi, .inr h⟩)
   ·obtain ⟨t, h1, _, h2⟩ := restJ_key hj ha; exact .inr ⟨t, by rw [List.length_set]; exact h1, h2⟩))
 exact lift (A := [(1000000, .box 70 [.ptr 1000001 0 0, iI j.file, .sl 1 1000005 ((j.recs).length) 0 ((j.recs).length), iI j.bytes, .bool j.broken]), (1000001, .box 64 [.mp 1000002, .sl 2 1000003 ((W.d.queue).length) 0 ((W.d.queue).length), .mp 1000004, iI W.d.lost, .bool W.d.down, iI W.d.armed, .vs 1 (mI W.d.keep)]), (1000002, (oF W.d.files)), (1000003, (oQ W.d.queue)), (1000004, (oS W.d.dset)), (1000005, .row 9 1 0 (mS j.recs))]) (A' := [(3004000, (oS [])), (1000002, (oF r.1)), (1000001, .box 64 [.mp 1000002, .nils, .mp 3004000, iI r.2.1, .bool true, iI 0, .vs 1 (mI r.2.2.1)]), (1000003, (oQ r.2.2.2.1)), (1000004, (oS r.2.2.2.2.1)), (1000000, .box 70 [.ptr 1000001 0 0, iI r.2.2.2.2.2.1, .sl 1 1000005 ((j.recs).length) 0 ((j.recs).length), iI r.2.2.2.2.2.2, .bool true]), (1000005, .row 9 1 0 (mS j.recs))]) W ⟨⟨r.1, [], [], r.2.1, true, 0, r.2.2.1⟩, W.js.set ix ⟨r.2.2.2.2.2.1, j.recs, r.2.2.2.2.2.2, true⟩⟩ (asg [(1000001, 1), (1000002, 2), (1000003, 3), (1000004, 4), (1000000, 10 + 2 * ix), (1000005, 11 + 2 * ix), (3004000, 5)]) (restJ W ix) [5, 2, 1, 3, 4, 10 + 2 * ix, 11 + 2 * ix] (w_journal_Journal_Append_x (ob0 := ob0) (ob1 := ob1) (ob2 := ob2) (u1 := u1) (u2 := u2) W.d.files W.d.queue W.d.dset W.d.lost W.d.down W.d.armed W.d.keep j.file j.recs j.bytes j.broken record r hs) ⟨by kernel_rfl, by kernel_rfl, by kernel_rfl⟩ hns (by simp <;> omega) (fun a ha => by simp at ha; omega) kr kr (fun a ha b hb => by
  simp at ha
  obtain ⟨t, h1, h2, h3⟩ := restJ_key hj hb
  omega) (fun b hb => by
  obtain ⟨t, h1, h2, h3⟩ := restJ_key hj hb
  omega) ((List.Perm.of_eq kr).trans (permJ hj)) hc hW (show hkBL sJ [.ptr (10 + 2 * ix) 0 0, .str record] = true by simp [hkBL, V.hkB, sJ_1, sJ_j (show ix < 400000 by omega)]) (show V.hkB sJ (iI 8) = true by simp [hkBL, V.hkB, sJ_1, sJ_j (show ix < 400000 by omega)])
theorem h_len (W : Wd) {ix : Nat} {j : Jrn} (hj : W.js[ix]? = some j) (r : Int × Int × Int × Bool × Int × Bool × Int × (List Int)) (hs : s_journal_Journal_Len W.d.files W.d.queue W.d.dset W.d.lost W.d.down W.d.armed W.d.keep j.file j.recs j.bytes j.broken = some r) (hW : W.js.length < 400000) :
  FnA Tryd.prog 17 [.gv 1000000 (hpl (10 + 2 * ix) 0)] ((1000000, .gen (EV.hide sJ (stF W))) :: gl ob0 ob1 ob2 u1 u2) (iI r.1) ((1000000, .gen (EV.hide sJ (stF ⟨⟨W.d.files, W.d.queue, W.d.dset, r.2.2.2.2.1, r.2.2.2.2.2.1, r.2.2.2.2.2.2.1, r.2.2.2.2.2.2.2⟩, W.js.set ix ⟨r.2.1, j.recs, r.2.2.1, r.2.2.2.1⟩⟩))) :: gl ob0 ob1 ob2 u1 u2) := by
 have hi : ix < W.js.length := (List.getElem?_eq_some_iff.1 hj).1
 have hns : (keys [(1000000, .box 70 [.ptr 1000001 0 0, iI r.2.1, .sl 1 1000005 ((j.recs).length) 0 ((j.recs).length), iI r.2.2.1, .bool r.2.2.2.1]), (1000001, .box 64 [.mp 1000002, .sl 2 1000003 ((W.d.queue).length) 0 ((W.d.queue).length), .mp 1000004, iI r.2.2.2.2.1, .bool r.2.2.2.2.2.1, iI r.2.2.2.2.2.2.1, .vs 1 (mI r.2.2.2.2.2.2.2)]), (1000002, (oF W.d.files)), (1000003, (oQ W.d.queue)), (1000004, (oS W.d.dset)), (1000005, .row 9 1 0 (mS j.recs))]).map (asg [(1000001, 1), (1000002, 2), (1000003, 3), (1000004, 4), (1000000, 10 + 2 * ix), (1000005, 11 + 2 * ix)]) = [10 + 2 * ix, 1, 2, 3, 4, 11 + 2 * ix] := by kernel_rfl
 have hc : Conv sJ (renH (asg [(1000001, 1), (1000002, 2), (1000003, 3), (1000004, 4), (1000000, 10 + 2 * ix), (1000005, 11 + 2 * ix)]) [(1000000, .box 70 [.ptr 1000001 0 0, iI r.2.1, .sl 1 1000005 ((j.recs).length) 0 ((j.recs).length), iI r.2.2.1, .bool r.2.2.2.1]), (1000001, .box 64 [.mp 1000002, .sl 2 1000003 ((W.d.queue).length) 0 ((W.d.queue).length), .mp 1000004, iI r.2.2.2.2.1, .bool r.2.2.2.2.2.1, iI r.2.2.2.2.2.2.1, .vs 1 (mI r.2.2.2.2.2.2.2)]), (1000002, (oF W.d.files)), (1000003, (oQ W.d.queue)), (1000004, (oS W.d.dset)), (1000005, .row 9 1 0 (mS j.recs))] ++ (restJ W ix)) (stF ⟨⟨W.d.files, W.d.queue, W.d.dset, r.2.2.2.2.1, r.2.2.2.2.2.1, r.2.2.2.2.2.2.1, r.2.2.2.2.2.2.2⟩, W.js.set ix ⟨r.2.1, j.recs, r.2.2.1, r.2.2.2.1⟩⟩) := by
  exact (convG (d := ⟨W.d.files, W.d.queue, W.d.dset, r.2.2.2.2.1, r.2.2.2.2.2.1, r.2.2.2.2.2.2.1, r.2.2.2.2.2.2.2⟩) 3 4 (by decide) (by decide) (by decide) (fun p hp => by
   simp only [diskX, List.mem_cons, List.not_mem_nil, or_false] at hp
   rcases hp with rfl | rfl | rfl | rfl
   ·exact mL 1 kr
   ·exact mL 2 kr
   ·exact mL 3 kr
   ·exact mL 4 kr) (fun p hp => by
   rcases mem_set hj hp with hp | hp
   ·simp only [jF, List.mem_cons, List.not_mem_nil, or_false] at hp
    rcases hp with rfl | rfl
    ·exact mL 0 kr
    ·exact mL 5 kr
   ·exact List.mem_append_right _ hp) (fun a ha => by
   rcases keyX hns ha with ha | ha
   ·simp at ha
    have := hi; simp only [List.length_set]; first | omega | (rcases (show a < 10 ∨ a = 10 + 2 * ix ∨ a = 11 + 2 * ix by omega) with h | h | h; exact .inl h; exact .inr ⟨ix, hi, .inl h⟩; exact .inr ⟨ix, hi, .inr h⟩)
   ·obtain ⟨t, h1, _, h2⟩ := restJ_key hj ha; exact .inr ⟨t, by rw [List.length_set]; exact h1, h2⟩))
 exact lift (A := [(1000000, .box 70 [.ptr 1000001 0 0, iI j.file, .sl 1 1000005 ((j.recs).length) 0 ((j.recs).length), iI j.bytes, .bool j.broken]), (1000001, .box 64 [.mp 1000002, .sl 2 1000003 ((W.d.queue).length) 0 ((W.d.queue).length), .mp 1000004, iI W.d.lost, .bool W.d.down, iI W.d.armed, .vs 1 (mI W.d.keep)]), (1000002, (oF W.d.files)), (1000003, (oQ W.d.queue)), (1000004, (oS W.d.dset)), (1000005, .row 9 1 0 (mS j.recs))]) (A' := [(1000000, .box 70 [.ptr 1000001 0 0, iI r.2.1, .sl 1 1000005 ((j.recs).length) 0 ((j.recs).length), iI r.2.2.1, .bool r.2.2.2.1]), (1000001, .box 64 [.mp 1000002, .sl 2 1000003 ((W.d.queue).length) 0 ((W.d.queue).length), .mp 1000004, iI r.2.2.2.2.1, .bool r.2.2.2.2.2.1, iI r.2.2.2.2.2.2.1, .vs 1 (mI r.2.2.2.2.2.2.2)]), (1000002, (oF W.d.files)), (1000003, (oQ W.d.queue)), (1000004, (oS W.d.dset)), (1000005, .row 9 1 0 (mS j.recs))]) W ⟨⟨W.d.files, W.d.queue, W.d.dset, r.2.2.2.2.1, r.2.2.2.2.2.1, r.2.2.2.2.2.2.1, r.2.2.2.2.2.2.2⟩, W.js.set ix ⟨r.2.1, j.recs, r.2.2.1, r.2.2.2.1⟩⟩ (asg [(1000001, 1), (1000002, 2), (1000003, 3), (1000004, 4), (1000000, 10 + 2 * ix), (1000005, 11 + 2 * ix)]) (restJ W ix) [10 + 2 * ix, 1, 2, 3, 4, 11 + 2 * ix] (FnA.withG (gl ob0 ob1 ob2 u1 u2) (w_journal_Journal_Len W.d.files W.d.queue W.d.dset W.d.lost W.d.down W.d.armed W.d.keep j.file j.recs j.bytes j.broken r hs) kr kr kr kr) ⟨by kernel_rfl, by kernel_rfl, by kernel_rfl⟩ hns (by simp <;> omega) (fun a ha => by simp at ha; omega) kr kr (fun a ha b hb => by
  simp at ha
  obtain ⟨t, h1, h2, h3⟩ := restJ_key hj hb
  omega) (fun b hb => by
  obtain ⟨t, h1, h2, h3⟩ := restJ_key hj hb
  omega) ((List.Perm.of_eq kr).trans (permJ hj)) hc hW (show hkBL sJ [.ptr (10 + 2 * ix) 0 0] = true by simp [hkBL, V.hkB, sJ_1, sJ_j (show ix < 400000 by omega)]) (show V.hkB sJ (iI r.1) = true by simp [hkBL, V.hkB, sJ_1, sJ_j (show ix < 400000 by omega)])
theorem h_get (W : Wd) {ix : Nat} {j : Jrn} (hj : W.js[ix]? = some j) (i : Int) (r : (List UInt8) × Int × Int × Bool × Int × Bool × Int × (List Int)) (hs : s_journal_Journal_Get W.d.files W.d.queue W.d.dset W.d.lost W.d.down W.d.armed W.d.keep j.file j.recs j.bytes j.broken i = some r) (hW : W.js.length < 400000) :
  FnA Tryd.prog 18 [.gv 1000000 (hpl (10 + 2 * ix) 0), iI i] ((1000000, .gen (EV.hide sJ (stF W))) :: gl ob0 ob1 ob2 u1 u2) (.str r.1) ((1000000, .gen (EV.hide sJ (stF ⟨⟨W.d.files, W.d.queue, W.d.dset, r.2.2.2.2.1, r.2.2.2.2.2.1, r.2.2.2.2.2.2.1, r.2.2.2.2.2.2.2⟩, W.js.set ix ⟨r.2.1, j.recs, r.2.2.1, r.2.2.2.1⟩⟩))) :: gl ob0 ob1 ob2 u1 u2) := by
 have hi : ix < W.js.length := (List.getElem?_eq_some_iff.1 hj).1
 have hns : (keys [(1000000, .box 70 [.ptr 1000001 0 0, iI r.2.1, .sl 1 1000005 ((j.recs).length) 0 ((j.recs).length), iI r.2.2.1, .bool r.2.2.2.1]), (1000001, .box 64 [.mp 1000002, .sl 2 1000003 ((W.d.queue).length) 0 ((W.d.queue).length), .mp 1000004, iI r.2.2.2.2.1, .bool r.2.2.2.2.2.1, iI r.2.2.2.2.2.2.1, .vs 1 (mI r.2.2.2.2.2.2.2)]), (1000002, (oF W.d.files)), (1000003, (oQ W.d.queue)), (1000004, (oS W.d.dset)), (1000005, .row 9 1 0 (mS j.recs))]).map (asg [(1000001, 1), (1000002, 2), (1000003, 3), (1000004, 4), (1000000, 10 + 2 * ix), (1000005, 11 + 2 * ix)]) = [10 + 2 * ix, 1, 2, 3, 4, 11 + 2 * ix] := by kernel_rfl
 have hc : Conv sJ (renH (asg [(1000001, 1), (1000002, 2), (1000003, 3), (1000004, 4), (1000000, 10 + 2 * ix), (1000005, 11 + 2 * ix)]) [(1000000, .box 70 [.ptr 1000001 0 0, iI r.2.1, .sl 1 1000005 ((j.recs).length) 0 ((j.recs).length), iI r.2.2.1, .bool r.2.2.2.1]), (1000001, .box 64 [.mp 1000002, .sl 2 1000003 ((W.d.queue).length) 0 ((W.d.queue).length), .mp 1000004, iI r.2.2.2.2.1, .bool r.2.2.2.2.2.1, iI r.2.2.2.2.2.2.1, .vs 1 (mI r.2.2.2.2.2.2.2)]), (1000002, (oF W.d.files)), (1000003, (oQ W.d.queue)), (1000004, (oS W.d.dset)), (1000005, .row 9 1 0 (mS j.recs))] ++ (restJ W ix)) (stF ⟨⟨W.d.files, W.d.queue, W.d.dset, r.2.2.2.2.1, r.2.2.2.2.2.1, r.2.2.2.2.2.2.1, r.2.2.2.2.2.2.2⟩, W.js.set ix ⟨r.2.1, j.recs, r.2.2.1, r.2.2.2.1⟩⟩) := by
  exact (convG (d := ⟨W.d.files, W.d.queue, W.d.dset, r.2.2.2.2.1, r.2.2.2.2.2.1, r.2.2.2.2.2.2.1, r.2.2.2.2.2.2.2⟩) 3 4 (by decide) (by decide) (by decide) (fun p hp => by
   simp only [diskX, List.mem_cons, List.not_mem_nil, or_false] at hp
   rcases hp with rfl | rfl | rfl | rfl
   ·exact mL 1 kr
   ·exact mL 2 kr
   ·exact mL 3 kr
   ·exact mL 4 kr) (fun p hp => by
   rcases mem_set hj hp with hp | hp
   ·simp only [jF, List.mem_cons, List.not_mem_nil, or_false] at hp
    rcases hp with rfl | rfl
    ·exact mL 0 kr
    ·exact mL 5 kr
   ·exact List.mem_append_right _ hp) (fun a ha => by
   rcases keyX hns ha with ha | ha
   ·simp at ha
    have := hi; simp only [List.length_set]; first | omega | (rcases (show a < 10 ∨ a = 10 + 2 * ix ∨ a = 11 + 2 * ix by omega) with h | h | h; exact .inl h; exact .inr ⟨ix, hi, .inl h⟩; exact .inr ⟨ix, hi, .inr h⟩)
   ·obtain ⟨t, h1, _, h2⟩ := restJ_key hj ha; exact .inr ⟨t, by rw [List.length_set]; exact h1, h2⟩))
 exact lift (A := [(1000000, .box 70 [.ptr 1000001 0 0, iI j.file, .sl 1 1000005 ((j.recs).length) 0 ((j.recs).length), iI j.bytes, .bool j.broken]), (1000001, .box 64 [.mp 1000002, .sl 2 1000003 ((W.d.queue).length) 0 ((W.d.queue).length), .mp 1000004, iI W.d.lost, .bool W.d.down, iI W.d.armed, .vs 1 (mI W.d.keep)]), (1000002, (oF W.d.files)), (1000003, (oQ W.d.queue)), (1000004, (oS W.d.dset)), (1000005, .row 9 1 0 (mS j.recs))]) (A' := [(1000000, .box 70 [.ptr 1000001 0 0, iI r.2.1, .sl 1 1000005 ((j.recs).length) 0 ((j.recs).length), iI r.2.2.1, .bool r.2.2.2.1]), (1000001, .box 64 [.mp 1000002, .sl 2 1000003 ((W.d.queue).length) 0 ((W.d.queue).length), .mp 1000004, iI r.2.2.2.2.1, .bool r.2.2.2.2.2.1, iI r.2.2.2.2.2.2.1, .vs 1 (mI r.2.2.2.2.2.2.2)]), (1000002, (oF W.d.files)), (1000003, (oQ W.d.queue)), (1000004, (oS W.d.dset)), (1000005, .row 9 1 0 (mS j.recs))]) W ⟨⟨W.d.files, W.d.queue, W.d.dset, r.2.2.2.2.1, r.2.2.2.2.2.1, r.2.2.2.2.2.2.1, r.2.2.2.2.2.2.2⟩, W.js.set ix ⟨r.2.1, j.recs, r.2.2.1, r.2.2.2.1⟩⟩ (asg [(1000001, 1), (1000002, 2), (1000003, 3), (1000004, 4), (1000000, 10 + 2 * ix), (1000005, 11 + 2 * ix)]) (restJ W ix) [10 + 2 * ix, 1, 2, 3, 4, 11 + 2 * ix] (FnA.withG (gl ob0 ob1 ob2 u1 u2) (w_journal_Journal_Get W.d.files W.d.queue W.d.dset W.d.lost W.d.down W.d.armed W.d.keep j.file j.recs j.bytes j.broken i r hs) kr kr kr kr) ⟨by kernel_rfl, by kernel_rfl, by kernel_rfl⟩ hns (by simp <;> omega) (fun a ha => by simp at ha; omega) kr kr (fun a ha b hb => by
  simp at ha
  obtain ⟨t, h1, h2, h3⟩ := restJ_key hj hb
  omega) (fun b hb => by
  obtain ⟨t, h1, h2, h3⟩ := restJ_key hj hb
  omega) ((List.Perm.of_eq kr).trans (permJ hj)) hc hW (show hkBL sJ [.ptr (10 + 2 * ix) 0 0, iI i] = true by simp [hkBL, V.hkB, sJ_1, sJ_j (show ix < 400000 by omega)]) (show V.hkB sJ (.str r.1) = true by simp [hkBL, V.hkB, sJ_1, sJ_j (show ix < 400000 by omega)])
theorem h_all (W : Wd) {ix : Nat} {j : Jrn} (hj : W.js[ix]? = some j) (r : (List (List UInt8)) × Int × Int × Bool × Int × Bool × Int × (List Int)) (hs : s_journal_Journal_All W.d.files W.d.queue W.d.dset W.d.lost W.d.down W.d.armed W.d.keep j.file j.recs j.bytes j.broken = some r) (hW : W.js.length < 400000) :
  FnA Tryd.prog 16 [.gv 1000000 (hpl (10 + 2 * ix) 0)] ((1000000, .gen (EV.hide sJ (stF W))) :: gl ob0 ob1 ob2 u1 u2) (.sl 1 1000001 ((r.1).length) 0 ((r.1).length)) ((1000000, .gen (EV.hide sJ (stF ⟨⟨W.d.files, W.d.queue, W.d.dset, r.2.2.2.2.1, r.2.2.2.2.2.1, r.2.2.2.2.2.2.1, r.2.2.2.2.2.2.2⟩, W.js.set ix ⟨r.2.1, j.recs, r.2.2.1, r.2.2.2.1⟩⟩))) :: ([(1000001, .row 9 1 0 (mS r.1))] ++ gl ob0 ob1 ob2 u1 u2)) := by
 have hi : ix < W.js.length := (List.getElem?_eq_some_iff.1 hj).1
 have hns : (keys [(1000005, .row 9 1 0 (mS j.recs)), (1000000, .box 70 [.ptr 1000001 0 0, iI r.2.1, .sl 1 1000005 ((j.recs).length) 0 ((j.recs).length), iI r.2.2.1, .bool r.2.2.2.1]), (1000001, .box 64 [.mp 1000002, .sl 2 1000003 ((W.d.queue).length) 0 ((W.d.queue).length), .mp 1000004, iI r.2.2.2.2.1, .bool r.2.2.2.2.2.1, iI r.2.2.2.2.2.2.1, .vs 1 (mI r.2.2.2.2.2.2.2)]), (1000002, (oF W.d.files)), (1000003, (oQ W.d.queue)), (1000004, (oS W.d.dset))]).map (asg [(1000001, 1), (1000002, 2), (1000003, 3), (1000004, 4), (1000000, 10 + 2 * ix), (1000005, 11 + 2 * ix), (9, 1000001)]) = [11 + 2 * ix, 10 + 2 * ix, 1, 2, 3, 4] := by kernel_rfl
 have hc : Conv sJ (renH (asg [(1000001, 1), (1000002, 2), (1000003, 3), (1000004, 4), (1000000, 10 + 2 * ix), (1000005, 11 + 2 * ix), (9, 1000001)]) [(1000005, .row 9 1 0 (mS j.recs)), (1000000, .box 70 [.ptr 1000001 0 0, iI r.2.1, .sl 1 1000005 ((j.recs).length) 0 ((j.recs).length), iI r.2.2.1, .bool r.2.2.2.1]), (1000001, .box 64 [.mp 1000002, .sl 2 1000003 ((W.d.queue).length) 0 ((W.d.queue).length), .mp 1000004, iI r.2.2.2.2.1, .bool r.2.2.2.2.2.1, iI r.2.2.2.2.2.2.1, .vs 1 (mI r.2.2.2.2.2.2.2)]), (1000002, (oF W.d.files)), (1000003, (oQ W.d.queue)), (1000004, (oS W.d.dset))] ++ (restJ W ix)) (stF ⟨⟨W.d.files, W.d.queue, W.d.dset, r.2.2.2.2.1, r.2.2.2.2.2.1, r.2.2.2.2.2.2.1, r.2.2.2.2.2.2.2⟩, W.js.set ix ⟨r.2.1, j.recs, r.2.2.1, r.2.2.2.1⟩⟩) := by
  exact (convG (d := ⟨W.d.files, W.d.queue, W.d.dset, r.2.2.2.2.1, r.2.2.2.2.2.1, r.2.2.2.2.2.2.1, r.2.2.2.2.2.2.2⟩) 3 4 (by decide) (by decide) (by decide) (fun p hp => by
   simp only [diskX, List.mem_cons, List.not_mem_nil, or_false] at hp
   rcases hp with rfl | rfl | rfl | rfl
   ·exact mL 2 kr
   ·exact mL 3 kr
   ·exact mL 4 kr
   ·exact mL 5 kr) (fun p hp => by
   rcases mem_set hj hp with hp | hp
   ·simp only [jF, List.mem_cons, List.not_mem_nil, or_false] at hp
    rcases hp with rfl | rfl
    ·exact mL 1 kr
    ·exact mL 0 kr
   ·exact List.mem_append_right _ hp) (fun a ha => by
   rcases keyX hns ha with ha | ha
   ·simp at ha
    have := hi; simp only [List.length_set]; first | omega | (rcases (show a < 10 ∨ a = 10 + 2 * ix ∨ a = 11 + 2 * ix by omega) with h | h | h; exact .inl h; exact .inr ⟨ix, hi, .inl h⟩; exact .inr ⟨ix, hi, .inr h⟩)
   ·obtain ⟨t, h1, _, h2⟩ := restJ_key hj ha; exact .inr ⟨t, by rw [List.length_set]; exact h1, h2⟩))
 exact liftE (A := [(1000000, .box 70 [.ptr 1000001 0 0, iI j.file, .sl 1 1000005 ((j.recs).length) 0 ((j.recs).length), iI j.bytes, .bool j.broken]), (1000001, .box 64 [.mp 1000002, .sl 2 1000003 ((W.d.queue).length) 0 ((W.d.queue).length), .mp 1000004, iI W.d.lost, .bool W.d.down, iI W.d.armed, .vs 1 (mI W.d.keep)]), (1000002, (oF W.d.files)), (1000003, (oQ W.d.queue)), (1000004, (oS W.d.dset)), (1000005, .row 9 1 0 (mS j.recs))]) (A' := [(1000005, .row 9 1 0 (mS j.recs)), (1000000, .box 70 [.ptr 1000001 0 0, iI r.2.1, .sl 1 1000005 ((j.recs).length) 0 ((j.recs).length), iI r.2.2.1, .bool r.2.2.2.1]), (1000001, .box 64 [.mp 1000002, .sl 2 1000003 ((W.d.queue).length) 0 ((W.d.queue).length), .mp 1000004, iI r.2.2.2.2.1, .bool r.2.2.2.2.2.1, iI r.2.2.2.2.2.2.1, .vs 1 (mI r.2.2.2.2.2.2.2)]), (1000002, (oF W.d.files)), (1000003, (oQ W.d.queue)), (1000004, (oS W.d.dset))]) (ke := 9) W ⟨⟨W.d.files, W.d.queue, W.d.dset, r.2.2.2.2.1, r.2.2.2.2.2.1, r.2.2.2.2.2.2.1, r.2.2.2.2.2.2.2⟩, W.js.set ix ⟨r.2.1, j.recs, r.2.2.1, r.2.2.2.1⟩⟩ (asg [(1000001, 1), (1000002, 2), (1000003, 3), (1000004, 4), (1000000, 10 + 2 * ix), (1000005, 11 + 2 * ix), (9, 1000001)]) (restJ W ix) [11 + 2 * ix, 10 + 2 * ix, 1, 2, 3, 4] (FnA.withG (gl ob0 ob1 ob2 u1 u2) (w_journal_Journal_All W.d.files W.d.queue W.d.dset W.d.lost W.d.down W.d.armed W.d.keep j.file j.recs j.bytes j.broken r hs) kr kr kr kr) ⟨by kernel_rfl, by kernel_rfl, by kernel_rfl⟩ hns (by simp <;> omega) (fun a ha => by simp at ha; omega) kr kr (fun a ha b hb => by
  simp at ha
  obtain ⟨t, h1, h2, h3⟩ := restJ_key hj hb
  omega) (fun b hb => by
  obtain ⟨t, h1, h2, h3⟩ := restJ_key hj hb
  omega) ((List.Perm.of_eq kr).trans (permJ hj)) hc hW (show hkBL sJ [.ptr (10 + 2 * ix) 0 0] = true by simp [hkBL, V.hkB, sJ_1, sJ_j (show ix < 400000 by omega)]) kr (fun j hj => List.mem_singleton.1 hj)
theorem wk_size (W : Wd) (f : Int) (r : Int × Wd) (hs : k_size W f = some r) : FnA Tryd.prog 12 [.gv 1000000 (hpl 1 0), iI f] ((1000000, .gen (EV.hide sJ (stF W))) :: gl ob0 ob1 ob2 u1 u2) (iI r.1) ((1000000, .gen (EV.hide sJ (stF r.2))) :: gl ob0 ob1 ob2 u1 u2) := by
 unfold k_size at hs
 obtain ⟨_, hW, hs⟩ := bS hs; replace hW := grd_some hW
 obtain ⟨y, h1, hs⟩ := bS hs
 obtain rfl := si hs
 exact FnA.weaken (h_size W f _ h1 hW) (fun _ _ _ h => h) (fun _ _ _ h => h)
theorem wk_read (W : Wd) (f : Int) (at_ : Int) (size : Int) (r : ((List UInt8) × Int) × Wd) (hs : k_read W f at_ size = some r) : FnA Tryd.prog 13 [.gv 1000000 (hpl 1 0), iI f, iI at_, iI size] ((1000000, .gen (EV.hide sJ (stF W))) :: gl ob0 ob1 ob2 u1 u2) (.tup [.str r.1.1, iI r.1.2]) ((1000000, .gen (EV.hide sJ (stF r.2))) :: gl ob0 ob1 ob2 u1 u2) := by
 unfold k_read at hs
 obtain ⟨_, hW, hs⟩ := bS hs; replace hW := grd_some hW
 obtain ⟨y, h1, hs⟩ := bS hs
 obtain rfl := si hs
 exact FnA.weaken (h_read W f at_ size _ h1 hW) (fun _ _ _ h => h) (fun _ _ _ h => h)
theorem wk_write (W : Wd) (f : Int) (at_ : Int) (s : (List UInt8)) (r : Int × Wd) (hs : k_write W f at_ s = some r) : FnA Tryd.prog 14 [.gv 1000000 (hpl 1 0), iI f, iI at_, .str s] ((1000000, .gen (EV.hide sJ (stF W))) :: gl ob0 ob1 ob2 u1 u2) (iI r.1) ((1000000, .gen (EV.hide sJ (stF r.2))) :: gl ob0 ob1 ob2 u1 u2) := by
 unfold k_write at hs
 obtain ⟨_, hW, hs⟩ := bS hs; replace hW := grd_some hW
 cases h1 : s_disk_Disk_Write_n W.d.files W.d.queue W.d.dset W.d.lost W.d.down W.d.armed W.d.keep f at_ s
 rotate_left
 ·rename_i y; replace hs := orO_some h1 hs; obtain rfl := si hs
  exact FnA.weaken (h_write_n W f at_ s _ h1 hW) (fun _ _ _ h => h) (fun _ _ _ h => h)
 replace hs := orO_none h1 hs
 cases h2 : s_disk_Disk_Write_x W.d.files W.d.queue W.d.dset W.d.lost W.d.down W.d.armed W.d.keep f at_ s
 ·replace hs := orO_none h2 hs; cases hs
 ·rename_i y; replace hs := orO_some h2 hs; obtain rfl := si hs
  exact FnA.weaken (h_write_x W f at_ s _ h2 hW) (fun _ _ _ h => h) (fun _ _ _ h => h)
theorem wk_open (W : Wd) (file : Int) (r : (Nat × Int) × Wd) (hs : k_open W file = some r) : FnA Tryd.prog 10 [.gv 1000000 (hpl 1 0), iI file] ((1000000, .gen (EV.hide sJ (stF W))) :: gl ob0 ob1 ob2 u1 u2) (.tup [.gv 1000000 (jpv jb r.1.1), iI r.1.2]) ((1000000, .gen (EV.hide sJ (stF r.2))) :: gl ob0 ob1 ob2 u1 u2) := by
 unfold k_open at hs
 obtain ⟨_, hW, hs⟩ := bS hs; replace hW := grd_some hW
 cases h1 : s_journal_Open_n W.d.files W.d.queue W.d.dset W.d.lost W.d.down W.d.armed W.d.keep file
 rotate_left
 ·rename_i y; replace hs := orO_some h1 hs; obtain rfl := si hs
  exact FnA.weaken (h_open_n W file _ h1 hW) (fun _ _ _ h => h) res_n
 replace hs := orO_none h1 hs
 cases h2 : s_journal_Open_x0 W.d.files W.d.queue W.d.dset W.d.lost W.d.down W.d.armed W.d.keep file
 rotate_left
 ·rename_i y; replace hs := orO_some h2 hs; obtain rfl := si hs
  exact FnA.weaken (h_open_x0 W file _ h2 hW) (fun _ _ _ h => h) res_n
 replace hs := orO_none h2 hs
 cases h3 : s_journal_Open_x1 W.d.files W.d.queue W.d.dset W.d.lost W.d.down W.d.armed W.d.keep file
 rotate_left
 ·rename_i y; replace hs := orO_some h3 hs; obtain rfl := si hs
  exact FnA.weaken (h_open_x1 W file _ h3 hW) (fun _ _ _ h => h) res_n
 replace hs := orO_none h3 hs
 cases h4 : s_journal_Open_p1 W.d.files W.d.queue W.d.dset W.d.lost W.d.down W.d.armed W.d.keep file
 rotate_left
 ·rename_i y; replace hs := orO_some h4 hs; obtain rfl := si hs
  exact FnA.weaken (h_open_p1 W file _ h4 hW) (fun _ _ _ h => h) res_j
 replace hs := orO_none h4 hs
 cases h5 : s_journal_Open_p2 W.d.files W.d.queue W.d.dset W.d.lost W.d.down W.d.armed W.d.keep file
 ·replace hs := orO_none h5 hs; cases hs
 ·rename_i y; replace hs := orO_some h5 hs; obtain rfl := si hs
  exact FnA.weaken (h_open_p2 W file _ h5 hW) (fun _ _ _ h => h) res_j
theorem wk_append (W : Wd) (jn : Nat) (record : (List UInt8)) (r : Int × Wd) (hs : k_append W jn record = some r) : FnA Tryd.prog 11 [.gv 1000000 (jpv jb jn), .str record] ((1000000, .gen (EV.hide sJ (stF W))) :: gl ob0 ob1 ob2 u1 u2) (iI r.1) ((1000000, .gen (EV.hide sJ (stF r.2))) :: gl ob0 ob1 ob2 u1 u2) := by
 unfold k_append at hs
 obtain ⟨_, hW, hs⟩ := bS hs; replace hW := grd_some hW
 obtain ⟨_, h0, hs⟩ := bS hs; replace h0 := grd_some h0
 obtain ⟨j, hj, hs⟩ := bS hs
 obtain ⟨ix, rfl⟩ : ∃ ix, jn = ix + 1 := ⟨jn - 1, by omega⟩
 replace hj : W.js[ix]? = some j := hj
 cases h1 : s_journal_Journal_Append_n W.d.files W.d.queue W.d.dset W.d.lost W.d.down W.d.armed W.d.keep j.file j.recs j.bytes j.broken record
 rotate_left
 ·rename_i y; replace hs := orO_some h1 hs; obtain rfl := si hs
  exact FnA.weaken (h_append_n W hj record _ h1 hW) arg_j (fun _ _ _ h => h)
 replace hs := orO_none h1 hs
 cases h2 : s_journal_Journal_Append_x W.d.files W.d.queue W.d.dset W.d.lost W.d.down W.d.armed W.d.keep j.file j.recs j.bytes j.broken record
 ·replace hs := orO_none h2 hs; cases hs
 ·rename_i y; replace hs := orO_some h2 hs; obtain rfl := si hs
  exact FnA.weaken (h_append_x W hj record _ h2 hW) arg_j (fun _ _ _ h => h)
theorem wk_len (W : Wd) (jn : Nat)  (r : Int × Wd) (hs : k_len W jn  = some r) : FnA Tryd.prog 17 [.gv 1000000 (jpv jb jn)] ((1000000, .gen (EV.hide sJ (stF W))) :: gl ob0 ob1 ob2 u1 u2) (iI r.1) ((1000000, .gen (EV.hide sJ (stF r.2))) :: gl ob0 ob1 ob2 u1 u2) := by
 unfold k_len at hs
 obtain ⟨_, hW, hs⟩ := bS hs; replace hW := grd_some hW
 obtain ⟨_, h0, hs⟩ := bS hs; replace h0 := grd_some h0
 obtain ⟨j, hj, hs⟩ := bS hs
 obtain ⟨ix, rfl⟩ : ∃ ix, jn = ix + 1 := ⟨jn - 1, by omega⟩
 replace hj : W.js[ix]? = some j := hj
 obtain ⟨y, h1, hs⟩ := bS hs
 obtain rfl := si hs
 exact FnA.weaken (h_len W hj  _ h1 hW) arg_j (fun _ _ _ h => h)
theorem wk_get (W : Wd) (jn : Nat) (i : Int) (r : (List UInt8) × Wd) (hs : k_get W jn i = some r) : FnA Tryd.prog 18 [.gv 1000000 (jpv jb jn), iI i] ((1000000, .gen (EV.hide sJ (stF W))) :: gl ob0 ob1 ob2 u1 u2) (.str r.1) ((1000000, .gen (EV.hide sJ (stF r.2))) :: gl ob0 ob1 ob2 u1 u2) := by
 unfold k_get at hs
 obtain ⟨_, hW, hs⟩ := bS hs; replace hW := grd_some hW
 obtain ⟨_, h0, hs⟩ := bS hs; replace h0 := grd_some h0
 obtain ⟨j, hj, hs⟩ := bS hs
 obtain ⟨ix, rfl⟩ : ∃ ix, jn = ix + 1 := ⟨jn - 1, by omega⟩
 replace hj : W.js[ix]? = some j := hj
 obtain ⟨y, h1, hs⟩ := bS hs
 obtain rfl := si hs
 exact FnA.weaken (h_get W hj i _ h1 hW) arg_j (fun _ _ _ h => h)
theorem wk_all (W : Wd) (jn : Nat)  (r : (List (List UInt8)) × Wd) (hs : k_all W jn  = some r) : FnA Tryd.prog 16 [.gv 1000000 (jpv jb jn)] ((1000000, .gen (EV.hide sJ (stF W))) :: gl ob0 ob1 ob2 u1 u2) (.sl 1 1000001 (List.length r.1) 0 (List.length r.1)) ((1000000, .gen (EV.hide sJ (stF r.2))) :: ([(1000001, .row 9 1 0 (mS r.1))] ++ gl ob0 ob1 ob2 u1 u2)) := by
 unfold k_all at hs
 obtain ⟨_, hW, hs⟩ := bS hs; replace hW := grd_some hW
 obtain ⟨_, h0, hs⟩ := bS hs; replace h0 := grd_some h0
 obtain ⟨j, hj, hs⟩ := bS hs
 obtain ⟨ix, rfl⟩ : ∃ ix, jn = ix + 1 := ⟨jn - 1, by omega⟩
 replace hj : W.js[ix]? = some j := hj
 obtain ⟨y, h1, hs⟩ := bS hs
 obtain rfl := si hs
 exact FnA.weaken (h_all W hj  _ h1 hW) arg_j (fun _ _ _ h => h)
end Go.Proofs.YtoflckochjijcaaDoor
