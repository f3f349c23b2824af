/- JournalTorn answers true whatever the input, and leaves the input as it was; the listed package variables start as the program's text lays them. -/
import Derived.Test.YtoflckochjijcaaDoorT
import Derived.Test.YtoflckochjijcaaDoorUd
import Derived.Test.YtoflckochjijcaaDoorLc
set_option linter.all false
namespace Go.Proofs.YtoflckochjijcaaDoor
open Go Go.ChangeShapes Go.WideShapes Go.ChangeAt Go.RowKit Go.Deep Go.Joins Go.EV
noncomputable local instance : Fuel := ⟨18446744073709551616, Nat.le_refl _⟩
set_option maxRecDepth 100000 in
theorem torn_lifted (os : Os) (started : os.Started) (H : Type) (enc : TypeId × Value → H) :
    ReturnsInHanded {} Tryd.checked os 3 .any (fun w args => (Rows.journalTornSpec.pre enc Tryd.prog Tryd.f3 [] false w args ∧ laidMetH Tryd.prog laidL w) ∧ sizedMet enc Tryd.prog Tryd.f3 (OpenSpec.ofChange Rows.journalTornSpec) false w args)
      (Rows.journalTornSpec.post enc Tryd.prog Tryd.f3 false true false false) := by
  refine returnsInHanded_of_change_and (C := Tryd.checked) (X := fun w _ => laidMetH Tryd.prog laidL w) (fun _ _ _ hh h => h.of_heap hh) own started (by kernel_rfl) Tryd.func3
    (ChangeSpec.witness_shaped (enc := enc) (C := Tryd.checked) (os := os) (X := fun w _ => laidMetH Tryd.prog laidL w) false (World.doorLaid Tryd.prog 400 os) #[.slice none 0 0, .int .i64 0, .slice none 0 0] 8 rfl (World.shaped_of_RefB (by kernel_rfl) (by kernel_rfl)) (by kernel_rfl) (by kernel_rfl) (by kernel_rfl) (door_met os _)) ?_
  intro W base args ds gs before hval0 hW _ _ hL _
  have hval : ∀ (j : Nat) t v, Tryd.f3.params[j]? = some t → args[j]? = some v → Value.okWide Tryd.prog W .any base t v := hval0
  have hW' := hW
  obtain ⟨p, q, hA0, hV, rfl, hfz, hnd⟩ := hW
  have hA : DataW.TrodAll enc Tryd.prog W 0 (fun _ => true) true Tryd.f3.params.toList args.toList ds p := hA0
  rw [Tryd.params3] at hA hval
  have hA1 := hA
  obtain ⟨v0, vs, d0, ds, p0, q0, ha, rfl, rfl, h0, hA⟩ := trodAll_cons hA
  obtain ⟨v1, vs, d1, ds, p1, q1, rfl, rfl, rfl, h1, hA⟩ := trodAll_cons hA
  obtain ⟨v2, vs, d2, ds, p2, q2, rfl, rfl, rfl, h2, hA⟩ := trodAll_cons hA
  obtain ⟨rfl, rfl, rfl⟩ := trodAll_nil hA
  obtain ⟨rfl, rfl⟩ := trodVars_none hV
  have ha : args = #[v0, v1, v2] := by cases args; simp_all
  subst ha
  obtain ⟨x0, ox0, rx0⟩ := open_strs (hval 0 22 v0 rfl rfl) h0
  obtain ⟨x1, ox1, rx1⟩ := open_num (hval 1 3 v1 rfl rfl) h1
  obtain ⟨x2, ox2, rx2⟩ := open_ints (hval 2 23 v2 rfl rfl) h2
  simp only [List.append_nil] at hW'
  refine Calls.mono (law_calls (f := 3) (args := [.vs 1 (x0.map EV.encS), .int .i64 x1, .vs 1 (x2.map EV.encI)]) (vals := [v0, v1, v2]) (fun ob0 ob1 ob2 u1 u2 => w_greenbeltlaw03_JournalTorn x0 x1 x2 true (torn_law x0 x1 x2 ox0.1)) hL ⟨_, _, rfl, rx0, ⟨_, _, rfl, rx1, ⟨_, _, rfl, rx2, rfl⟩⟩⟩) fun e W' ⟨he, hb⟩ => ?_
  subst he
  refine ⟨_, rfl, ?_⟩
  refine ⟨_, _, _, [], _, [], hW', ?_, below_allV laidOut hb _ _ _ _ (by kernel_rfl) hA1 (fun x hx => by simpa using hW'.lt x (by simpa using hx)), rfl, hb.frame _, fun h => by cases h⟩
  exact trodAll_mk1 (shut_bool Tryd.underlying4 true)
theorem torn_row : Rows.JournalTornSaid :=
  OpenClaim.holds_of_wide 3 Tryd.f3 rfl rfl rfl rfl rfl rfl rfl ⟨rfl, rfl, rfl, rfl, rfl⟩ rfl rfl rfl rfl rfl (by kernel_rfl) Tryd.func3 (by kernel_rfl)
    (of_decide_eq_true (by kernel_rfl)) (by unfold Func.isWrapper; first | (rw [if_pos (by decide +kernel)]; kernel_rfl) | (rw [if_neg (by decide +kernel)]; exact ⟨rfl, rfl⟩))
    (fun os started H enc _ => torn_lifted os started H enc)
theorem torn_holds : Rows.JournalTornCardSaid :=
  Claim7.holds_tied_plain_at .later [] [.data, .data, .data, .sentinel, .sentinel] true (true, "892d146ae6e047ceb6af9ff153d207fdb1e61c9b6058e192deeb4e491c177e1a") true
    torn_row (fun _ h => by cases h) (by kernel_rfl) (fun _ h => by cases h) journalTorn_row_tie rfl ⟨rfl, rfl⟩ (by kernel_rfl) rfl
    (fun f fn hf hfn => by
      obtain rfl : f = 3 := Option.some.inj ((show Tryd.prog.funcNamed "greenbelt/greenbeltlaw03.JournalTorn" = some 3 by kernel_rfl).symm.trans hf) |>.symm
      obtain rfl : fn = Tryd.f3 := (Option.some.inj (Tryd.func3.symm.trans hfn)).symm
      exact ⟨by kernel_rfl, fun j t ht => by
        rw [Tryd.params3] at ht
        have hm : t ∈ [22, 3, 23] := by simpa using Array.mem_of_getElem? ht
        have hall : ([22, 3, 23].all fun u => !Tryd.prog.wantsStandIn u) = true := by kernel_rfl
        exact (show Tryd.prog.wantsStandIn t = false by simpa using List.all_eq_true.1 hall t hm)⟩)
    (by kernel_rfl)
#print axioms torn_holds
end Go.Proofs.YtoflckochjijcaaDoor
