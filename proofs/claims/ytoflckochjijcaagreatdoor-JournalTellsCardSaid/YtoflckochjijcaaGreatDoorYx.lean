/- The reference's journal does what the plain one does. -/
import Derived.Test.YtoflckochjijcaaGreatDoorYw
set_option linter.all false
set_option maxRecDepth 100000
namespace Go.Proofs.YtoflckochjijcaaGreatDoor.E
open Go Go.RowKit Go.Eng Go.EV Go.EQ Go.Lib
variable [Fuel]
theorem same_L (a b : List (List UInt8)) (hl : a.length = b.length) (hs : a.length ≤ 1099511627776) : ∀ (k i fuel : Nat), k = a.length - i → i ≤ a.length → k < fuel → s_greenbeltref01_SameTexts_L1 a b fuel (i : Int) = some (if a.drop i = b.drop i then .inr () else .inl false) := by
 intro k
 induction k with
 | zero =>
  intro i fuel hk hi hf
  obtain ⟨f, rfl⟩ : ∃ f, fuel = f + 1 := ⟨fuel - 1, by omega⟩
  rw [s_greenbeltref01_SameTexts_L1]
  rw [show decide ((i : Int) < (a.length : Int)) = false by simp; omega, cond_false, List.drop_eq_nil_of_le (by omega), List.drop_eq_nil_of_le (by omega)]
  rfl
 | succ k ih =>
  intro i fuel hk hi hf
  obtain ⟨f, rfl⟩ : ∃ f, fuel = f + 1 := ⟨fuel - 1, by omega⟩
  have hlt : i < a.length := by omega
  have hlb : i < b.length := by omega
  rw [s_greenbeltref01_SameTexts_L1]
  rw [show decide ((i : Int) < (a.length : Int)) = true by simp; omega, cond_true, idx_of hlt, Option.bind_some, idx_of hlb, Option.bind_some, w64_id (by omega) (by omega)]
  rw [drop_cons hlt, drop_cons hlb]
  by_cases he : a.getD i default = b.getD i default
  ·rw [show (!decide (a.getD i default = b.getD i default)) = false by simp only [he, decide_true, Bool.not_true], cond_false]
   have := ih (i + 1) f (by omega) (by omega) (by omega)
   rw [show ((i : Int) + 1) = ((i + 1 : Nat) : Int) from rfl, this, he]
   simp
  ·rw [show (!decide (a.getD i default = b.getD i default)) = true by simp only [he, decide_false, Bool.not_false], cond_true, if_neg (fun h => he (List.cons.inj h).1)]
theorem same_spec {a b : List (List UInt8)} (hs : a.length ≤ 1099511627776) : s_greenbeltref01_SameTexts a b = some (decide (a = b)) := by
 unfold s_greenbeltref01_SameTexts
 by_cases hl : a.length = b.length
 ·rw [show (!decide ((a.length : Int) = (b.length : Int))) = false by simp [hl], cond_false]
  have := same_L a b hl hs a.length 0 KK (by omega) (by omega) (kk_lt (by omega))
  rw [show ((0 : Int)) = ((0 : Nat) : Int) from rfl, this]
  simp only [List.drop_zero, Option.bind_some]
  by_cases h : a = b
  ·simp [h, sumC]
  ·simp [h, sumC]
 ·rw [show (!decide ((a.length : Int) = (b.length : Int))) = true by simp; omega, cond_true]
  have : a ≠ b := fun h => hl (by rw [h])
  simp [this]
theorem few_L (l : List greenbeltref03_Op) (hs : l.length ≤ 9223372036854775807) : ∀ (k i fuel : Nat), k = l.length - i → i ≤ l.length → k < fuel → s_greenbeltlaw03_few_L1 l fuel (i : Int) = some (.inl false) ∨ (s_greenbeltlaw03_few_L1 l fuel (i : Int) = some (.inr ()) ∧ ∀ o ∈ l.drop i, o.S.length ≤ 200 ∧ o.Keep.length ≤ 50) := by
 intro k
 induction k with
 | zero =>
  intro i fuel hk hi hf
  obtain ⟨f, rfl⟩ : ∃ f, fuel = f + 1 := ⟨fuel - 1, by omega⟩
  right
  rw [s_greenbeltlaw03_few_L1]
  rw [show decide ((i : Int) < (l.length : Int)) = false by simp; omega, cond_false, List.drop_eq_nil_of_le (by omega)]
  exact ⟨rfl, fun o ho => by cases ho⟩
 | succ k ih =>
  intro i fuel hk hi hf
  obtain ⟨f, rfl⟩ : ∃ f, fuel = f + 1 := ⟨fuel - 1, by omega⟩
  have hlt : i < l.length := by omega
  rw [s_greenbeltlaw03_few_L1]
  rw [show decide ((i : Int) < (l.length : Int)) = true by simp; omega, cond_true, idx_of hlt, Option.bind_some, Option.bind_some, w64_id (by omega) (by omega)]
  rw [drop_cons hlt]
  by_cases h1 : (l.getD i default).S.length ≤ 200
  ·rw [show decide (((l.getD i default).S.length : Int) > 200) = false from decide_eq_false (by omega), cond_false, Option.bind_some]
   by_cases h2 : (l.getD i default).Keep.length ≤ 50
   ·rw [show decide (((l.getD i default).Keep.length : Int) > 50) = false from decide_eq_false (by omega), cond_false]
    rcases ih (i + 1) f (by omega) (by omega) (by omega) with h | ⟨h, h3⟩
    ·exact .inl h
    ·refine .inr ⟨h, fun o ho => ?_⟩
     rcases List.mem_cons.1 ho with rfl | ho
     ·exact ⟨h1, h2⟩
     ·exact h3 o ho
   ·rw [show decide (((l.getD i default).Keep.length : Int) > 50) = true from decide_eq_true (by omega), cond_true]
    exact .inl rfl
  ·rw [show decide (((l.getD i default).S.length : Int) > 200) = true from decide_eq_true (by omega), cond_true, Option.bind_some, cond_true]
   exact .inl rfl
theorem few_spec {l : List greenbeltref03_Op} (hs : l.length ≤ 9223372036854775807) : ∃ b, s_greenbeltlaw03_few l = some b ∧ (b = true → l.length ≤ 25 ∧ ∀ o ∈ l, o.S.length ≤ 200 ∧ o.Keep.length ≤ 50) := by
 unfold s_greenbeltlaw03_few
 rcases few_L l hs l.length 0 KK (by omega) (by omega) (kk_lt (by omega)) with h | ⟨h, h2⟩
 ·rw [show ((0 : Int)) = ((0 : Nat) : Int) from rfl, h]
  exact ⟨false, rfl, fun h => by cases h⟩
 ·rw [show ((0 : Int)) = ((0 : Nat) : Int) from rfl, h]
  exact ⟨_, rfl, fun h => ⟨by have := of_decide_eq_true h; omega, fun o ho => h2 o (by rwa [List.drop_zero])⟩⟩
variable {F : List greenbeltref02_File} {Q : List greenbeltref02_Sector} {lost a : Int} {down : Bool} {keep : List Int} {m : SM} {C : Nat}
theorem form_ge (t : List UInt8) : t.length ≤ (form t).length := by
 unfold form encT
 simp only [List.length_append]
 omega
theorem mem_forms : ∀ {l : List (List UInt8)} {t : List UInt8}, t ∈ l → t.length ≤ (forms l).length
 | u :: l, t, h => by
  have e : (forms (u :: l)).length = (form u).length + (forms l).length := by simp [forms]
  have := form_ge u
  rcases List.mem_cons.1 h with rfl | h
  ·omega
  ·have := mem_forms h
   omega
theorem rforms_le {l : List (List UInt8)} (h : (forms l).length ≤ 2097152) : s_greenbeltref03_Forms l = some (forms l) :=
 rforms_spec (fun t ht => by have := mem_forms ht; omega) (by omega)
theorem r_Open_no {e : Int} {m' : SM} (h : RR F Q m) (hm : OKm C m) (hC : C ≤ 1000000) (ho : openS m = (none, e, m')) :
  ∃ F' Q', s_greenbeltref03_Open_1 F Q m.lost m.down m.armed m.keep 3 = some (e, F', m'.lost, m'.down, m'.armed, m'.keep, Q') ∧ RR F' Q' m' := by
 obtain ⟨F1, Q1, h1, h2⟩ := r_Sync h hm hC
 have hm1 := hm.sync
 have hnl := hm1.now
 unfold s_greenbeltref03_Open_1
 rw [show (bif (decide ((3 : Int) < 0)) then some true else some (decide ((3 : Int) > 15))) = some false from rfl, Option.bind_some, cond_false, h1, Option.bind_some]
 dsimp only
 unfold openS at ho
 by_cases h0 : (syncS m).1 = 0
 ·rw [if_pos h0] at ho
  have hup := sync_up h0
  simp only [h0, decide_true, Bool.not_true, cond_false]
  rw [r_Size h2, Option.bind_some, hup, r_Read h2 hm1 rfl, Option.bind_some]
  simp only [decide_true, Bool.not_true, cond_false]
  have hle := forms_le (syncS m).2.now
  rw [records_spec (by omega) (parse_spec _), Option.bind_some, rforms_le (by omega), Option.bind_some]
  split at ho
  ·rename_i hlt
   obtain ⟨F2, Q2, h3, h4⟩ := r_Trunc (k := (forms (parse (syncS m).2.now)).length) h2 hm1 hC (fun hd => by rw [lastS_now hd]; exact hle)
   split at ho
   ·cases ho
   ·rename_i ht
    cases ho
    refine ⟨F2, Q2, ?_, h4⟩
    have : (((forms (parse (syncS m).2.now)).length : Nat) : Int) < (((syncS m).2.now.length : Nat) : Int) := by omega
    simp only [this, decide_true, cond_true]
    rw [hup] at h3
    rw [h3, Option.bind_some]
    simp only [ht, decide_false, Bool.not_false, cond_true, Option.bind_some]
  ·cases ho
 ·rw [if_neg h0] at ho
  cases ho
  refine ⟨F1, Q1, ?_, h2⟩
  simp only [h0, decide_false, Bool.not_false, cond_true]
theorem r_Open_yes {l : List (List UInt8)} {e : Int} {m' : SM} (h : RR F Q m) (hm : OKm C m) (hC : C ≤ 1000000) (ho : openS m = (some l, e, m')) :
  s_greenbeltref03_Open_1 F Q m.lost m.down m.armed m.keep 3 = none ∧ ∃ F' Q', s_greenbeltref03_Open_2 F Q m.lost m.down m.armed m.keep 3 = some (0, F', m'.lost, m'.down, m'.armed, m'.keep, 3, l, false, Q') ∧ RR F' Q' m' := by
 obtain ⟨F1, Q1, h1, h2⟩ := r_Sync h hm hC
 have hm1 := hm.sync
 have hnl := hm1.now
 unfold s_greenbeltref03_Open_1 s_greenbeltref03_Open_2
 rw [show (bif (decide ((3 : Int) < 0)) then some true else some (decide ((3 : Int) > 15))) = some false from rfl, Option.bind_some, Option.bind_some, cond_false, cond_false, h1, Option.bind_some, Option.bind_some]
 dsimp only
 unfold openS at ho
 by_cases h0 : (syncS m).1 = 0
 ·rw [if_pos h0] at ho
  have hup := sync_up h0
  simp only [h0, decide_true, Bool.not_true, cond_false]
  rw [r_Size h2, Option.bind_some, Option.bind_some, hup, r_Read h2 hm1 rfl, Option.bind_some, Option.bind_some]
  simp only [decide_true, Bool.not_true, cond_false]
  have hle := forms_le (syncS m).2.now
  rw [records_spec (by omega) (parse_spec _), Option.bind_some, Option.bind_some, rforms_le (by omega), Option.bind_some, Option.bind_some]
  split at ho
  ·rename_i hlt
   obtain ⟨F2, Q2, h3, h4⟩ := r_Trunc (k := (forms (parse (syncS m).2.now)).length) h2 hm1 hC (fun hd => by rw [lastS_now hd]; exact hle)
   split at ho
   ·rename_i ht
    cases ho
    have : (((forms (parse (syncS m).2.now)).length : Nat) : Int) < (((syncS m).2.now.length : Nat) : Int) := by omega
    simp only [this, decide_true, cond_true]
    rw [hup] at h3
    rw [h3, Option.bind_some, Option.bind_some]
    simp only [ht, decide_true, Bool.not_true, cond_false, Option.bind_some]
    exact ⟨trivial, F2, Q2, rfl, h4⟩
   ·cases ho
  ·rename_i hlt
   cases ho
   have : ¬ (((forms (parse (syncS m).2.now)).length : Nat) : Int) < (((syncS m).2.now.length : Nat) : Int) := by omega
   simp only [this, decide_false, cond_false, Option.bind_some, decide_true, Bool.not_true]
   exact ⟨trivial, F1, Q1, by rw [hup], h2⟩
 ·rw [if_neg h0] at ho
  cases ho
theorem r_Append {recs : List (List UInt8)} {bad : Bool} {r : List UInt8} (h : RR F Q m) (hm : OKm C m) (hC : C + 300 ≤ 1000000) (hr : r.length ≤ 200) (hf : (forms recs).length ≤ 2097152) :
  ∃ F' Q', s_greenbeltref03_Journal_Append F Q m.lost m.down m.armed m.keep 3 recs bad r = some ((appendS m recs bad r).1, (appendS m recs bad r).2.2.1, (appendS m recs bad r).2.2.2, F', (appendS m recs bad r).2.1.lost, (appendS m recs bad r).2.1.down, (appendS m recs bad r).2.1.armed, (appendS m recs bad r).2.1.keep, Q') ∧ RR F' Q' (appendS m recs bad r).2.1 := by
 have hfl := form_len r (by omega)
 unfold s_greenbeltref03_Journal_Append
 unfold appendS
 cases bad with
 | true => exact ⟨F, Q, rfl, h⟩
 | false =>
  simp only [cond_false, Bool.false_eq_true, if_false]
  have e1 : ¬ (((r.length : Nat) : Int) > 20000) := by omega
  have e1' : ¬ (r.length > 20000) := by omega
  simp only [e1, e1', decide_false, cond_false, if_false]
  rw [rforms_le hf, Option.bind_some, rform_spec (by omega), Option.bind_some]
  rw [w64_id (by omega) (by omega)]
  by_cases hfull : (forms recs).length + (form r).length > 1048576
  ·have : (((forms recs).length : Nat) : Int) + (((form r).length : Nat) : Int) > 1048576 := by omega
   simp only [this, hfull, decide_true, cond_true, if_true]
   exact ⟨F, Q, rfl, h⟩
  ·have : ¬ ((((forms recs).length : Nat) : Int) + (((form r).length : Nat) : Int) > 1048576) := by omega
   simp only [this, hfull, decide_false, cond_false, if_false, Option.bind_some]
   obtain ⟨F', Q', h1, h2⟩ := r_Write (k := (forms recs).length) (s := form r) h hm (by omega) (form_ne r) (by omega)
   rw [h1, Option.bind_some]
   dsimp only
   by_cases hw : (writeS m (forms recs).length (form r)).1 = 0
   ·rw [if_pos hw]
    refine ⟨F', Q', ?_, h2⟩
    simp only [hw, decide_true, Bool.not_true, cond_false, List.nil_append]
    have hfl2 := forms_length recs
    rw [grd_ofI (by omega), Option.bind_some, grd_ofI (by simp only [List.length_append, List.length_singleton]; omega), Option.bind_some]
   ·rw [if_neg hw]
    refine ⟨F', Q', ?_, h2⟩
    simp only [hw, decide_false, Bool.not_false, cond_true]
theorem r_JSync {recs : List (List UInt8)} {bad : Bool} (h : RR F Q m) (hm : OKm C m) (hC : C ≤ 1000000) :
  ∃ F' Q', s_greenbeltref03_Journal_Sync F Q m.lost m.down m.armed m.keep 3 recs bad = some ((syncJ m bad).1, (syncJ m bad).2.2, F', (syncJ m bad).2.1.lost, (syncJ m bad).2.1.down, (syncJ m bad).2.1.armed, (syncJ m bad).2.1.keep, Q') ∧ RR F' Q' (syncJ m bad).2.1 := by
 unfold s_greenbeltref03_Journal_Sync syncJ
 cases bad with
 | true => exact ⟨F, Q, rfl, h⟩
 | false =>
  obtain ⟨F', Q', h1, h2⟩ := r_Sync h hm hC
  simp only [cond_false, Bool.false_eq_true, if_false]
  exact ⟨F', Q', by rw [h1]; rfl, h2⟩
theorem r_Arm {n : Int} {k : List Int} (hk : k.length ≤ 1099511627776) : s_greenbeltref02_Disk_Arm F Q lost down a keep n k = some (max n 0, k) := by
 unfold s_greenbeltref02_Disk_Arm
 rw [List.nil_append, grd_ofI (by omega), Option.bind_some]
theorem r_Crash_down {k : List Int} : s_greenbeltref02_Disk_Crash F Q lost true a keep k = some (F, lost, true, a, keep, Q) := rfl
theorem OKm.append {recs : List (List UInt8)} {bad : Bool} {r : List UInt8} (h : OKm C m) (hr : r.length ≤ 200) (hf : (forms recs).length ≤ 2097152) : OKm (C + 300) (appendS m recs bad r).2.1 ∧ (forms (appendS m recs bad r).2.2.1).length ≤ 2097152 := by
 have hfl := form_len r (by omega)
 unfold appendS
 split
 ·exact ⟨h.mono (by omega), hf⟩
 ·split
  ·exact ⟨h.mono (by omega), hf⟩
  ·split
   ·exact ⟨h.mono (by omega), hf⟩
   ·have hw := (h.write (k := (forms recs).length) (s := form r) (by omega) (form_ne r)).mono (D := C + 300) (by omega)
    split
    ·refine ⟨hw, ?_⟩
     show (forms (recs ++ [r])).length ≤ _
     rw [forms_append, forms_one, List.length_append]
     omega
    ·exact ⟨hw, hf⟩
theorem OKm.syncJ {bad : Bool} (h : OKm C m) : OKm C (syncJ m bad).2.1 := by
 unfold E.syncJ
 split
 ·exact h
 ·exact h.sync
theorem same_self {l : List (List UInt8)} (h : (forms l).length ≤ 2097152) : s_greenbeltref01_SameTexts l l = some true := by
 have := forms_length l
 rw [same_spec (by omega)]
 simp
end Go.Proofs.YtoflckochjijcaaGreatDoor.E
