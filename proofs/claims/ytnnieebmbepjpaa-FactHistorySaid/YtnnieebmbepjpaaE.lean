/- walks, fifth part -/
import Derived.Test.YtnnieebmbepjpaaD
set_option linter.all false
namespace Go.Proofs.Ytnnieebmbepjpaa
open Go Go.Eng
section
theorem mergeSort_eq {l s : List Int} (hp : l.Perm s) (hs : s.Pairwise (· ≤ ·)) : (l.mergeSort fun x y => decide (x ≤ y)) = s :=
  List.Perm.eq_of_pairwise (le := (· ≤ ·)) (fun a b _ _ h1 h2 => Int.le_antisymm h1 h2) ((List.pairwise_mergeSort (fun a b c h1 h2 => by simp at *; omega) (fun a b => by simp; omega) l).imp (fun h => by simpa using h)) hs ((List.mergeSort_perm _ _).trans hp)
theorem smDays : daysOf sampleL [97, 114, 101, 97] = [0, 10, 15, 20, 1073741825] := by
  unfold daysOf
  rw [mergeSort_eq (s := [0, 0, 10, 15, 20, 1073741825, 1073741825, 1073741825]) (by decide) (by decide)]
  kernel_rfl
theorem smHist : histOf sampleL [97, 114, 101, 97] 12 = [⟨areaL, 100, 0, 10, 5⟩, ⟨areaL, 90, 10, 15, 8⟩, ⟨areaL, 95, 15, 0, 12⟩] := by
  unfold histOf
  rw [smDays]
  kernel_rfl
theorem smCor1 : corOf sampleL [97, 114, 101, 97] 8 12 = [⟨15, 1073741824⟩] := by
  unfold corOf
  rw [smDays]
  kernel_rfl
theorem smCor2 : corOf sampleL [97, 114, 101, 97] 4 8 = [⟨0, 1073741824⟩] := by
  unfold corOf
  rw [smDays]
  kernel_rfl
theorem smKeys : keysOf sampleL = [areaL] := by
  unfold keysOf
  rw [List.mergeSort_of_pairwise (by decide)]
  kernel_rfl
theorem smAt4 : atOf sampleL [97, 114, 101, 97] 12 4 = (0, false) := by kernel_rfl
theorem smAt5 : atOf sampleL [97, 114, 101, 97] 12 5 = (100, true) := by kernel_rfl
theorem smAt8 : atOf sampleL [97, 114, 101, 97] 12 8 = (90, true) := by kernel_rfl
theorem smPut1 : putOf sampleL { key := [97], value := 0, from_ := 0, until_ := 0, known := 11 } = ([], 20) := by kernel_rfl
theorem smPut2 : (putOf sampleL { key := [97], value := 0, from_ := 0, until_ := 0, known := 12 }) = (sampleL ++ [⟨[97], 0, 0, 0, 12⟩], 0) := by kernel_rfl
theorem smRight : rightB sampleL = true := by kernel_rfl
theorem hb24 : hasBody Try.prog 24 := body_of (by kernel_rfl)
theorem hb18 : hasBody Try.prog 18 := body_of (by kernel_rfl)
theorem hb21 : hasBody Try.prog 21 := body_of (by kernel_rfl)
theorem hb9 : hasBody Try.prog 9 := body_of (by kernel_rfl)
theorem hb13 : hasBody Try.prog 13 := body_of (by kernel_rfl)
theorem small_is  (w : World)  : FnIs Try.prog 7 [] w (.bool true) := by
  refine fn_of_wp (N := 162) Try.func7 rfl rfl rfl ?_
  intro S
  refine w_seq ?_
  refine w_region ?_
  refine ops_val 0 (.bool false) rfl rfl rfl rfl (run_pv rfl) ?_
  refine ops_nil ?_
  refine nrm_then ?_
  refine w_seq ?_
  refine w_region ?_
  refine ops_callRow [] S rfl rfl hb24 rfl (sample_is  _  ) ?_
  clear S; intro v1 w1 S
  replace S : Eng.St w [.row 24 5 v1 (sampleL.map encFact)] w1 := S
  refine ops_val 1 (v1) rfl rfl rfl rfl (run_pv rfl) ?_
  refine ops_nil ?_
  refine nrm_then ?_
  refine w_seq ?_
  refine w_region ?_
  refine ops_val 19 (v1) rfl rfl rfl rfl (run_pv rfl) ?_
  refine ops_callIs [v1, str ([97, 114, 101, 97]), i64 12, i64 4] (.tuple #[i64 ((atOf sampleL ([97, 114, 101, 97]) 12 4).1), .bool ((atOf sampleL ([97, 114, 101, 97]) 12 4).2)]) S rfl rfl hb11 rfl (at_is v1 sampleL ([97, 114, 101, 97]) 12 4 _ (St.rdRow (n := 0) S rfl) ) ?_
  clear S; intro w2 S
  refine ops_val 18 (.tuple #[i64 ((atOf sampleL ([97, 114, 101, 97]) 12 4).1), .bool ((atOf sampleL ([97, 114, 101, 97]) 12 4).2)]) rfl rfl rfl rfl (run_pv rfl) ?_
  refine ops_val 21 (i64 ((atOf sampleL ([97, 114, 101, 97]) 12 4).1)) rfl rfl rfl rfl (run_pv rfl) ?_
  refine ops_val 22 (.bool ((atOf sampleL ([97, 114, 101, 97]) 12 4).2)) rfl rfl rfl rfl (run_pv rfl) ?_
  refine ops_val 2 (i64 ((atOf sampleL ([97, 114, 101, 97]) 12 4).1)) rfl rfl rfl rfl (run_pv rfl) ?_
  refine ops_val 3 (.bool ((atOf sampleL ([97, 114, 101, 97]) 12 4).2)) rfl rfl rfl rfl (run_pv rfl) ?_
  refine ops_nil ?_
  refine nrm_then ?_
  refine w_seq ?_
  refine w_region ?_
  refine ops_val 24 (v1) rfl rfl rfl rfl (run_pv rfl) ?_
  refine ops_callIs [v1, str ([97, 114, 101, 97]), i64 12, i64 5] (.tuple #[i64 ((atOf sampleL ([97, 114, 101, 97]) 12 5).1), .bool ((atOf sampleL ([97, 114, 101, 97]) 12 5).2)]) S rfl rfl hb11 rfl (at_is v1 sampleL ([97, 114, 101, 97]) 12 5 _ (St.rdRow (n := 0) S rfl) ) ?_
  clear S; intro w3 S
  refine ops_val 23 (.tuple #[i64 ((atOf sampleL ([97, 114, 101, 97]) 12 5).1), .bool ((atOf sampleL ([97, 114, 101, 97]) 12 5).2)]) rfl rfl rfl rfl (run_pv rfl) ?_
  refine ops_val 26 (i64 ((atOf sampleL ([97, 114, 101, 97]) 12 5).1)) rfl rfl rfl rfl (run_pv rfl) ?_
  refine ops_val 27 (.bool ((atOf sampleL ([97, 114, 101, 97]) 12 5).2)) rfl rfl rfl rfl (run_pv rfl) ?_
  refine ops_val 4 (i64 ((atOf sampleL ([97, 114, 101, 97]) 12 5).1)) rfl rfl rfl rfl (run_pv rfl) ?_
  refine ops_val 5 (.bool ((atOf sampleL ([97, 114, 101, 97]) 12 5).2)) rfl rfl rfl rfl (run_pv rfl) ?_
  refine ops_nil ?_
  refine nrm_then ?_
  refine w_seq ?_
  refine w_region ?_
  refine ops_val 29 (v1) rfl rfl rfl rfl (run_pv rfl) ?_
  refine ops_callIs [v1, str ([97, 114, 101, 97]), i64 12, i64 8] (.tuple #[i64 ((atOf sampleL ([97, 114, 101, 97]) 12 8).1), .bool ((atOf sampleL ([97, 114, 101, 97]) 12 8).2)]) S rfl rfl hb11 rfl (at_is v1 sampleL ([97, 114, 101, 97]) 12 8 _ (St.rdRow (n := 0) S rfl) ) ?_
  clear S; intro w4 S
  refine ops_val 28 (.tuple #[i64 ((atOf sampleL ([97, 114, 101, 97]) 12 8).1), .bool ((atOf sampleL ([97, 114, 101, 97]) 12 8).2)]) rfl rfl rfl rfl (run_pv rfl) ?_
  refine ops_val 31 (i64 ((atOf sampleL ([97, 114, 101, 97]) 12 8).1)) rfl rfl rfl rfl (run_pv rfl) ?_
  refine ops_val 32 (.bool ((atOf sampleL ([97, 114, 101, 97]) 12 8).2)) rfl rfl rfl rfl (run_pv rfl) ?_
  refine ops_val 6 (i64 ((atOf sampleL ([97, 114, 101, 97]) 12 8).1)) rfl rfl rfl rfl (run_pv rfl) ?_
  refine ops_val 7 (.bool ((atOf sampleL ([97, 114, 101, 97]) 12 8).2)) rfl rfl rfl rfl (run_pv rfl) ?_
  refine ops_nil ?_
  refine nrm_then ?_
  refine w_seq ?_
  refine w_region ?_
  refine ops_val 33 (v1) rfl rfl rfl rfl (run_pv rfl) ?_
  refine ops_callRow [v1, str ([97, 114, 101, 97]), i64 12] S rfl rfl hb18 rfl (hist_is v1 sampleL ([97, 114, 101, 97]) 12 _ (St.rdRow (n := 0) S rfl) ) ?_
  clear S; intro v2 w5 S
  replace S : Eng.St w [.row 24 5 v2 ((histOf sampleL ([97, 114, 101, 97]) 12).map encFact), .row 24 5 v1 (sampleL.map encFact)] w5 := S
  refine ops_val 8 (v2) rfl rfl rfl rfl (run_pv rfl) ?_
  refine ops_nil ?_
  refine nrm_then ?_
  refine w_seq ?_
  refine w_region ?_
  refine ops_val 35 (v1) rfl rfl rfl rfl (run_pv rfl) ?_
  refine ops_callRow [v1, str ([97, 114, 101, 97]), i64 8, i64 12] S rfl rfl hb21 rfl (cor_is v1 sampleL ([97, 114, 101, 97]) 8 12 _ (St.rdRow (n := 1) S rfl) ) ?_
  clear S; intro v3 w6 S
  replace S : Eng.St w [.row 44 2 v3 ((corOf sampleL ([97, 114, 101, 97]) 8 12).map encStay), .row 24 5 v2 ((histOf sampleL ([97, 114, 101, 97]) 12).map encFact), .row 24 5 v1 (sampleL.map encFact)] w6 := S
  refine ops_val 9 (v3) rfl rfl rfl rfl (run_pv rfl) ?_
  refine ops_nil ?_
  refine nrm_then ?_
  refine w_seq ?_
  refine w_region ?_
  refine ops_val 37 (v1) rfl rfl rfl rfl (run_pv rfl) ?_
  refine ops_callRow [v1, str ([97, 114, 101, 97]), i64 4, i64 8] S rfl rfl hb21 rfl (cor_is v1 sampleL ([97, 114, 101, 97]) 4 8 _ (St.rdRow (n := 2) S rfl) ) ?_
  clear S; intro v4 w7 S
  replace S : Eng.St w [.row 44 2 v4 ((corOf sampleL ([97, 114, 101, 97]) 4 8).map encStay), .row 44 2 v3 ((corOf sampleL ([97, 114, 101, 97]) 8 12).map encStay), .row 24 5 v2 ((histOf sampleL ([97, 114, 101, 97]) 12).map encFact), .row 24 5 v1 (sampleL.map encFact)] w7 := S
  refine ops_val 10 (v4) rfl rfl rfl rfl (run_pv rfl) ?_
  refine ops_nil ?_
  refine nrm_then ?_
  refine w_seq ?_
  refine w_region ?_
  refine ops_val 40 (v1) rfl rfl rfl rfl (run_pv rfl) ?_
  refine ops_val 41 (.agg #[str ([97]), i64 0, i64 0, i64 0, i64 11]) rfl rfl rfl rfl (run_buildS [(0, str ([97])), (4, i64 11)] [str ([97]), i64 0, i64 0, i64 0, i64 11] rfl (by kernel_rfl)) ?_
  refine ops_callRow2 [v1, .agg #[str ([97]), i64 0, i64 0, i64 0, i64 11]] S rfl rfl hb9 rfl (put_is v1 sampleL ({ key := [97], value := 0, from_ := 0, until_ := 0, known := 11 } : Fact) _ (St.rdRow (n := 3) S rfl) ) ?_
  clear S; intro v5 w8 S
  replace S : Eng.St w [.row 24 5 v5 (((putOf sampleL ({ key := [97], value := 0, from_ := 0, until_ := 0, known := 11 } : Fact)).1).map encFact), .row 44 2 v4 ((corOf sampleL ([97, 114, 101, 97]) 4 8).map encStay), .row 44 2 v3 ((corOf sampleL ([97, 114, 101, 97]) 8 12).map encStay), .row 24 5 v2 ((histOf sampleL ([97, 114, 101, 97]) 12).map encFact), .row 24 5 v1 (sampleL.map encFact)] w8 := S
  refine ops_val 39 (.tuple #[v5, i64 ((putOf sampleL ({ key := [97], value := 0, from_ := 0, until_ := 0, known := 11 } : Fact)).2)]) rfl rfl rfl rfl (run_pv rfl) ?_
  refine ops_val 43 (v5) rfl rfl rfl rfl (run_pv rfl) ?_
  refine ops_val 44 (i64 ((putOf sampleL ({ key := [97], value := 0, from_ := 0, until_ := 0, known := 11 } : Fact)).2)) rfl rfl rfl rfl (run_pv rfl) ?_
  refine ops_val 11 (v5) rfl rfl rfl rfl (run_pv rfl) ?_
  refine ops_val 12 (i64 ((putOf sampleL ({ key := [97], value := 0, from_ := 0, until_ := 0, known := 11 } : Fact)).2)) rfl rfl rfl rfl (run_pv rfl) ?_
  refine ops_nil ?_
  refine nrm_then ?_
  refine w_seq ?_
  refine w_region ?_
  refine ops_val 46 (v1) rfl rfl rfl rfl (run_pv rfl) ?_
  refine ops_val 47 (.agg #[str ([97]), i64 0, i64 0, i64 0, i64 12]) rfl rfl rfl rfl (run_buildS [(0, str ([97])), (4, i64 12)] [str ([97]), i64 0, i64 0, i64 0, i64 12] rfl (by kernel_rfl)) ?_
  refine ops_callRow2 [v1, .agg #[str ([97]), i64 0, i64 0, i64 0, i64 12]] S rfl rfl hb9 rfl (put_is v1 sampleL ({ key := [97], value := 0, from_ := 0, until_ := 0, known := 12 } : Fact) _ (St.rdRow (n := 4) S rfl) ) ?_
  clear S; intro v6 w9 S
  replace S : Eng.St w [.row 24 5 v6 (((putOf sampleL ({ key := [97], value := 0, from_ := 0, until_ := 0, known := 12 } : Fact)).1).map encFact), .row 24 5 v5 (((putOf sampleL ({ key := [97], value := 0, from_ := 0, until_ := 0, known := 11 } : Fact)).1).map encFact), .row 44 2 v4 ((corOf sampleL ([97, 114, 101, 97]) 4 8).map encStay), .row 44 2 v3 ((corOf sampleL ([97, 114, 101, 97]) 8 12).map encStay), .row 24 5 v2 ((histOf sampleL ([97, 114, 101, 97]) 12).map encFact), .row 24 5 v1 (sampleL.map encFact)] w9 := S
  refine ops_val 45 (.tuple #[v6, i64 ((putOf sampleL ({ key := [97], value := 0, from_ := 0, until_ := 0, known := 12 } : Fact)).2)]) rfl rfl rfl rfl (run_pv rfl) ?_
  refine ops_val 49 (v6) rfl rfl rfl rfl (run_pv rfl) ?_
  refine ops_val 50 (i64 ((putOf sampleL ({ key := [97], value := 0, from_ := 0, until_ := 0, known := 12 } : Fact)).2)) rfl rfl rfl rfl (run_pv rfl) ?_
  refine ops_val 13 (v6) rfl rfl rfl rfl (run_pv rfl) ?_
  refine ops_val 14 (i64 ((putOf sampleL ({ key := [97], value := 0, from_ := 0, until_ := 0, known := 12 } : Fact)).2)) rfl rfl rfl rfl (run_pv rfl) ?_
  refine ops_nil ?_
  refine nrm_then ?_
  refine w_seq ?_
  refine w_region ?_
  refine ops_val 51 (v1) rfl rfl rfl rfl (run_pv rfl) ?_
  refine ops_callRow [v1] S rfl rfl hb13 rfl (keys_is v1 sampleL _ (St.rdRow (n := 5) S rfl) ) ?_
  clear S; intro v7 w10 S
  replace S : Eng.St w [.row 9 1 v7 ((keysOf sampleL).map Eng.encS), .row 24 5 v6 (((putOf sampleL ({ key := [97], value := 0, from_ := 0, until_ := 0, known := 12 } : Fact)).1).map encFact), .row 24 5 v5 (((putOf sampleL ({ key := [97], value := 0, from_ := 0, until_ := 0, known := 11 } : Fact)).1).map encFact), .row 44 2 v4 ((corOf sampleL ([97, 114, 101, 97]) 4 8).map encStay), .row 44 2 v3 ((corOf sampleL ([97, 114, 101, 97]) 8 12).map encStay), .row 24 5 v2 ((histOf sampleL ([97, 114, 101, 97]) 12).map encFact), .row 24 5 v1 (sampleL.map encFact)] w10 := S
  refine ops_val 15 (v7) rfl rfl rfl rfl (run_pv rfl) ?_
  refine ops_nil ?_
  refine nrm_then ?_
  refine w_seq ?_
  refine w_seq ?_
  refine w_cut [(1, v1), (3, .bool ((atOf sampleL ([97, 114, 101, 97]) 12 4).2)), (4, i64 ((atOf sampleL ([97, 114, 101, 97]) 12 5).1)), (5, .bool ((atOf sampleL ([97, 114, 101, 97]) 12 5).2)), (6, i64 ((atOf sampleL ([97, 114, 101, 97]) 12 8).1)), (7, .bool ((atOf sampleL ([97, 114, 101, 97]) 12 8).2)), (8, v2), (9, v3), (10, v4), (12, i64 ((putOf sampleL ({ key := [97], value := 0, from_ := 0, until_ := 0, known := 11 } : Fact)).2)), (14, i64 ((putOf sampleL ({ key := [97], value := 0, from_ := 0, until_ := 0, known := 12 } : Fact)).2)), (15, v7), (70, .bool ((((!decide (((histOf sampleL ([97, 114, 101, 97]) 12).length : Int) = 3)) || (!decide (((corOf sampleL ([97, 114, 101, 97]) 8 12).length : Int) = 1))) || (!decide (((corOf sampleL ([97, 114, 101, 97]) 4 8).length : Int) = 1))) || (!decide (((keysOf sampleL).length : Int) = 1))))] (fun w' => Eng.St w [.row 9 1 v7 ((keysOf sampleL).map Eng.encS), .row 24 5 v6 (((putOf sampleL ({ key := [97], value := 0, from_ := 0, until_ := 0, known := 12 } : Fact)).1).map encFact), .row 24 5 v5 (((putOf sampleL ({ key := [97], value := 0, from_ := 0, until_ := 0, known := 11 } : Fact)).1).map encFact), .row 44 2 v4 ((corOf sampleL ([97, 114, 101, 97]) 4 8).map encStay), .row 44 2 v3 ((corOf sampleL ([97, 114, 101, 97]) 8 12).map encStay), .row 24 5 v2 ((histOf sampleL ([97, 114, 101, 97]) 12).map encFact), .row 24 5 v1 (sampleL.map encFact)] w') ?_ ?_
  · refine w_region ?_
    refine ops_val 53 (v2) rfl rfl rfl rfl (run_pv rfl) ?_
    refine ops_val 54 (i64 ((histOf sampleL ([97, 114, 101, 97]) 12).length : Int)) rfl rfl rfl rfl (run_len_rd Try.underlying22 (St.rdRow (n := 5) S rfl) rfl) ?_
    refine ops_val 55 (.bool (!decide (((histOf sampleL ([97, 114, 101, 97]) 12).length : Int) = 3))) rfl rfl rfl rfl (run_pv rfl) ?_
    refine ops_val 56 (.bool (!decide (((histOf sampleL ([97, 114, 101, 97]) 12).length : Int) = 3))) rfl rfl rfl rfl (run_pv rfl) ?_
    refine ops_case 56 (!decide (((histOf sampleL ([97, 114, 101, 97]) 12).length : Int) = 3)) rfl (fun h1 => ?_) (fun h1 => ?_)
    · have p1 := h1; try simp only [decide_eq_true_eq, decide_eq_false_iff_not, Bool.and_eq_true, Bool.or_eq_true, Bool.not_eq_true', Bool.or_eq_false_iff, Bool.not_eq_false', Int.not_lt, Int.not_le, gt_iff_lt, ge_iff_le, Decidable.not_not] at p1
      have k1 : (decide (((histOf sampleL ([97, 114, 101, 97]) 12).length : Int) = 3)) = false := (by simpa only [Bool.not_eq_true', Bool.not_eq_false'] using h1)
      have pk1 := k1; try simp only [decide_eq_true_eq, decide_eq_false_iff_not, Bool.and_eq_true, Bool.or_eq_true, Bool.not_eq_true', Bool.or_eq_false_iff, Bool.not_eq_false', Int.not_lt, Int.not_le, gt_iff_lt, ge_iff_le, Decidable.not_not] at pk1
      refine ops_skip 57 rfl rfl rfl ?_
      refine ops_skip 58 rfl rfl rfl ?_
      refine ops_skip 59 rfl rfl rfl ?_
      refine ops_val 60 (.bool true) rfl rfl rfl rfl (run_pv rfl) ?_
      refine ops_val 61 (.bool true) rfl rfl rfl rfl (run_pv rfl) ?_
      refine ops_skip 62 rfl rfl rfl ?_
      refine ops_skip 63 rfl rfl rfl ?_
      refine ops_skip 64 rfl rfl rfl ?_
      refine ops_val 65 (.bool true) rfl rfl rfl rfl (run_pv rfl) ?_
      refine ops_val 66 (.bool true) rfl rfl rfl rfl (run_pv rfl) ?_
      refine ops_skip 67 rfl rfl rfl ?_
      refine ops_skip 68 rfl rfl rfl ?_
      refine ops_skip 69 rfl rfl rfl ?_
      refine ops_val 70 (.bool true) rfl rfl rfl rfl (run_pv rfl) ?_
      refine ops_nil ?_
      refine nrm_then ?_
      exact ⟨⟨rfl, rfl, rfl, rfl, rfl, rfl, rfl, rfl, rfl, rfl, rfl, rfl, congrArg Value.bool (by simp only [h1, k1, Bool.true_and, Bool.false_and, Bool.and_true, Bool.and_false, Bool.true_or, Bool.false_or, Bool.or_true, Bool.or_false, Bool.not_true, Bool.not_false]), trivial⟩, rfl, S⟩
    · have p1 := h1; try simp only [decide_eq_true_eq, decide_eq_false_iff_not, Bool.and_eq_true, Bool.or_eq_true, Bool.not_eq_true', Bool.or_eq_false_iff, Bool.not_eq_false', Int.not_lt, Int.not_le, gt_iff_lt, ge_iff_le, Decidable.not_not] at p1
      have k2 : (decide (((histOf sampleL ([97, 114, 101, 97]) 12).length : Int) = 3)) = true := (by simpa only [Bool.not_eq_true', Bool.not_eq_false'] using h1)
      have pk2 := k2; try simp only [decide_eq_true_eq, decide_eq_false_iff_not, Bool.and_eq_true, Bool.or_eq_true, Bool.not_eq_true', Bool.or_eq_false_iff, Bool.not_eq_false', Int.not_lt, Int.not_le, gt_iff_lt, ge_iff_le, Decidable.not_not] at pk2
      refine ops_val 57 (v3) rfl rfl rfl rfl (run_pv rfl) ?_
      refine ops_val 58 (i64 ((corOf sampleL ([97, 114, 101, 97]) 8 12).length : Int)) rfl rfl rfl rfl (run_len_rd Try.underlying37 (St.rdRow (n := 4) S rfl) rfl) ?_
      refine ops_val 59 (.bool (!decide (((corOf sampleL ([97, 114, 101, 97]) 8 12).length : Int) = 1))) rfl rfl rfl rfl (run_pv rfl) ?_
      refine ops_val 60 (.bool (!decide (((corOf sampleL ([97, 114, 101, 97]) 8 12).length : Int) = 1))) rfl rfl rfl rfl (run_pv rfl) ?_
      refine ops_val 61 (.bool (!decide (((corOf sampleL ([97, 114, 101, 97]) 8 12).length : Int) = 1))) rfl rfl rfl rfl (run_pv rfl) ?_
      refine ops_case 61 (!decide (((corOf sampleL ([97, 114, 101, 97]) 8 12).length : Int) = 1)) rfl (fun h2 => ?_) (fun h2 => ?_)
      · have p2 := h2; try simp only [decide_eq_true_eq, decide_eq_false_iff_not, Bool.and_eq_true, Bool.or_eq_true, Bool.not_eq_true', Bool.or_eq_false_iff, Bool.not_eq_false', Int.not_lt, Int.not_le, gt_iff_lt, ge_iff_le, Decidable.not_not] at p2
        have k3 : (decide (((corOf sampleL ([97, 114, 101, 97]) 8 12).length : Int) = 1)) = false := (by simpa only [Bool.not_eq_true', Bool.not_eq_false'] using h2)
        have pk3 := k3; try simp only [decide_eq_true_eq, decide_eq_false_iff_not, Bool.and_eq_true, Bool.or_eq_true, Bool.not_eq_true', Bool.or_eq_false_iff, Bool.not_eq_false', Int.not_lt, Int.not_le, gt_iff_lt, ge_iff_le, Decidable.not_not] at pk3
        refine ops_skip 62 rfl rfl rfl ?_
        refine ops_skip 63 rfl rfl rfl ?_
        refine ops_skip 64 rfl rfl rfl ?_
        refine ops_val 65 (.bool true) rfl rfl rfl rfl (run_pv rfl) ?_
        refine ops_val 66 (.bool true) rfl rfl rfl rfl (run_pv rfl) ?_
        refine ops_skip 67 rfl rfl rfl ?_
        refine ops_skip 68 rfl rfl rfl ?_
        refine ops_skip 69 rfl rfl rfl ?_
        refine ops_val 70 (.bool true) rfl rfl rfl rfl (run_pv rfl) ?_
        refine ops_nil ?_
        refine nrm_then ?_
        exact ⟨⟨rfl, rfl, rfl, rfl, rfl, rfl, rfl, rfl, rfl, rfl, rfl, rfl, congrArg Value.bool (by simp only [h1, k2, h2, k3, Bool.true_and, Bool.false_and, Bool.and_true, Bool.and_false, Bool.true_or, Bool.false_or, Bool.or_true, Bool.or_false, Bool.not_true, Bool.not_false]), trivial⟩, rfl, S⟩
      · have p2 := h2; try simp only [decide_eq_true_eq, decide_eq_false_iff_not, Bool.and_eq_true, Bool.or_eq_true, Bool.not_eq_true', Bool.or_eq_false_iff, Bool.not_eq_false', Int.not_lt, Int.not_le, gt_iff_lt, ge_iff_le, Decidable.not_not] at p2
        have k4 : (decide (((corOf sampleL ([97, 114, 101, 97]) 8 12).length : Int) = 1)) = true := (by simpa only [Bool.not_eq_true', Bool.not_eq_false'] using h2)
        have pk4 := k4; try simp only [decide_eq_true_eq, decide_eq_false_iff_not, Bool.and_eq_true, Bool.or_eq_true, Bool.not_eq_true', Bool.or_eq_false_iff, Bool.not_eq_false', Int.not_lt, Int.not_le, gt_iff_lt, ge_iff_le, Decidable.not_not] at pk4
        refine ops_val 62 (v4) rfl rfl rfl rfl (run_pv rfl) ?_
        refine ops_val 63 (i64 ((corOf sampleL ([97, 114, 101, 97]) 4 8).length : Int)) rfl rfl rfl rfl (run_len_rd Try.underlying37 (St.rdRow (n := 3) S rfl) rfl) ?_
        refine ops_val 64 (.bool (!decide (((corOf sampleL ([97, 114, 101, 97]) 4 8).length : Int) = 1))) rfl rfl rfl rfl (run_pv rfl) ?_
        refine ops_val 65 (.bool (!decide (((corOf sampleL ([97, 114, 101, 97]) 4 8).length : Int) = 1))) rfl rfl rfl rfl (run_pv rfl) ?_
        refine ops_val 66 (.bool (!decide (((corOf sampleL ([97, 114, 101, 97]) 4 8).length : Int) = 1))) rfl rfl rfl rfl (run_pv rfl) ?_
        refine ops_case 66 (!decide (((corOf sampleL ([97, 114, 101, 97]) 4 8).length : Int) = 1)) rfl (fun h3 => ?_) (fun h3 => ?_)
        · have p3 := h3; try simp only [decide_eq_true_eq, decide_eq_false_iff_not, Bool.and_eq_true, Bool.or_eq_true, Bool.not_eq_true', Bool.or_eq_false_iff, Bool.not_eq_false', Int.not_lt, Int.not_le, gt_iff_lt, ge_iff_le, Decidable.not_not] at p3
          have k5 : (decide (((corOf sampleL ([97, 114, 101, 97]) 4 8).length : Int) = 1)) = false := (by simpa only [Bool.not_eq_true', Bool.not_eq_false'] using h3)
          have pk5 := k5; try simp only [decide_eq_true_eq, decide_eq_false_iff_not, Bool.and_eq_true, Bool.or_eq_true, Bool.not_eq_true', Bool.or_eq_false_iff, Bool.not_eq_false', Int.not_lt, Int.not_le, gt_iff_lt, ge_iff_le, Decidable.not_not] at pk5
          refine ops_skip 67 rfl rfl rfl ?_
          refine ops_skip 68 rfl rfl rfl ?_
          refine ops_skip 69 rfl rfl rfl ?_
          refine ops_val 70 (.bool true) rfl rfl rfl rfl (run_pv rfl) ?_
          refine ops_nil ?_
          refine nrm_then ?_
          exact ⟨⟨rfl, rfl, rfl, rfl, rfl, rfl, rfl, rfl, rfl, rfl, rfl, rfl, congrArg Value.bool (by simp only [h1, k2, h2, k4, h3, k5, Bool.true_and, Bool.false_and, Bool.and_true, Bool.and_false, Bool.true_or, Bool.false_or, Bool.or_true, Bool.or_false, Bool.not_true, Bool.not_false]), trivial⟩, rfl, S⟩
        · have p3 := h3; try simp only [decide_eq_true_eq, decide_eq_false_iff_not, Bool.and_eq_true, Bool.or_eq_true, Bool.not_eq_true', Bool.or_eq_false_iff, Bool.not_eq_false', Int.not_lt, Int.not_le, gt_iff_lt, ge_iff_le, Decidable.not_not] at p3
          have k6 : (decide (((corOf sampleL ([97, 114, 101, 97]) 4 8).length : Int) = 1)) = true := (by simpa only [Bool.not_eq_true', Bool.not_eq_false'] using h3)
          have pk6 := k6; try simp only [decide_eq_true_eq, decide_eq_false_iff_not, Bool.and_eq_true, Bool.or_eq_true, Bool.not_eq_true', Bool.or_eq_false_iff, Bool.not_eq_false', Int.not_lt, Int.not_le, gt_iff_lt, ge_iff_le, Decidable.not_not] at pk6
          refine ops_val 67 (v7) rfl rfl rfl rfl (run_pv rfl) ?_
          refine ops_val 68 (i64 ((keysOf sampleL).length : Int)) rfl rfl rfl rfl (run_len_rd Try.underlying32 (St.rdRow (n := 0) S rfl) rfl) ?_
          refine ops_val 69 (.bool (!decide (((keysOf sampleL).length : Int) = 1))) rfl rfl rfl rfl (run_pv rfl) ?_
          refine ops_val 70 (.bool (!decide (((keysOf sampleL).length : Int) = 1))) rfl rfl rfl rfl (run_pv rfl) ?_
          refine ops_nil ?_
          refine nrm_then ?_
          exact ⟨⟨rfl, rfl, rfl, rfl, rfl, rfl, rfl, rfl, rfl, rfl, rfl, rfl, congrArg Value.bool (by simp only [h1, k2, h2, k4, h3, k6, Bool.true_and, Bool.false_and, Bool.and_true, Bool.and_false, Bool.true_or, Bool.false_or, Bool.or_true, Bool.or_false, Bool.not_true, Bool.not_false]), trivial⟩, rfl, S⟩
  · clear S; intro ρ0 w11 S
    refine nrm_then ?_
    refine w_cond ((((!decide (((histOf sampleL ([97, 114, 101, 97]) 12).length : Int) = 3)) || (!decide (((corOf sampleL ([97, 114, 101, 97]) 8 12).length : Int) = 1))) || (!decide (((corOf sampleL ([97, 114, 101, 97]) 4 8).length : Int) = 1))) || (!decide (((keysOf sampleL).length : Int) = 1))) rfl (fun h4 => ?_) (fun h4 => ?_)
    · have p4 := h4; try simp only [decide_eq_true_eq, decide_eq_false_iff_not, Bool.and_eq_true, Bool.or_eq_true, Bool.not_eq_true', Bool.or_eq_false_iff, Bool.not_eq_false', Int.not_lt, Int.not_le, gt_iff_lt, ge_iff_le, Decidable.not_not] at p4
      refine w_seq ?_
      refine w_region ?_
      refine ops_val 0 (.bool false) rfl rfl rfl rfl (run_pv rfl) ?_
      refine ops_nil ?_
      refine nrm_then ?_
      refine w_ret ?_
      refine ret_then ?_
      refine fin1 (v := .bool false) rfl S rfl ?_
      exact absurd h4 (by rw [smHist, smCor1, smCor2, smKeys]; decide)
    · have p4 := h4; try simp only [decide_eq_true_eq, decide_eq_false_iff_not, Bool.and_eq_true, Bool.or_eq_true, Bool.not_eq_true', Bool.or_eq_false_iff, Bool.not_eq_false', Int.not_lt, Int.not_le, gt_iff_lt, ge_iff_le, Decidable.not_not] at p4
      have k7 : (((!decide (((histOf sampleL ([97, 114, 101, 97]) 12).length : Int) = 3)) || (!decide (((corOf sampleL ([97, 114, 101, 97]) 8 12).length : Int) = 1))) || (!decide (((corOf sampleL ([97, 114, 101, 97]) 4 8).length : Int) = 1))) = false := (Bool.or_eq_false_iff.1 h4).1
      have pk7 := k7; try simp only [decide_eq_true_eq, decide_eq_false_iff_not, Bool.and_eq_true, Bool.or_eq_true, Bool.not_eq_true', Bool.or_eq_false_iff, Bool.not_eq_false', Int.not_lt, Int.not_le, gt_iff_lt, ge_iff_le, Decidable.not_not] at pk7
      have k8 : (!decide (((keysOf sampleL).length : Int) = 1)) = false := (Bool.or_eq_false_iff.1 h4).2
      have pk8 := k8; try simp only [decide_eq_true_eq, decide_eq_false_iff_not, Bool.and_eq_true, Bool.or_eq_true, Bool.not_eq_true', Bool.or_eq_false_iff, Bool.not_eq_false', Int.not_lt, Int.not_le, gt_iff_lt, ge_iff_le, Decidable.not_not] at pk8
      have k9 : ((!decide (((histOf sampleL ([97, 114, 101, 97]) 12).length : Int) = 3)) || (!decide (((corOf sampleL ([97, 114, 101, 97]) 8 12).length : Int) = 1))) = false := (Bool.or_eq_false_iff.1 k7).1
      have pk9 := k9; try simp only [decide_eq_true_eq, decide_eq_false_iff_not, Bool.and_eq_true, Bool.or_eq_true, Bool.not_eq_true', Bool.or_eq_false_iff, Bool.not_eq_false', Int.not_lt, Int.not_le, gt_iff_lt, ge_iff_le, Decidable.not_not] at pk9
      have k10 : (!decide (((corOf sampleL ([97, 114, 101, 97]) 4 8).length : Int) = 1)) = false := (Bool.or_eq_false_iff.1 k7).2
      have pk10 := k10; try simp only [decide_eq_true_eq, decide_eq_false_iff_not, Bool.and_eq_true, Bool.or_eq_true, Bool.not_eq_true', Bool.or_eq_false_iff, Bool.not_eq_false', Int.not_lt, Int.not_le, gt_iff_lt, ge_iff_le, Decidable.not_not] at pk10
      have k11 : (decide (((keysOf sampleL).length : Int) = 1)) = true := (by simpa only [Bool.not_eq_true', Bool.not_eq_false'] using k8)
      have pk11 := k11; try simp only [decide_eq_true_eq, decide_eq_false_iff_not, Bool.and_eq_true, Bool.or_eq_true, Bool.not_eq_true', Bool.or_eq_false_iff, Bool.not_eq_false', Int.not_lt, Int.not_le, gt_iff_lt, ge_iff_le, Decidable.not_not] at pk11
      have k12 : (!decide (((histOf sampleL ([97, 114, 101, 97]) 12).length : Int) = 3)) = false := (Bool.or_eq_false_iff.1 k9).1
      have pk12 := k12; try simp only [decide_eq_true_eq, decide_eq_false_iff_not, Bool.and_eq_true, Bool.or_eq_true, Bool.not_eq_true', Bool.or_eq_false_iff, Bool.not_eq_false', Int.not_lt, Int.not_le, gt_iff_lt, ge_iff_le, Decidable.not_not] at pk12
      have k13 : (!decide (((corOf sampleL ([97, 114, 101, 97]) 8 12).length : Int) = 1)) = false := (Bool.or_eq_false_iff.1 k9).2
      have pk13 := k13; try simp only [decide_eq_true_eq, decide_eq_false_iff_not, Bool.and_eq_true, Bool.or_eq_true, Bool.not_eq_true', Bool.or_eq_false_iff, Bool.not_eq_false', Int.not_lt, Int.not_le, gt_iff_lt, ge_iff_le, Decidable.not_not] at pk13
      have k14 : (decide (((corOf sampleL ([97, 114, 101, 97]) 4 8).length : Int) = 1)) = true := (by simpa only [Bool.not_eq_true', Bool.not_eq_false'] using k10)
      have pk14 := k14; try simp only [decide_eq_true_eq, decide_eq_false_iff_not, Bool.and_eq_true, Bool.or_eq_true, Bool.not_eq_true', Bool.or_eq_false_iff, Bool.not_eq_false', Int.not_lt, Int.not_le, gt_iff_lt, ge_iff_le, Decidable.not_not] at pk14
      have k15 : (decide (((histOf sampleL ([97, 114, 101, 97]) 12).length : Int) = 3)) = true := (by simpa only [Bool.not_eq_true', Bool.not_eq_false'] using k12)
      have pk15 := k15; try simp only [decide_eq_true_eq, decide_eq_false_iff_not, Bool.and_eq_true, Bool.or_eq_true, Bool.not_eq_true', Bool.or_eq_false_iff, Bool.not_eq_false', Int.not_lt, Int.not_le, gt_iff_lt, ge_iff_le, Decidable.not_not] at pk15
      have k16 : (decide (((corOf sampleL ([97, 114, 101, 97]) 8 12).length : Int) = 1)) = true := (by simpa only [Bool.not_eq_true', Bool.not_eq_false'] using k13)
      have pk16 := k16; try simp only [decide_eq_true_eq, decide_eq_false_iff_not, Bool.and_eq_true, Bool.or_eq_true, Bool.not_eq_true', Bool.or_eq_false_iff, Bool.not_eq_false', Int.not_lt, Int.not_le, gt_iff_lt, ge_iff_le, Decidable.not_not] at pk16
      refine w_skip ?_
      refine nrm_then ?_
      refine w_seq ?_
      refine w_cut [(8, v2), (9, v3), (10, v4), (16, .bool (((((((((!(atOf sampleL ([97, 114, 101, 97]) 12 4).2) && (atOf sampleL ([97, 114, 101, 97]) 12 5).2) && (decide ((atOf sampleL ([97, 114, 101, 97]) 12 5).1 = 100))) && (atOf sampleL ([97, 114, 101, 97]) 12 8).2) && (decide ((atOf sampleL ([97, 114, 101, 97]) 12 8).1 = 90))) && (decide ((putOf sampleL ({ key := [97], value := 0, from_ := 0, until_ := 0, known := 11 } : Fact)).2 = 20))) && (decide ((putOf sampleL ({ key := [97], value := 0, from_ := 0, until_ := 0, known := 12 } : Fact)).2 = 0))) && (rightB sampleL)) && (decide (((keysOf sampleL).getD 0 []) = [97, 114, 101, 97]))))] (fun w' => Eng.St w [.row 9 1 v7 ((keysOf sampleL).map Eng.encS), .row 24 5 v6 (((putOf sampleL ({ key := [97], value := 0, from_ := 0, until_ := 0, known := 12 } : Fact)).1).map encFact), .row 24 5 v5 (((putOf sampleL ({ key := [97], value := 0, from_ := 0, until_ := 0, known := 11 } : Fact)).1).map encFact), .row 44 2 v4 ((corOf sampleL ([97, 114, 101, 97]) 4 8).map encStay), .row 44 2 v3 ((corOf sampleL ([97, 114, 101, 97]) 8 12).map encStay), .row 24 5 v2 ((histOf sampleL ([97, 114, 101, 97]) 12).map encFact), .row 24 5 v1 (sampleL.map encFact)] w') ?_ ?_
      · refine w_region ?_
        refine ops_val 71 (.bool ((atOf sampleL ([97, 114, 101, 97]) 12 4).2)) rfl rfl rfl rfl (run_pv rfl) ?_
        refine ops_val 72 (.bool (!(atOf sampleL ([97, 114, 101, 97]) 12 4).2)) rfl rfl rfl rfl (run_pv rfl) ?_
        refine ops_val 73 (.bool (!(atOf sampleL ([97, 114, 101, 97]) 12 4).2)) rfl rfl rfl rfl (run_pv rfl) ?_
        refine ops_case 73 (!(atOf sampleL ([97, 114, 101, 97]) 12 4).2) rfl (fun h5 => ?_) (fun h5 => ?_)
        · have p5 := h5; try simp only [decide_eq_true_eq, decide_eq_false_iff_not, Bool.and_eq_true, Bool.or_eq_true, Bool.not_eq_true', Bool.or_eq_false_iff, Bool.not_eq_false', Int.not_lt, Int.not_le, gt_iff_lt, ge_iff_le, Decidable.not_not] at p5
          have k17 : (atOf sampleL ([97, 114, 101, 97]) 12 4).2 = false := (by simpa only [Bool.not_eq_true', Bool.not_eq_false'] using h5)
          have pk17 := k17; try simp only [decide_eq_true_eq, decide_eq_false_iff_not, Bool.and_eq_true, Bool.or_eq_true, Bool.not_eq_true', Bool.or_eq_false_iff, Bool.not_eq_false', Int.not_lt, Int.not_le, gt_iff_lt, ge_iff_le, Decidable.not_not] at pk17
          refine ops_val 74 (.bool ((atOf sampleL ([97, 114, 101, 97]) 12 5).2)) rfl rfl rfl rfl (run_pv rfl) ?_
          refine ops_val 75 (.bool ((atOf sampleL ([97, 114, 101, 97]) 12 5).2)) rfl rfl rfl rfl (run_pv rfl) ?_
          refine ops_val 76 (.bool ((atOf sampleL ([97, 114, 101, 97]) 12 5).2)) rfl rfl rfl rfl (run_pv rfl) ?_
          refine ops_case 76 ((atOf sampleL ([97, 114, 101, 97]) 12 5).2) rfl (fun h6 => ?_) (fun h6 => ?_)
          · have p6 := h6; try simp only [decide_eq_true_eq, decide_eq_false_iff_not, Bool.and_eq_true, Bool.or_eq_true, Bool.not_eq_true', Bool.or_eq_false_iff, Bool.not_eq_false', Int.not_lt, Int.not_le, gt_iff_lt, ge_iff_le, Decidable.not_not] at p6
            refine ops_val 77 (i64 ((atOf sampleL ([97, 114, 101, 97]) 12 5).1)) rfl rfl rfl rfl (run_pv rfl) ?_
            refine ops_val 78 (.bool (decide ((atOf sampleL ([97, 114, 101, 97]) 12 5).1 = 100))) rfl rfl rfl rfl (run_pv rfl) ?_
            refine ops_val 79 (.bool (decide ((atOf sampleL ([97, 114, 101, 97]) 12 5).1 = 100))) rfl rfl rfl rfl (run_pv rfl) ?_
            refine ops_val 80 (.bool (decide ((atOf sampleL ([97, 114, 101, 97]) 12 5).1 = 100))) rfl rfl rfl rfl (run_pv rfl) ?_
            refine ops_case 80 (decide ((atOf sampleL ([97, 114, 101, 97]) 12 5).1 = 100)) rfl (fun h7 => ?_) (fun h7 => ?_)
            · have p7 := h7; try simp only [decide_eq_true_eq, decide_eq_false_iff_not, Bool.and_eq_true, Bool.or_eq_true, Bool.not_eq_true', Bool.or_eq_false_iff, Bool.not_eq_false', Int.not_lt, Int.not_le, gt_iff_lt, ge_iff_le, Decidable.not_not] at p7
              refine ops_val 81 (.bool ((atOf sampleL ([97, 114, 101, 97]) 12 8).2)) rfl rfl rfl rfl (run_pv rfl) ?_
              refine ops_val 82 (.bool ((atOf sampleL ([97, 114, 101, 97]) 12 8).2)) rfl rfl rfl rfl (run_pv rfl) ?_
              refine ops_val 83 (.bool ((atOf sampleL ([97, 114, 101, 97]) 12 8).2)) rfl rfl rfl rfl (run_pv rfl) ?_
              refine ops_case 83 ((atOf sampleL ([97, 114, 101, 97]) 12 8).2) rfl (fun h8 => ?_) (fun h8 => ?_)
              · have p8 := h8; try simp only [decide_eq_true_eq, decide_eq_false_iff_not, Bool.and_eq_true, Bool.or_eq_true, Bool.not_eq_true', Bool.or_eq_false_iff, Bool.not_eq_false', Int.not_lt, Int.not_le, gt_iff_lt, ge_iff_le, Decidable.not_not] at p8
                refine ops_val 84 (i64 ((atOf sampleL ([97, 114, 101, 97]) 12 8).1)) rfl rfl rfl rfl (run_pv rfl) ?_
                refine ops_val 85 (.bool (decide ((atOf sampleL ([97, 114, 101, 97]) 12 8).1 = 90))) rfl rfl rfl rfl (run_pv rfl) ?_
                refine ops_val 86 (.bool (decide ((atOf sampleL ([97, 114, 101, 97]) 12 8).1 = 90))) rfl rfl rfl rfl (run_pv rfl) ?_
                refine ops_val 87 (.bool (decide ((atOf sampleL ([97, 114, 101, 97]) 12 8).1 = 90))) rfl rfl rfl rfl (run_pv rfl) ?_
                refine ops_case 87 (decide ((atOf sampleL ([97, 114, 101, 97]) 12 8).1 = 90)) rfl (fun h9 => ?_) (fun h9 => ?_)
                · have p9 := h9; try simp only [decide_eq_true_eq, decide_eq_false_iff_not, Bool.and_eq_true, Bool.or_eq_true, Bool.not_eq_true', Bool.or_eq_false_iff, Bool.not_eq_false', Int.not_lt, Int.not_le, gt_iff_lt, ge_iff_le, Decidable.not_not] at p9
                  refine ops_val 88 (i64 ((putOf sampleL ({ key := [97], value := 0, from_ := 0, until_ := 0, known := 11 } : Fact)).2)) rfl rfl rfl rfl (run_pv rfl) ?_
                  refine ops_val 89 (.bool (decide ((putOf sampleL ({ key := [97], value := 0, from_ := 0, until_ := 0, known := 11 } : Fact)).2 = 20))) rfl rfl rfl rfl (run_pv rfl) ?_
                  refine ops_val 90 (.bool (decide ((putOf sampleL ({ key := [97], value := 0, from_ := 0, until_ := 0, known := 11 } : Fact)).2 = 20))) rfl rfl rfl rfl (run_pv rfl) ?_
                  refine ops_val 91 (.bool (decide ((putOf sampleL ({ key := [97], value := 0, from_ := 0, until_ := 0, known := 11 } : Fact)).2 = 20))) rfl rfl rfl rfl (run_pv rfl) ?_
                  refine ops_case 91 (decide ((putOf sampleL ({ key := [97], value := 0, from_ := 0, until_ := 0, known := 11 } : Fact)).2 = 20)) rfl (fun h10 => ?_) (fun h10 => ?_)
                  · have p10 := h10; try simp only [decide_eq_true_eq, decide_eq_false_iff_not, Bool.and_eq_true, Bool.or_eq_true, Bool.not_eq_true', Bool.or_eq_false_iff, Bool.not_eq_false', Int.not_lt, Int.not_le, gt_iff_lt, ge_iff_le, Decidable.not_not] at p10
                    refine ops_val 92 (i64 ((putOf sampleL ({ key := [97], value := 0, from_ := 0, until_ := 0, known := 12 } : Fact)).2)) rfl rfl rfl rfl (run_pv rfl) ?_
                    refine ops_val 93 (.bool (decide ((putOf sampleL ({ key := [97], value := 0, from_ := 0, until_ := 0, known := 12 } : Fact)).2 = 0))) rfl rfl rfl rfl (run_pv rfl) ?_
                    refine ops_val 94 (.bool (decide ((putOf sampleL ({ key := [97], value := 0, from_ := 0, until_ := 0, known := 12 } : Fact)).2 = 0))) rfl rfl rfl rfl (run_pv rfl) ?_
                    refine ops_val 95 (.bool (decide ((putOf sampleL ({ key := [97], value := 0, from_ := 0, until_ := 0, known := 12 } : Fact)).2 = 0))) rfl rfl rfl rfl (run_pv rfl) ?_
                    refine ops_case 95 (decide ((putOf sampleL ({ key := [97], value := 0, from_ := 0, until_ := 0, known := 12 } : Fact)).2 = 0)) rfl (fun h11 => ?_) (fun h11 => ?_)
                    · have p11 := h11; try simp only [decide_eq_true_eq, decide_eq_false_iff_not, Bool.and_eq_true, Bool.or_eq_true, Bool.not_eq_true', Bool.or_eq_false_iff, Bool.not_eq_false', Int.not_lt, Int.not_le, gt_iff_lt, ge_iff_le, Decidable.not_not] at p11
                      refine ops_val 96 (v1) rfl rfl rfl rfl (run_pv rfl) ?_
                      refine ops_callIs [v1] (.bool (rightB sampleL)) S rfl rfl hb15 rfl (right_is v1 sampleL _ (St.rdRow (n := 6) S rfl) ) ?_
                      clear S; intro w12 S
                      refine ops_val 98 (.bool (rightB sampleL)) rfl rfl rfl rfl (run_pv rfl) ?_
                      refine ops_val 99 (.bool (rightB sampleL)) rfl rfl rfl rfl (run_pv rfl) ?_
                      refine ops_case 99 (rightB sampleL) rfl (fun h12 => ?_) (fun h12 => ?_)
                      · have p12 := h12; try simp only [decide_eq_true_eq, decide_eq_false_iff_not, Bool.and_eq_true, Bool.or_eq_true, Bool.not_eq_true', Bool.or_eq_false_iff, Bool.not_eq_false', Int.not_lt, Int.not_le, gt_iff_lt, ge_iff_le, Decidable.not_not] at p12
                        refine ops_val 100 (v7) rfl rfl rfl rfl (run_pv rfl) ?_
                        refine ops_val 101 (.pointer (some ((adr v7).add (0 * 1)))) rfl rfl rfl rfl (run_index_rd (i := 0) sl32 (St.rdRow (n := 0) S rfl) rfl rfl (by omega)) ?_
                        refine ops_val 102 (str ((keysOf sampleL).getD 0 [])) rfl rfl rfl rfl (run_load_scal sc9 rfl (cell0 (Rd.at' (d := []) (j := 0) (St.rdRow (n := 0) S rfl) (by omega) rfl))) ?_
                        refine ops_val 103 (.bool (decide (((keysOf sampleL).getD 0 []) = [97, 114, 101, 97]))) rfl rfl rfl rfl (run_pv rfl) ?_
                        refine ops_val 104 (.bool (decide (((keysOf sampleL).getD 0 []) = [97, 114, 101, 97]))) rfl rfl rfl rfl (run_pv rfl) ?_
                        refine ops_val 16 (.bool (decide (((keysOf sampleL).getD 0 []) = [97, 114, 101, 97]))) rfl rfl rfl rfl (run_pv rfl) ?_
                        refine ops_nil ?_
                        refine nrm_then ?_
                        exact ⟨⟨rfl, rfl, rfl, congrArg Value.bool (by simp only [h4, k7, k8, k9, k10, k11, k12, k13, k14, k15, k16, h5, k17, h6, h7, h8, h9, h10, h11, h12, Bool.true_and, Bool.false_and, Bool.and_true, Bool.and_false, Bool.true_or, Bool.false_or, Bool.or_true, Bool.or_false, Bool.not_true, Bool.not_false]), trivial⟩, rfl, S⟩
                      · have p12 := h12; try simp only [decide_eq_true_eq, decide_eq_false_iff_not, Bool.and_eq_true, Bool.or_eq_true, Bool.not_eq_true', Bool.or_eq_false_iff, Bool.not_eq_false', Int.not_lt, Int.not_le, gt_iff_lt, ge_iff_le, Decidable.not_not] at p12
                        refine ops_skip 100 rfl rfl rfl ?_
                        refine ops_skip 101 rfl rfl rfl ?_
                        refine ops_skip 102 rfl rfl rfl ?_
                        refine ops_skip 103 rfl rfl rfl ?_
                        refine ops_val 104 (.bool false) rfl rfl rfl rfl (run_pv rfl) ?_
                        refine ops_val 16 (.bool false) rfl rfl rfl rfl (run_pv rfl) ?_
                        refine ops_nil ?_
                        refine nrm_then ?_
                        exact ⟨⟨rfl, rfl, rfl, congrArg Value.bool (by simp only [h4, k7, k8, k9, k10, k11, k12, k13, k14, k15, k16, h5, k17, h6, h7, h8, h9, h10, h11, h12, Bool.true_and, Bool.false_and, Bool.and_true, Bool.and_false, Bool.true_or, Bool.false_or, Bool.or_true, Bool.or_false, Bool.not_true, Bool.not_false]), trivial⟩, rfl, S⟩
                    · have p11 := h11; try simp only [decide_eq_true_eq, decide_eq_false_iff_not, Bool.and_eq_true, Bool.or_eq_true, Bool.not_eq_true', Bool.or_eq_false_iff, Bool.not_eq_false', Int.not_lt, Int.not_le, gt_iff_lt, ge_iff_le, Decidable.not_not] at p11
                      refine ops_skip 96 rfl rfl rfl ?_
                      refine ops_skip 97 rfl rfl rfl ?_
                      refine ops_val 98 (.bool false) rfl rfl rfl rfl (run_pv rfl) ?_
                      refine ops_val 99 (.bool false) rfl rfl rfl rfl (run_pv rfl) ?_
                      refine ops_skip 100 rfl rfl rfl ?_
                      refine ops_skip 101 rfl rfl rfl ?_
                      refine ops_skip 102 rfl rfl rfl ?_
                      refine ops_skip 103 rfl rfl rfl ?_
                      refine ops_val 104 (.bool false) rfl rfl rfl rfl (run_pv rfl) ?_
                      refine ops_val 16 (.bool false) rfl rfl rfl rfl (run_pv rfl) ?_
                      refine ops_nil ?_
                      refine nrm_then ?_
                      exact ⟨⟨rfl, rfl, rfl, congrArg Value.bool (by simp only [h4, k7, k8, k9, k10, k11, k12, k13, k14, k15, k16, h5, k17, h6, h7, h8, h9, h10, h11, Bool.true_and, Bool.false_and, Bool.and_true, Bool.and_false, Bool.true_or, Bool.false_or, Bool.or_true, Bool.or_false, Bool.not_true, Bool.not_false]), trivial⟩, rfl, S⟩
                  · have p10 := h10; try simp only [decide_eq_true_eq, decide_eq_false_iff_not, Bool.and_eq_true, Bool.or_eq_true, Bool.not_eq_true', Bool.or_eq_false_iff, Bool.not_eq_false', Int.not_lt, Int.not_le, gt_iff_lt, ge_iff_le, Decidable.not_not] at p10
                    refine ops_skip 92 rfl rfl rfl ?_
                    refine ops_skip 93 rfl rfl rfl ?_
                    refine ops_val 94 (.bool false) rfl rfl rfl rfl (run_pv rfl) ?_
                    refine ops_val 95 (.bool false) rfl rfl rfl rfl (run_pv rfl) ?_
                    refine ops_skip 96 rfl rfl rfl ?_
                    refine ops_skip 97 rfl rfl rfl ?_
                    refine ops_val 98 (.bool false) rfl rfl rfl rfl (run_pv rfl) ?_
                    refine ops_val 99 (.bool false) rfl rfl rfl rfl (run_pv rfl) ?_
                    refine ops_skip 100 rfl rfl rfl ?_
                    refine ops_skip 101 rfl rfl rfl ?_
                    refine ops_skip 102 rfl rfl rfl ?_
                    refine ops_skip 103 rfl rfl rfl ?_
                    refine ops_val 104 (.bool false) rfl rfl rfl rfl (run_pv rfl) ?_
                    refine ops_val 16 (.bool false) rfl rfl rfl rfl (run_pv rfl) ?_
                    refine ops_nil ?_
                    refine nrm_then ?_
                    exact ⟨⟨rfl, rfl, rfl, congrArg Value.bool (by simp only [h4, k7, k8, k9, k10, k11, k12, k13, k14, k15, k16, h5, k17, h6, h7, h8, h9, h10, Bool.true_and, Bool.false_and, Bool.and_true, Bool.and_false, Bool.true_or, Bool.false_or, Bool.or_true, Bool.or_false, Bool.not_true, Bool.not_false]), trivial⟩, rfl, S⟩
                · have p9 := h9; try simp only [decide_eq_true_eq, decide_eq_false_iff_not, Bool.and_eq_true, Bool.or_eq_true, Bool.not_eq_true', Bool.or_eq_false_iff, Bool.not_eq_false', Int.not_lt, Int.not_le, gt_iff_lt, ge_iff_le, Decidable.not_not] at p9
                  refine ops_skip 88 rfl rfl rfl ?_
                  refine ops_skip 89 rfl rfl rfl ?_
                  refine ops_val 90 (.bool false) rfl rfl rfl rfl (run_pv rfl) ?_
                  refine ops_val 91 (.bool false) rfl rfl rfl rfl (run_pv rfl) ?_
                  refine ops_skip 92 rfl rfl rfl ?_
                  refine ops_skip 93 rfl rfl rfl ?_
                  refine ops_val 94 (.bool false) rfl rfl rfl rfl (run_pv rfl) ?_
                  refine ops_val 95 (.bool false) rfl rfl rfl rfl (run_pv rfl) ?_
                  refine ops_skip 96 rfl rfl rfl ?_
                  refine ops_skip 97 rfl rfl rfl ?_
                  refine ops_val 98 (.bool false) rfl rfl rfl rfl (run_pv rfl) ?_
                  refine ops_val 99 (.bool false) rfl rfl rfl rfl (run_pv rfl) ?_
                  refine ops_skip 100 rfl rfl rfl ?_
                  refine ops_skip 101 rfl rfl rfl ?_
                  refine ops_skip 102 rfl rfl rfl ?_
                  refine ops_skip 103 rfl rfl rfl ?_
                  refine ops_val 104 (.bool false) rfl rfl rfl rfl (run_pv rfl) ?_
                  refine ops_val 16 (.bool false) rfl rfl rfl rfl (run_pv rfl) ?_
                  refine ops_nil ?_
                  refine nrm_then ?_
                  exact ⟨⟨rfl, rfl, rfl, congrArg Value.bool (by simp only [h4, k7, k8, k9, k10, k11, k12, k13, k14, k15, k16, h5, k17, h6, h7, h8, h9, Bool.true_and, Bool.false_and, Bool.and_true, Bool.and_false, Bool.true_or, Bool.false_or, Bool.or_true, Bool.or_false, Bool.not_true, Bool.not_false]), trivial⟩, rfl, S⟩
              · have p8 := h8; try simp only [decide_eq_true_eq, decide_eq_false_iff_not, Bool.and_eq_true, Bool.or_eq_true, Bool.not_eq_true', Bool.or_eq_false_iff, Bool.not_eq_false', Int.not_lt, Int.not_le, gt_iff_lt, ge_iff_le, Decidable.not_not] at p8
                refine ops_skip 84 rfl rfl rfl ?_
                refine ops_skip 85 rfl rfl rfl ?_
                refine ops_val 86 (.bool false) rfl rfl rfl rfl (run_pv rfl) ?_
                refine ops_val 87 (.bool false) rfl rfl rfl rfl (run_pv rfl) ?_
                refine ops_skip 88 rfl rfl rfl ?_
                refine ops_skip 89 rfl rfl rfl ?_
                refine ops_val 90 (.bool false) rfl rfl rfl rfl (run_pv rfl) ?_
                refine ops_val 91 (.bool false) rfl rfl rfl rfl (run_pv rfl) ?_
                refine ops_skip 92 rfl rfl rfl ?_
                refine ops_skip 93 rfl rfl rfl ?_
                refine ops_val 94 (.bool false) rfl rfl rfl rfl (run_pv rfl) ?_
                refine ops_val 95 (.bool false) rfl rfl rfl rfl (run_pv rfl) ?_
                refine ops_skip 96 rfl rfl rfl ?_
                refine ops_skip 97 rfl rfl rfl ?_
                refine ops_val 98 (.bool false) rfl rfl rfl rfl (run_pv rfl) ?_
                refine ops_val 99 (.bool false) rfl rfl rfl rfl (run_pv rfl) ?_
                refine ops_skip 100 rfl rfl rfl ?_
                refine ops_skip 101 rfl rfl rfl ?_
                refine ops_skip 102 rfl rfl rfl ?_
                refine ops_skip 103 rfl rfl rfl ?_
                refine ops_val 104 (.bool false) rfl rfl rfl rfl (run_pv rfl) ?_
                refine ops_val 16 (.bool false) rfl rfl rfl rfl (run_pv rfl) ?_
                refine ops_nil ?_
                refine nrm_then ?_
                exact ⟨⟨rfl, rfl, rfl, congrArg Value.bool (by simp only [h4, k7, k8, k9, k10, k11, k12, k13, k14, k15, k16, h5, k17, h6, h7, h8, Bool.true_and, Bool.false_and, Bool.and_true, Bool.and_false, Bool.true_or, Bool.false_or, Bool.or_true, Bool.or_false, Bool.not_true, Bool.not_false]), trivial⟩, rfl, S⟩
            · have p7 := h7; try simp only [decide_eq_true_eq, decide_eq_false_iff_not, Bool.and_eq_true, Bool.or_eq_true, Bool.not_eq_true', Bool.or_eq_false_iff, Bool.not_eq_false', Int.not_lt, Int.not_le, gt_iff_lt, ge_iff_le, Decidable.not_not] at p7
              refine ops_skip 81 rfl rfl rfl ?_
              refine ops_val 82 (.bool false) rfl rfl rfl rfl (run_pv rfl) ?_
              refine ops_val 83 (.bool false) rfl rfl rfl rfl (run_pv rfl) ?_
              refine ops_skip 84 rfl rfl rfl ?_
              refine ops_skip 85 rfl rfl rfl ?_
              refine ops_val 86 (.bool false) rfl rfl rfl rfl (run_pv rfl) ?_
              refine ops_val 87 (.bool false) rfl rfl rfl rfl (run_pv rfl) ?_
              refine ops_skip 88 rfl rfl rfl ?_
              refine ops_skip 89 rfl rfl rfl ?_
              refine ops_val 90 (.bool false) rfl rfl rfl rfl (run_pv rfl) ?_
              refine ops_val 91 (.bool false) rfl rfl rfl rfl (run_pv rfl) ?_
              refine ops_skip 92 rfl rfl rfl ?_
              refine ops_skip 93 rfl rfl rfl ?_
              refine ops_val 94 (.bool false) rfl rfl rfl rfl (run_pv rfl) ?_
              refine ops_val 95 (.bool false) rfl rfl rfl rfl (run_pv rfl) ?_
              refine ops_skip 96 rfl rfl rfl ?_
              refine ops_skip 97 rfl rfl rfl ?_
              refine ops_val 98 (.bool false) rfl rfl rfl rfl (run_pv rfl) ?_
              refine ops_val 99 (.bool false) rfl rfl rfl rfl (run_pv rfl) ?_
              refine ops_skip 100 rfl rfl rfl ?_
              refine ops_skip 101 rfl rfl rfl ?_
              refine ops_skip 102 rfl rfl rfl ?_
              refine ops_skip 103 rfl rfl rfl ?_
              refine ops_val 104 (.bool false) rfl rfl rfl rfl (run_pv rfl) ?_
              refine ops_val 16 (.bool false) rfl rfl rfl rfl (run_pv rfl) ?_
              refine ops_nil ?_
              refine nrm_then ?_
              exact ⟨⟨rfl, rfl, rfl, congrArg Value.bool (by simp only [h4, k7, k8, k9, k10, k11, k12, k13, k14, k15, k16, h5, k17, h6, h7, Bool.true_and, Bool.false_and, Bool.and_true, Bool.and_false, Bool.true_or, Bool.false_or, Bool.or_true, Bool.or_false, Bool.not_true, Bool.not_false]), trivial⟩, rfl, S⟩
          · have p6 := h6; try simp only [decide_eq_true_eq, decide_eq_false_iff_not, Bool.and_eq_true, Bool.or_eq_true, Bool.not_eq_true', Bool.or_eq_false_iff, Bool.not_eq_false', Int.not_lt, Int.not_le, gt_iff_lt, ge_iff_le, Decidable.not_not] at p6
            refine ops_skip 77 rfl rfl rfl ?_
            refine ops_skip 78 rfl rfl rfl ?_
            refine ops_val 79 (.bool false) rfl rfl rfl rfl (run_pv rfl) ?_
            refine ops_val 80 (.bool false) rfl rfl rfl rfl (run_pv rfl) ?_
            refine ops_skip 81 rfl rfl rfl ?_
            refine ops_val 82 (.bool false) rfl rfl rfl rfl (run_pv rfl) ?_
            refine ops_val 83 (.bool false) rfl rfl rfl rfl (run_pv rfl) ?_
            refine ops_skip 84 rfl rfl rfl ?_
            refine ops_skip 85 rfl rfl rfl ?_
            refine ops_val 86 (.bool false) rfl rfl rfl rfl (run_pv rfl) ?_
            refine ops_val 87 (.bool false) rfl rfl rfl rfl (run_pv rfl) ?_
            refine ops_skip 88 rfl rfl rfl ?_
            refine ops_skip 89 rfl rfl rfl ?_
            refine ops_val 90 (.bool false) rfl rfl rfl rfl (run_pv rfl) ?_
            refine ops_val 91 (.bool false) rfl rfl rfl rfl (run_pv rfl) ?_
            refine ops_skip 92 rfl rfl rfl ?_
            refine ops_skip 93 rfl rfl rfl ?_
            refine ops_val 94 (.bool false) rfl rfl rfl rfl (run_pv rfl) ?_
            refine ops_val 95 (.bool false) rfl rfl rfl rfl (run_pv rfl) ?_
            refine ops_skip 96 rfl rfl rfl ?_
            refine ops_skip 97 rfl rfl rfl ?_
            refine ops_val 98 (.bool false) rfl rfl rfl rfl (run_pv rfl) ?_
            refine ops_val 99 (.bool false) rfl rfl rfl rfl (run_pv rfl) ?_
            refine ops_skip 100 rfl rfl rfl ?_
            refine ops_skip 101 rfl rfl rfl ?_
            refine ops_skip 102 rfl rfl rfl ?_
            refine ops_skip 103 rfl rfl rfl ?_
            refine ops_val 104 (.bool false) rfl rfl rfl rfl (run_pv rfl) ?_
            refine ops_val 16 (.bool false) rfl rfl rfl rfl (run_pv rfl) ?_
            refine ops_nil ?_
            refine nrm_then ?_
            exact ⟨⟨rfl, rfl, rfl, congrArg Value.bool (by simp only [h4, k7, k8, k9, k10, k11, k12, k13, k14, k15, k16, h5, k17, h6, Bool.true_and, Bool.false_and, Bool.and_true, Bool.and_false, Bool.true_or, Bool.false_or, Bool.or_true, Bool.or_false, Bool.not_true, Bool.not_false]), trivial⟩, rfl, S⟩
        · have p5 := h5; try simp only [decide_eq_true_eq, decide_eq_false_iff_not, Bool.and_eq_true, Bool.or_eq_true, Bool.not_eq_true', Bool.or_eq_false_iff, Bool.not_eq_false', Int.not_lt, Int.not_le, gt_iff_lt, ge_iff_le, Decidable.not_not] at p5
          have k18 : (atOf sampleL ([97, 114, 101, 97]) 12 4).2 = true := (by simpa only [Bool.not_eq_true', Bool.not_eq_false'] using h5)
          have pk18 := k18; try simp only [decide_eq_true_eq, decide_eq_false_iff_not, Bool.and_eq_true, Bool.or_eq_true, Bool.not_eq_true', Bool.or_eq_false_iff, Bool.not_eq_false', Int.not_lt, Int.not_le, gt_iff_lt, ge_iff_le, Decidable.not_not] at pk18
          refine ops_skip 74 rfl rfl rfl ?_
          refine ops_val 75 (.bool false) rfl rfl rfl rfl (run_pv rfl) ?_
          refine ops_val 76 (.bool false) rfl rfl rfl rfl (run_pv rfl) ?_
          refine ops_skip 77 rfl rfl rfl ?_
          refine ops_skip 78 rfl rfl rfl ?_
          refine ops_val 79 (.bool false) rfl rfl rfl rfl (run_pv rfl) ?_
          refine ops_val 80 (.bool false) rfl rfl rfl rfl (run_pv rfl) ?_
          refine ops_skip 81 rfl rfl rfl ?_
          refine ops_val 82 (.bool false) rfl rfl rfl rfl (run_pv rfl) ?_
          refine ops_val 83 (.bool false) rfl rfl rfl rfl (run_pv rfl) ?_
          refine ops_skip 84 rfl rfl rfl ?_
          refine ops_skip 85 rfl rfl rfl ?_
          refine ops_val 86 (.bool false) rfl rfl rfl rfl (run_pv rfl) ?_
          refine ops_val 87 (.bool false) rfl rfl rfl rfl (run_pv rfl) ?_
          refine ops_skip 88 rfl rfl rfl ?_
          refine ops_skip 89 rfl rfl rfl ?_
          refine ops_val 90 (.bool false) rfl rfl rfl rfl (run_pv rfl) ?_
          refine ops_val 91 (.bool false) rfl rfl rfl rfl (run_pv rfl) ?_
          refine ops_skip 92 rfl rfl rfl ?_
          refine ops_skip 93 rfl rfl rfl ?_
          refine ops_val 94 (.bool false) rfl rfl rfl rfl (run_pv rfl) ?_
          refine ops_val 95 (.bool false) rfl rfl rfl rfl (run_pv rfl) ?_
          refine ops_skip 96 rfl rfl rfl ?_
          refine ops_skip 97 rfl rfl rfl ?_
          refine ops_val 98 (.bool false) rfl rfl rfl rfl (run_pv rfl) ?_
          refine ops_val 99 (.bool false) rfl rfl rfl rfl (run_pv rfl) ?_
          refine ops_skip 100 rfl rfl rfl ?_
          refine ops_skip 101 rfl rfl rfl ?_
          refine ops_skip 102 rfl rfl rfl ?_
          refine ops_skip 103 rfl rfl rfl ?_
          refine ops_val 104 (.bool false) rfl rfl rfl rfl (run_pv rfl) ?_
          refine ops_val 16 (.bool false) rfl rfl rfl rfl (run_pv rfl) ?_
          refine ops_nil ?_
          refine nrm_then ?_
          exact ⟨⟨rfl, rfl, rfl, congrArg Value.bool (by simp only [h4, k7, k8, k9, k10, k11, k12, k13, k14, k15, k16, h5, k18, Bool.true_and, Bool.false_and, Bool.and_true, Bool.and_false, Bool.true_or, Bool.false_or, Bool.or_true, Bool.or_false, Bool.not_true, Bool.not_false]), trivial⟩, rfl, S⟩
      · clear S; intro ρ0 w13 S
        refine nrm_then ?_
        refine w_seq ?_
        refine w_cut [(0, .bool (((((((((((((((((!(atOf sampleL ([97, 114, 101, 97]) 12 4).2) && (atOf sampleL ([97, 114, 101, 97]) 12 5).2) && (decide ((atOf sampleL ([97, 114, 101, 97]) 12 5).1 = 100))) && (atOf sampleL ([97, 114, 101, 97]) 12 8).2) && (decide ((atOf sampleL ([97, 114, 101, 97]) 12 8).1 = 90))) && (decide ((putOf sampleL ({ key := [97], value := 0, from_ := 0, until_ := 0, known := 11 } : Fact)).2 = 20))) && (decide ((putOf sampleL ({ key := [97], value := 0, from_ := 0, until_ := 0, known := 12 } : Fact)).2 = 0))) && (rightB sampleL)) && (decide (((keysOf sampleL).getD 0 []) = [97, 114, 101, 97]))) && (decide (((corOf sampleL ([97, 114, 101, 97]) 8 12).getD 0 default) = ({ from_ := 15, to := 1073741824 } : Stay)))) && (decide (((corOf sampleL ([97, 114, 101, 97]) 4 8).getD 0 default) = ({ from_ := 0, to := 1073741824 } : Stay)))) && (decide (((histOf sampleL ([97, 114, 101, 97]) 12).getD 0 default).until_ = 10))) && (decide (((histOf sampleL ([97, 114, 101, 97]) 12).getD 1 default).from_ = 10))) && (decide (((histOf sampleL ([97, 114, 101, 97]) 12).getD 1 default).until_ = 15))) && (decide (((histOf sampleL ([97, 114, 101, 97]) 12).getD 2 default).from_ = 15))) && (decide (((histOf sampleL ([97, 114, 101, 97]) 12).getD 2 default).until_ = 0))) && (decide (((histOf sampleL ([97, 114, 101, 97]) 12).getD 2 default).value = 95))))] (fun w' => Eng.St w [.row 9 1 v7 ((keysOf sampleL).map Eng.encS), .row 24 5 v6 (((putOf sampleL ({ key := [97], value := 0, from_ := 0, until_ := 0, known := 12 } : Fact)).1).map encFact), .row 24 5 v5 (((putOf sampleL ({ key := [97], value := 0, from_ := 0, until_ := 0, known := 11 } : Fact)).1).map encFact), .row 44 2 v4 ((corOf sampleL ([97, 114, 101, 97]) 4 8).map encStay), .row 44 2 v3 ((corOf sampleL ([97, 114, 101, 97]) 8 12).map encStay), .row 24 5 v2 ((histOf sampleL ([97, 114, 101, 97]) 12).map encFact), .row 24 5 v1 (sampleL.map encFact)] w') ?_ ?_
        · refine w_region ?_
          refine ops_val 105 (.bool (((((((((!(atOf sampleL ([97, 114, 101, 97]) 12 4).2) && (atOf sampleL ([97, 114, 101, 97]) 12 5).2) && (decide ((atOf sampleL ([97, 114, 101, 97]) 12 5).1 = 100))) && (atOf sampleL ([97, 114, 101, 97]) 12 8).2) && (decide ((atOf sampleL ([97, 114, 101, 97]) 12 8).1 = 90))) && (decide ((putOf sampleL ({ key := [97], value := 0, from_ := 0, until_ := 0, known := 11 } : Fact)).2 = 20))) && (decide ((putOf sampleL ({ key := [97], value := 0, from_ := 0, until_ := 0, known := 12 } : Fact)).2 = 0))) && (rightB sampleL)) && (decide (((keysOf sampleL).getD 0 []) = [97, 114, 101, 97])))) rfl rfl rfl rfl (run_pv rfl) ?_
          refine ops_val 106 (.bool (((((((((!(atOf sampleL ([97, 114, 101, 97]) 12 4).2) && (atOf sampleL ([97, 114, 101, 97]) 12 5).2) && (decide ((atOf sampleL ([97, 114, 101, 97]) 12 5).1 = 100))) && (atOf sampleL ([97, 114, 101, 97]) 12 8).2) && (decide ((atOf sampleL ([97, 114, 101, 97]) 12 8).1 = 90))) && (decide ((putOf sampleL ({ key := [97], value := 0, from_ := 0, until_ := 0, known := 11 } : Fact)).2 = 20))) && (decide ((putOf sampleL ({ key := [97], value := 0, from_ := 0, until_ := 0, known := 12 } : Fact)).2 = 0))) && (rightB sampleL)) && (decide (((keysOf sampleL).getD 0 []) = [97, 114, 101, 97])))) rfl rfl rfl rfl (run_pv rfl) ?_
          refine ops_case 106 (((((((((!(atOf sampleL ([97, 114, 101, 97]) 12 4).2) && (atOf sampleL ([97, 114, 101, 97]) 12 5).2) && (decide ((atOf sampleL ([97, 114, 101, 97]) 12 5).1 = 100))) && (atOf sampleL ([97, 114, 101, 97]) 12 8).2) && (decide ((atOf sampleL ([97, 114, 101, 97]) 12 8).1 = 90))) && (decide ((putOf sampleL ({ key := [97], value := 0, from_ := 0, until_ := 0, known := 11 } : Fact)).2 = 20))) && (decide ((putOf sampleL ({ key := [97], value := 0, from_ := 0, until_ := 0, known := 12 } : Fact)).2 = 0))) && (rightB sampleL)) && (decide (((keysOf sampleL).getD 0 []) = [97, 114, 101, 97]))) rfl (fun h13 => ?_) (fun h13 => ?_)
          · have p13 := h13; try simp only [decide_eq_true_eq, decide_eq_false_iff_not, Bool.and_eq_true, Bool.or_eq_true, Bool.not_eq_true', Bool.or_eq_false_iff, Bool.not_eq_false', Int.not_lt, Int.not_le, gt_iff_lt, ge_iff_le, Decidable.not_not] at p13
            have k19 : ((((((((!(atOf sampleL ([97, 114, 101, 97]) 12 4).2) && (atOf sampleL ([97, 114, 101, 97]) 12 5).2) && (decide ((atOf sampleL ([97, 114, 101, 97]) 12 5).1 = 100))) && (atOf sampleL ([97, 114, 101, 97]) 12 8).2) && (decide ((atOf sampleL ([97, 114, 101, 97]) 12 8).1 = 90))) && (decide ((putOf sampleL ({ key := [97], value := 0, from_ := 0, until_ := 0, known := 11 } : Fact)).2 = 20))) && (decide ((putOf sampleL ({ key := [97], value := 0, from_ := 0, until_ := 0, known := 12 } : Fact)).2 = 0))) && (rightB sampleL)) = true := (Bool.and_eq_true_iff.1 h13).1
            have pk19 := k19; try simp only [decide_eq_true_eq, decide_eq_false_iff_not, Bool.and_eq_true, Bool.or_eq_true, Bool.not_eq_true', Bool.or_eq_false_iff, Bool.not_eq_false', Int.not_lt, Int.not_le, gt_iff_lt, ge_iff_le, Decidable.not_not] at pk19
            have k20 : (decide (((keysOf sampleL).getD 0 []) = [97, 114, 101, 97])) = true := (Bool.and_eq_true_iff.1 h13).2
            have pk20 := k20; try simp only [decide_eq_true_eq, decide_eq_false_iff_not, Bool.and_eq_true, Bool.or_eq_true, Bool.not_eq_true', Bool.or_eq_false_iff, Bool.not_eq_false', Int.not_lt, Int.not_le, gt_iff_lt, ge_iff_le, Decidable.not_not] at pk20
            have k21 : (((((((!(atOf sampleL ([97, 114, 101, 97]) 12 4).2) && (atOf sampleL ([97, 114, 101, 97]) 12 5).2) && (decide ((atOf sampleL ([97, 114, 101, 97]) 12 5).1 = 100))) && (atOf sampleL ([97, 114, 101, 97]) 12 8).2) && (decide ((atOf sampleL ([97, 114, 101, 97]) 12 8).1 = 90))) && (decide ((putOf sampleL ({ key := [97], value := 0, from_ := 0, until_ := 0, known := 11 } : Fact)).2 = 20))) && (decide ((putOf sampleL ({ key := [97], value := 0, from_ := 0, until_ := 0, known := 12 } : Fact)).2 = 0))) = true := (Bool.and_eq_true_iff.1 k19).1
            have pk21 := k21; try simp only [decide_eq_true_eq, decide_eq_false_iff_not, Bool.and_eq_true, Bool.or_eq_true, Bool.not_eq_true', Bool.or_eq_false_iff, Bool.not_eq_false', Int.not_lt, Int.not_le, gt_iff_lt, ge_iff_le, Decidable.not_not] at pk21
            have k22 : (rightB sampleL) = true := (Bool.and_eq_true_iff.1 k19).2
            have pk22 := k22; try simp only [decide_eq_true_eq, decide_eq_false_iff_not, Bool.and_eq_true, Bool.or_eq_true, Bool.not_eq_true', Bool.or_eq_false_iff, Bool.not_eq_false', Int.not_lt, Int.not_le, gt_iff_lt, ge_iff_le, Decidable.not_not] at pk22
            have k23 : ((((((!(atOf sampleL ([97, 114, 101, 97]) 12 4).2) && (atOf sampleL ([97, 114, 101, 97]) 12 5).2) && (decide ((atOf sampleL ([97, 114, 101, 97]) 12 5).1 = 100))) && (atOf sampleL ([97, 114, 101, 97]) 12 8).2) && (decide ((atOf sampleL ([97, 114, 101, 97]) 12 8).1 = 90))) && (decide ((putOf sampleL ({ key := [97], value := 0, from_ := 0, until_ := 0, known := 11 } : Fact)).2 = 20))) = true := (Bool.and_eq_true_iff.1 k21).1
            have pk23 := k23; try simp only [decide_eq_true_eq, decide_eq_false_iff_not, Bool.and_eq_true, Bool.or_eq_true, Bool.not_eq_true', Bool.or_eq_false_iff, Bool.not_eq_false', Int.not_lt, Int.not_le, gt_iff_lt, ge_iff_le, Decidable.not_not] at pk23
            have k24 : (decide ((putOf sampleL ({ key := [97], value := 0, from_ := 0, until_ := 0, known := 12 } : Fact)).2 = 0)) = true := (Bool.and_eq_true_iff.1 k21).2
            have pk24 := k24; try simp only [decide_eq_true_eq, decide_eq_false_iff_not, Bool.and_eq_true, Bool.or_eq_true, Bool.not_eq_true', Bool.or_eq_false_iff, Bool.not_eq_false', Int.not_lt, Int.not_le, gt_iff_lt, ge_iff_le, Decidable.not_not] at pk24
            have k25 : (((((!(atOf sampleL ([97, 114, 101, 97]) 12 4).2) && (atOf sampleL ([97, 114, 101, 97]) 12 5).2) && (decide ((atOf sampleL ([97, 114, 101, 97]) 12 5).1 = 100))) && (atOf sampleL ([97, 114, 101, 97]) 12 8).2) && (decide ((atOf sampleL ([97, 114, 101, 97]) 12 8).1 = 90))) = true := (Bool.and_eq_true_iff.1 k23).1
            have pk25 := k25; try simp only [decide_eq_true_eq, decide_eq_false_iff_not, Bool.and_eq_true, Bool.or_eq_true, Bool.not_eq_true', Bool.or_eq_false_iff, Bool.not_eq_false', Int.not_lt, Int.not_le, gt_iff_lt, ge_iff_le, Decidable.not_not] at pk25
            have k26 : (decide ((putOf sampleL ({ key := [97], value := 0, from_ := 0, until_ := 0, known := 11 } : Fact)).2 = 20)) = true := (Bool.and_eq_true_iff.1 k23).2
            have pk26 := k26; try simp only [decide_eq_true_eq, decide_eq_false_iff_not, Bool.and_eq_true, Bool.or_eq_true, Bool.not_eq_true', Bool.or_eq_false_iff, Bool.not_eq_false', Int.not_lt, Int.not_le, gt_iff_lt, ge_iff_le, Decidable.not_not] at pk26
            have k27 : ((((!(atOf sampleL ([97, 114, 101, 97]) 12 4).2) && (atOf sampleL ([97, 114, 101, 97]) 12 5).2) && (decide ((atOf sampleL ([97, 114, 101, 97]) 12 5).1 = 100))) && (atOf sampleL ([97, 114, 101, 97]) 12 8).2) = true := (Bool.and_eq_true_iff.1 k25).1
            have pk27 := k27; try simp only [decide_eq_true_eq, decide_eq_false_iff_not, Bool.and_eq_true, Bool.or_eq_true, Bool.not_eq_true', Bool.or_eq_false_iff, Bool.not_eq_false', Int.not_lt, Int.not_le, gt_iff_lt, ge_iff_le, Decidable.not_not] at pk27
            have k28 : (decide ((atOf sampleL ([97, 114, 101, 97]) 12 8).1 = 90)) = true := (Bool.and_eq_true_iff.1 k25).2
            have pk28 := k28; try simp only [decide_eq_true_eq, decide_eq_false_iff_not, Bool.and_eq_true, Bool.or_eq_true, Bool.not_eq_true', Bool.or_eq_false_iff, Bool.not_eq_false', Int.not_lt, Int.not_le, gt_iff_lt, ge_iff_le, Decidable.not_not] at pk28
            have k29 : (((!(atOf sampleL ([97, 114, 101, 97]) 12 4).2) && (atOf sampleL ([97, 114, 101, 97]) 12 5).2) && (decide ((atOf sampleL ([97, 114, 101, 97]) 12 5).1 = 100))) = true := (Bool.and_eq_true_iff.1 k27).1
            have pk29 := k29; try simp only [decide_eq_true_eq, decide_eq_false_iff_not, Bool.and_eq_true, Bool.or_eq_true, Bool.not_eq_true', Bool.or_eq_false_iff, Bool.not_eq_false', Int.not_lt, Int.not_le, gt_iff_lt, ge_iff_le, Decidable.not_not] at pk29
            have k30 : (atOf sampleL ([97, 114, 101, 97]) 12 8).2 = true := (Bool.and_eq_true_iff.1 k27).2
            have pk30 := k30; try simp only [decide_eq_true_eq, decide_eq_false_iff_not, Bool.and_eq_true, Bool.or_eq_true, Bool.not_eq_true', Bool.or_eq_false_iff, Bool.not_eq_false', Int.not_lt, Int.not_le, gt_iff_lt, ge_iff_le, Decidable.not_not] at pk30
            have k31 : ((!(atOf sampleL ([97, 114, 101, 97]) 12 4).2) && (atOf sampleL ([97, 114, 101, 97]) 12 5).2) = true := (Bool.and_eq_true_iff.1 k29).1
            have pk31 := k31; try simp only [decide_eq_true_eq, decide_eq_false_iff_not, Bool.and_eq_true, Bool.or_eq_true, Bool.not_eq_true', Bool.or_eq_false_iff, Bool.not_eq_false', Int.not_lt, Int.not_le, gt_iff_lt, ge_iff_le, Decidable.not_not] at pk31
            have k32 : (decide ((atOf sampleL ([97, 114, 101, 97]) 12 5).1 = 100)) = true := (Bool.and_eq_true_iff.1 k29).2
            have pk32 := k32; try simp only [decide_eq_true_eq, decide_eq_false_iff_not, Bool.and_eq_true, Bool.or_eq_true, Bool.not_eq_true', Bool.or_eq_false_iff, Bool.not_eq_false', Int.not_lt, Int.not_le, gt_iff_lt, ge_iff_le, Decidable.not_not] at pk32
            have k33 : (!(atOf sampleL ([97, 114, 101, 97]) 12 4).2) = true := (Bool.and_eq_true_iff.1 k31).1
            have pk33 := k33; try simp only [decide_eq_true_eq, decide_eq_false_iff_not, Bool.and_eq_true, Bool.or_eq_true, Bool.not_eq_true', Bool.or_eq_false_iff, Bool.not_eq_false', Int.not_lt, Int.not_le, gt_iff_lt, ge_iff_le, Decidable.not_not] at pk33
            have k34 : (atOf sampleL ([97, 114, 101, 97]) 12 5).2 = true := (Bool.and_eq_true_iff.1 k31).2
            have pk34 := k34; try simp only [decide_eq_true_eq, decide_eq_false_iff_not, Bool.and_eq_true, Bool.or_eq_true, Bool.not_eq_true', Bool.or_eq_false_iff, Bool.not_eq_false', Int.not_lt, Int.not_le, gt_iff_lt, ge_iff_le, Decidable.not_not] at pk34
            have k35 : (atOf sampleL ([97, 114, 101, 97]) 12 4).2 = false := (by simpa only [Bool.not_eq_true', Bool.not_eq_false'] using k33)
            have pk35 := k35; try simp only [decide_eq_true_eq, decide_eq_false_iff_not, Bool.and_eq_true, Bool.or_eq_true, Bool.not_eq_true', Bool.or_eq_false_iff, Bool.not_eq_false', Int.not_lt, Int.not_le, gt_iff_lt, ge_iff_le, Decidable.not_not] at pk35
            refine ops_val 107 (v3) rfl rfl rfl rfl (run_pv rfl) ?_
            refine ops_val 108 (.pointer (some ((adr v3).add (0 * 2)))) rfl rfl rfl rfl (run_index_rd (i := 0) sl37 (St.rdRow (n := 4) S rfl) rfl rfl (by omega)) ?_
            refine ops_val 109 (aggStay ((corOf sampleL ([97, 114, 101, 97]) 8 12).getD 0 default)) rfl rfl rfl rfl (run_load_agg (encStay ((corOf sampleL ([97, 114, 101, 97]) 8 12).getD 0 default)) ag44 rfl rfl (Rd.each (d := default) (St.rdRow (n := 4) S rfl) (by omega))) ?_
            refine ops_val 110 (.agg #[i64 15, i64 1073741824]) rfl rfl rfl rfl (run_buildS [(0, i64 15), (1, i64 1073741824)] [i64 15, i64 1073741824] rfl (by kernel_rfl)) ?_
            refine ops_val 111 (.bool (decide (((corOf sampleL ([97, 114, 101, 97]) 8 12).getD 0 default) = ({ from_ := 15, to := 1073741824 } : Stay)))) rfl rfl rfl rfl (run_eqS (a := [i64 (((corOf sampleL ([97, 114, 101, 97]) 8 12).getD 0 default).from_), i64 (((corOf sampleL ([97, 114, 101, 97]) 8 12).getD 0 default).to)]) (b := [i64 15, i64 1073741824]) (decide (((corOf sampleL ([97, 114, 101, 97]) 8 12).getD 0 default) = ({ from_ := 15, to := 1073741824 } : Stay))) fl44 rfl rfl rfl rfl (eqsStay ((corOf sampleL ([97, 114, 101, 97]) 8 12).getD 0 default) ({ from_ := 15, to := 1073741824 } : Stay))) ?_
            refine ops_val 112 (.bool (decide (((corOf sampleL ([97, 114, 101, 97]) 8 12).getD 0 default) = ({ from_ := 15, to := 1073741824 } : Stay)))) rfl rfl rfl rfl (run_pv rfl) ?_
            refine ops_val 113 (.bool (decide (((corOf sampleL ([97, 114, 101, 97]) 8 12).getD 0 default) = ({ from_ := 15, to := 1073741824 } : Stay)))) rfl rfl rfl rfl (run_pv rfl) ?_
            refine ops_case 113 (decide (((corOf sampleL ([97, 114, 101, 97]) 8 12).getD 0 default) = ({ from_ := 15, to := 1073741824 } : Stay))) rfl (fun h14 => ?_) (fun h14 => ?_)
            · have p14 := h14; try simp only [decide_eq_true_eq, decide_eq_false_iff_not, Bool.and_eq_true, Bool.or_eq_true, Bool.not_eq_true', Bool.or_eq_false_iff, Bool.not_eq_false', Int.not_lt, Int.not_le, gt_iff_lt, ge_iff_le, Decidable.not_not] at p14
              refine ops_val 114 (v4) rfl rfl rfl rfl (run_pv rfl) ?_
              refine ops_val 115 (.pointer (some ((adr v4).add (0 * 2)))) rfl rfl rfl rfl (run_index_rd (i := 0) sl37 (St.rdRow (n := 3) S rfl) rfl rfl (by omega)) ?_
              refine ops_val 116 (aggStay ((corOf sampleL ([97, 114, 101, 97]) 4 8).getD 0 default)) rfl rfl rfl rfl (run_load_agg (encStay ((corOf sampleL ([97, 114, 101, 97]) 4 8).getD 0 default)) ag44 rfl rfl (Rd.each (d := default) (St.rdRow (n := 3) S rfl) (by omega))) ?_
              refine ops_val 117 (.agg #[i64 0, i64 1073741824]) rfl rfl rfl rfl (run_buildS [(1, i64 1073741824)] [i64 0, i64 1073741824] rfl (by kernel_rfl)) ?_
              refine ops_val 118 (.bool (decide (((corOf sampleL ([97, 114, 101, 97]) 4 8).getD 0 default) = ({ from_ := 0, to := 1073741824 } : Stay)))) rfl rfl rfl rfl (run_eqS (a := [i64 (((corOf sampleL ([97, 114, 101, 97]) 4 8).getD 0 default).from_), i64 (((corOf sampleL ([97, 114, 101, 97]) 4 8).getD 0 default).to)]) (b := [i64 0, i64 1073741824]) (decide (((corOf sampleL ([97, 114, 101, 97]) 4 8).getD 0 default) = ({ from_ := 0, to := 1073741824 } : Stay))) fl44 rfl rfl rfl rfl (eqsStay ((corOf sampleL ([97, 114, 101, 97]) 4 8).getD 0 default) ({ from_ := 0, to := 1073741824 } : Stay))) ?_
              refine ops_val 119 (.bool (decide (((corOf sampleL ([97, 114, 101, 97]) 4 8).getD 0 default) = ({ from_ := 0, to := 1073741824 } : Stay)))) rfl rfl rfl rfl (run_pv rfl) ?_
              refine ops_val 120 (.bool (decide (((corOf sampleL ([97, 114, 101, 97]) 4 8).getD 0 default) = ({ from_ := 0, to := 1073741824 } : Stay)))) rfl rfl rfl rfl (run_pv rfl) ?_
              refine ops_case 120 (decide (((corOf sampleL ([97, 114, 101, 97]) 4 8).getD 0 default) = ({ from_ := 0, to := 1073741824 } : Stay))) rfl (fun h15 => ?_) (fun h15 => ?_)
              · have p15 := h15; try simp only [decide_eq_true_eq, decide_eq_false_iff_not, Bool.and_eq_true, Bool.or_eq_true, Bool.not_eq_true', Bool.or_eq_false_iff, Bool.not_eq_false', Int.not_lt, Int.not_le, gt_iff_lt, ge_iff_le, Decidable.not_not] at p15
                refine ops_val 121 (v2) rfl rfl rfl rfl (run_pv rfl) ?_
                refine ops_val 122 (.pointer (some ((adr v2).add (0 * 5)))) rfl rfl rfl rfl (run_index_rd (i := 0) sl22 (St.rdRow (n := 5) S rfl) rfl rfl (by omega)) ?_
                refine ops_val 123 (.pointer (some (((adr v2).add (0 * 5)).add 3))) rfl rfl rfl rfl (run_fieldAddr fd24_3 rfl) ?_
                refine ops_val 124 (i64 (((histOf sampleL ([97, 114, 101, 97]) 12).getD 0 default).until_)) rfl rfl rfl rfl (run_load_scal sc3 rfl (Rd.at' (d := default) (j := 3) (St.rdRow (n := 5) S rfl) (by omega) rfl)) ?_
                refine ops_val 125 (.bool (decide (((histOf sampleL ([97, 114, 101, 97]) 12).getD 0 default).until_ = 10))) rfl rfl rfl rfl (run_pv rfl) ?_
                refine ops_val 126 (.bool (decide (((histOf sampleL ([97, 114, 101, 97]) 12).getD 0 default).until_ = 10))) rfl rfl rfl rfl (run_pv rfl) ?_
                refine ops_val 127 (.bool (decide (((histOf sampleL ([97, 114, 101, 97]) 12).getD 0 default).until_ = 10))) rfl rfl rfl rfl (run_pv rfl) ?_
                refine ops_case 127 (decide (((histOf sampleL ([97, 114, 101, 97]) 12).getD 0 default).until_ = 10)) rfl (fun h16 => ?_) (fun h16 => ?_)
                · have p16 := h16; try simp only [decide_eq_true_eq, decide_eq_false_iff_not, Bool.and_eq_true, Bool.or_eq_true, Bool.not_eq_true', Bool.or_eq_false_iff, Bool.not_eq_false', Int.not_lt, Int.not_le, gt_iff_lt, ge_iff_le, Decidable.not_not] at p16
                  refine ops_val 128 (v2) rfl rfl rfl rfl (run_pv rfl) ?_
                  refine ops_val 129 (.pointer (some ((adr v2).add (1 * 5)))) rfl rfl rfl rfl (run_index_rd (i := 1) sl22 (St.rdRow (n := 5) S rfl) rfl rfl (by omega)) ?_
                  refine ops_val 130 (.pointer (some (((adr v2).add (1 * 5)).add 2))) rfl rfl rfl rfl (run_fieldAddr fd24_2 rfl) ?_
                  refine ops_val 131 (i64 (((histOf sampleL ([97, 114, 101, 97]) 12).getD 1 default).from_)) rfl rfl rfl rfl (run_load_scal sc3 rfl (Rd.at' (d := default) (j := 2) (St.rdRow (n := 5) S rfl) (by omega) rfl)) ?_
                  refine ops_val 132 (.bool (decide (((histOf sampleL ([97, 114, 101, 97]) 12).getD 1 default).from_ = 10))) rfl rfl rfl rfl (run_pv rfl) ?_
                  refine ops_val 133 (.bool (decide (((histOf sampleL ([97, 114, 101, 97]) 12).getD 1 default).from_ = 10))) rfl rfl rfl rfl (run_pv rfl) ?_
                  refine ops_val 134 (.bool (decide (((histOf sampleL ([97, 114, 101, 97]) 12).getD 1 default).from_ = 10))) rfl rfl rfl rfl (run_pv rfl) ?_
                  refine ops_case 134 (decide (((histOf sampleL ([97, 114, 101, 97]) 12).getD 1 default).from_ = 10)) rfl (fun h17 => ?_) (fun h17 => ?_)
                  · have p17 := h17; try simp only [decide_eq_true_eq, decide_eq_false_iff_not, Bool.and_eq_true, Bool.or_eq_true, Bool.not_eq_true', Bool.or_eq_false_iff, Bool.not_eq_false', Int.not_lt, Int.not_le, gt_iff_lt, ge_iff_le, Decidable.not_not] at p17
                    refine ops_val 135 (v2) rfl rfl rfl rfl (run_pv rfl) ?_
                    refine ops_val 136 (.pointer (some ((adr v2).add (1 * 5)))) rfl rfl rfl rfl (run_index_rd (i := 1) sl22 (St.rdRow (n := 5) S rfl) rfl rfl (by omega)) ?_
                    refine ops_val 137 (.pointer (some (((adr v2).add (1 * 5)).add 3))) rfl rfl rfl rfl (run_fieldAddr fd24_3 rfl) ?_
                    refine ops_val 138 (i64 (((histOf sampleL ([97, 114, 101, 97]) 12).getD 1 default).until_)) rfl rfl rfl rfl (run_load_scal sc3 rfl (Rd.at' (d := default) (j := 3) (St.rdRow (n := 5) S rfl) (by omega) rfl)) ?_
                    refine ops_val 139 (.bool (decide (((histOf sampleL ([97, 114, 101, 97]) 12).getD 1 default).until_ = 15))) rfl rfl rfl rfl (run_pv rfl) ?_
                    refine ops_val 140 (.bool (decide (((histOf sampleL ([97, 114, 101, 97]) 12).getD 1 default).until_ = 15))) rfl rfl rfl rfl (run_pv rfl) ?_
                    refine ops_val 141 (.bool (decide (((histOf sampleL ([97, 114, 101, 97]) 12).getD 1 default).until_ = 15))) rfl rfl rfl rfl (run_pv rfl) ?_
                    refine ops_case 141 (decide (((histOf sampleL ([97, 114, 101, 97]) 12).getD 1 default).until_ = 15)) rfl (fun h18 => ?_) (fun h18 => ?_)
                    · have p18 := h18; try simp only [decide_eq_true_eq, decide_eq_false_iff_not, Bool.and_eq_true, Bool.or_eq_true, Bool.not_eq_true', Bool.or_eq_false_iff, Bool.not_eq_false', Int.not_lt, Int.not_le, gt_iff_lt, ge_iff_le, Decidable.not_not] at p18
                      refine ops_val 142 (v2) rfl rfl rfl rfl (run_pv rfl) ?_
                      refine ops_val 143 (.pointer (some ((adr v2).add (2 * 5)))) rfl rfl rfl rfl (run_index_rd (i := 2) sl22 (St.rdRow (n := 5) S rfl) rfl rfl (by omega)) ?_
                      refine ops_val 144 (.pointer (some (((adr v2).add (2 * 5)).add 2))) rfl rfl rfl rfl (run_fieldAddr fd24_2 rfl) ?_
                      refine ops_val 145 (i64 (((histOf sampleL ([97, 114, 101, 97]) 12).getD 2 default).from_)) rfl rfl rfl rfl (run_load_scal sc3 rfl (Rd.at' (d := default) (j := 2) (St.rdRow (n := 5) S rfl) (by omega) rfl)) ?_
                      refine ops_val 146 (.bool (decide (((histOf sampleL ([97, 114, 101, 97]) 12).getD 2 default).from_ = 15))) rfl rfl rfl rfl (run_pv rfl) ?_
                      refine ops_val 147 (.bool (decide (((histOf sampleL ([97, 114, 101, 97]) 12).getD 2 default).from_ = 15))) rfl rfl rfl rfl (run_pv rfl) ?_
                      refine ops_val 148 (.bool (decide (((histOf sampleL ([97, 114, 101, 97]) 12).getD 2 default).from_ = 15))) rfl rfl rfl rfl (run_pv rfl) ?_
                      refine ops_case 148 (decide (((histOf sampleL ([97, 114, 101, 97]) 12).getD 2 default).from_ = 15)) rfl (fun h19 => ?_) (fun h19 => ?_)
                      · have p19 := h19; try simp only [decide_eq_true_eq, decide_eq_false_iff_not, Bool.and_eq_true, Bool.or_eq_true, Bool.not_eq_true', Bool.or_eq_false_iff, Bool.not_eq_false', Int.not_lt, Int.not_le, gt_iff_lt, ge_iff_le, Decidable.not_not] at p19
                        refine ops_val 149 (v2) rfl rfl rfl rfl (run_pv rfl) ?_
                        refine ops_val 150 (.pointer (some ((adr v2).add (2 * 5)))) rfl rfl rfl rfl (run_index_rd (i := 2) sl22 (St.rdRow (n := 5) S rfl) rfl rfl (by omega)) ?_
                        refine ops_val 151 (.pointer (some (((adr v2).add (2 * 5)).add 3))) rfl rfl rfl rfl (run_fieldAddr fd24_3 rfl) ?_
                        refine ops_val 152 (i64 (((histOf sampleL ([97, 114, 101, 97]) 12).getD 2 default).until_)) rfl rfl rfl rfl (run_load_scal sc3 rfl (Rd.at' (d := default) (j := 3) (St.rdRow (n := 5) S rfl) (by omega) rfl)) ?_
                        refine ops_val 153 (.bool (decide (((histOf sampleL ([97, 114, 101, 97]) 12).getD 2 default).until_ = 0))) rfl rfl rfl rfl (run_pv rfl) ?_
                        refine ops_val 154 (.bool (decide (((histOf sampleL ([97, 114, 101, 97]) 12).getD 2 default).until_ = 0))) rfl rfl rfl rfl (run_pv rfl) ?_
                        refine ops_val 155 (.bool (decide (((histOf sampleL ([97, 114, 101, 97]) 12).getD 2 default).until_ = 0))) rfl rfl rfl rfl (run_pv rfl) ?_
                        refine ops_case 155 (decide (((histOf sampleL ([97, 114, 101, 97]) 12).getD 2 default).until_ = 0)) rfl (fun h20 => ?_) (fun h20 => ?_)
                        · have p20 := h20; try simp only [decide_eq_true_eq, decide_eq_false_iff_not, Bool.and_eq_true, Bool.or_eq_true, Bool.not_eq_true', Bool.or_eq_false_iff, Bool.not_eq_false', Int.not_lt, Int.not_le, gt_iff_lt, ge_iff_le, Decidable.not_not] at p20
                          refine ops_val 156 (v2) rfl rfl rfl rfl (run_pv rfl) ?_
                          refine ops_val 157 (.pointer (some ((adr v2).add (2 * 5)))) rfl rfl rfl rfl (run_index_rd (i := 2) sl22 (St.rdRow (n := 5) S rfl) rfl rfl (by omega)) ?_
                          refine ops_val 158 (.pointer (some (((adr v2).add (2 * 5)).add 1))) rfl rfl rfl rfl (run_fieldAddr fd24_1 rfl) ?_
                          refine ops_val 159 (i64 (((histOf sampleL ([97, 114, 101, 97]) 12).getD 2 default).value)) rfl rfl rfl rfl (run_load_scal sc3 rfl (Rd.at' (d := default) (j := 1) (St.rdRow (n := 5) S rfl) (by omega) rfl)) ?_
                          refine ops_val 160 (.bool (decide (((histOf sampleL ([97, 114, 101, 97]) 12).getD 2 default).value = 95))) rfl rfl rfl rfl (run_pv rfl) ?_
                          refine ops_val 161 (.bool (decide (((histOf sampleL ([97, 114, 101, 97]) 12).getD 2 default).value = 95))) rfl rfl rfl rfl (run_pv rfl) ?_
                          refine ops_val 0 (.bool (decide (((histOf sampleL ([97, 114, 101, 97]) 12).getD 2 default).value = 95))) rfl rfl rfl rfl (run_pv rfl) ?_
                          refine ops_nil ?_
                          refine nrm_then ?_
                          exact ⟨⟨congrArg Value.bool (by simp only [h4, k7, k8, k9, k10, k11, k12, k13, k14, k15, k16, h13, k19, k20, k21, k22, k23, k24, k25, k26, k27, k28, k29, k30, k31, k32, k33, k34, k35, h14, h15, h16, h17, h18, h19, h20, Bool.true_and, Bool.false_and, Bool.and_true, Bool.and_false, Bool.true_or, Bool.false_or, Bool.or_true, Bool.or_false, Bool.not_true, Bool.not_false]), trivial⟩, rfl, S⟩
                        · have p20 := h20; try simp only [decide_eq_true_eq, decide_eq_false_iff_not, Bool.and_eq_true, Bool.or_eq_true, Bool.not_eq_true', Bool.or_eq_false_iff, Bool.not_eq_false', Int.not_lt, Int.not_le, gt_iff_lt, ge_iff_le, Decidable.not_not] at p20
                          refine ops_skip 156 rfl rfl rfl ?_
                          refine ops_skip 157 rfl rfl rfl ?_
                          refine ops_skip 158 rfl rfl rfl ?_
                          refine ops_skip 159 rfl rfl rfl ?_
                          refine ops_skip 160 rfl rfl rfl ?_
                          refine ops_val 161 (.bool false) rfl rfl rfl rfl (run_pv rfl) ?_
                          refine ops_val 0 (.bool false) rfl rfl rfl rfl (run_pv rfl) ?_
                          refine ops_nil ?_
                          refine nrm_then ?_
                          exact ⟨⟨congrArg Value.bool (by simp only [h4, k7, k8, k9, k10, k11, k12, k13, k14, k15, k16, h13, k19, k20, k21, k22, k23, k24, k25, k26, k27, k28, k29, k30, k31, k32, k33, k34, k35, h14, h15, h16, h17, h18, h19, h20, Bool.true_and, Bool.false_and, Bool.and_true, Bool.and_false, Bool.true_or, Bool.false_or, Bool.or_true, Bool.or_false, Bool.not_true, Bool.not_false]), trivial⟩, rfl, S⟩
                      · have p19 := h19; try simp only [decide_eq_true_eq, decide_eq_false_iff_not, Bool.and_eq_true, Bool.or_eq_true, Bool.not_eq_true', Bool.or_eq_false_iff, Bool.not_eq_false', Int.not_lt, Int.not_le, gt_iff_lt, ge_iff_le, Decidable.not_not] at p19
                        refine ops_skip 149 rfl rfl rfl ?_
                        refine ops_skip 150 rfl rfl rfl ?_
                        refine ops_skip 151 rfl rfl rfl ?_
                        refine ops_skip 152 rfl rfl rfl ?_
                        refine ops_skip 153 rfl rfl rfl ?_
                        refine ops_val 154 (.bool false) rfl rfl rfl rfl (run_pv rfl) ?_
                        refine ops_val 155 (.bool false) rfl rfl rfl rfl (run_pv rfl) ?_
                        refine ops_skip 156 rfl rfl rfl ?_
                        refine ops_skip 157 rfl rfl rfl ?_
                        refine ops_skip 158 rfl rfl rfl ?_
                        refine ops_skip 159 rfl rfl rfl ?_
                        refine ops_skip 160 rfl rfl rfl ?_
                        refine ops_val 161 (.bool false) rfl rfl rfl rfl (run_pv rfl) ?_
                        refine ops_val 0 (.bool false) rfl rfl rfl rfl (run_pv rfl) ?_
                        refine ops_nil ?_
                        refine nrm_then ?_
                        exact ⟨⟨congrArg Value.bool (by simp only [h4, k7, k8, k9, k10, k11, k12, k13, k14, k15, k16, h13, k19, k20, k21, k22, k23, k24, k25, k26, k27, k28, k29, k30, k31, k32, k33, k34, k35, h14, h15, h16, h17, h18, h19, Bool.true_and, Bool.false_and, Bool.and_true, Bool.and_false, Bool.true_or, Bool.false_or, Bool.or_true, Bool.or_false, Bool.not_true, Bool.not_false]), trivial⟩, rfl, S⟩
                    · have p18 := h18; try simp only [decide_eq_true_eq, decide_eq_false_iff_not, Bool.and_eq_true, Bool.or_eq_true, Bool.not_eq_true', Bool.or_eq_false_iff, Bool.not_eq_false', Int.not_lt, Int.not_le, gt_iff_lt, ge_iff_le, Decidable.not_not] at p18
                      refine ops_skip 142 rfl rfl rfl ?_
                      refine ops_skip 143 rfl rfl rfl ?_
                      refine ops_skip 144 rfl rfl rfl ?_
                      refine ops_skip 145 rfl rfl rfl ?_
                      refine ops_skip 146 rfl rfl rfl ?_
                      refine ops_val 147 (.bool false) rfl rfl rfl rfl (run_pv rfl) ?_
                      refine ops_val 148 (.bool false) rfl rfl rfl rfl (run_pv rfl) ?_
                      refine ops_skip 149 rfl rfl rfl ?_
                      refine ops_skip 150 rfl rfl rfl ?_
                      refine ops_skip 151 rfl rfl rfl ?_
                      refine ops_skip 152 rfl rfl rfl ?_
                      refine ops_skip 153 rfl rfl rfl ?_
                      refine ops_val 154 (.bool false) rfl rfl rfl rfl (run_pv rfl) ?_
                      refine ops_val 155 (.bool false) rfl rfl rfl rfl (run_pv rfl) ?_
                      refine ops_skip 156 rfl rfl rfl ?_
                      refine ops_skip 157 rfl rfl rfl ?_
                      refine ops_skip 158 rfl rfl rfl ?_
                      refine ops_skip 159 rfl rfl rfl ?_
                      refine ops_skip 160 rfl rfl rfl ?_
                      refine ops_val 161 (.bool false) rfl rfl rfl rfl (run_pv rfl) ?_
                      refine ops_val 0 (.bool false) rfl rfl rfl rfl (run_pv rfl) ?_
                      refine ops_nil ?_
                      refine nrm_then ?_
                      exact ⟨⟨congrArg Value.bool (by simp only [h4, k7, k8, k9, k10, k11, k12, k13, k14, k15, k16, h13, k19, k20, k21, k22, k23, k24, k25, k26, k27, k28, k29, k30, k31, k32, k33, k34, k35, h14, h15, h16, h17, h18, Bool.true_and, Bool.false_and, Bool.and_true, Bool.and_false, Bool.true_or, Bool.false_or, Bool.or_true, Bool.or_false, Bool.not_true, Bool.not_false]), trivial⟩, rfl, S⟩
                  · have p17 := h17; try simp only [decide_eq_true_eq, decide_eq_false_iff_not, Bool.and_eq_true, Bool.or_eq_true, Bool.not_eq_true', Bool.or_eq_false_iff, Bool.not_eq_false', Int.not_lt, Int.not_le, gt_iff_lt, ge_iff_le, Decidable.not_not] at p17
                    refine ops_skip 135 rfl rfl rfl ?_
                    refine ops_skip 136 rfl rfl rfl ?_
                    refine ops_skip 137 rfl rfl rfl ?_
                    refine ops_skip 138 rfl rfl rfl ?_
                    refine ops_skip 139 rfl rfl rfl ?_
                    refine ops_val 140 (.bool false) rfl rfl rfl rfl (run_pv rfl) ?_
                    refine ops_val 141 (.bool false) rfl rfl rfl rfl (run_pv rfl) ?_
                    refine ops_skip 142 rfl rfl rfl ?_
                    refine ops_skip 143 rfl rfl rfl ?_
                    refine ops_skip 144 rfl rfl rfl ?_
                    refine ops_skip 145 rfl rfl rfl ?_
                    refine ops_skip 146 rfl rfl rfl ?_
                    refine ops_val 147 (.bool false) rfl rfl rfl rfl (run_pv rfl) ?_
                    refine ops_val 148 (.bool false) rfl rfl rfl rfl (run_pv rfl) ?_
                    refine ops_skip 149 rfl rfl rfl ?_
                    refine ops_skip 150 rfl rfl rfl ?_
                    refine ops_skip 151 rfl rfl rfl ?_
                    refine ops_skip 152 rfl rfl rfl ?_
                    refine ops_skip 153 rfl rfl rfl ?_
                    refine ops_val 154 (.bool false) rfl rfl rfl rfl (run_pv rfl) ?_
                    refine ops_val 155 (.bool false) rfl rfl rfl rfl (run_pv rfl) ?_
                    refine ops_skip 156 rfl rfl rfl ?_
                    refine ops_skip 157 rfl rfl rfl ?_
                    refine ops_skip 158 rfl rfl rfl ?_
                    refine ops_skip 159 rfl rfl rfl ?_
                    refine ops_skip 160 rfl rfl rfl ?_
                    refine ops_val 161 (.bool false) rfl rfl rfl rfl (run_pv rfl) ?_
                    refine ops_val 0 (.bool false) rfl rfl rfl rfl (run_pv rfl) ?_
                    refine ops_nil ?_
                    refine nrm_then ?_
                    exact ⟨⟨congrArg Value.bool (by simp only [h4, k7, k8, k9, k10, k11, k12, k13, k14, k15, k16, h13, k19, k20, k21, k22, k23, k24, k25, k26, k27, k28, k29, k30, k31, k32, k33, k34, k35, h14, h15, h16, h17, Bool.true_and, Bool.false_and, Bool.and_true, Bool.and_false, Bool.true_or, Bool.false_or, Bool.or_true, Bool.or_false, Bool.not_true, Bool.not_false]), trivial⟩, rfl, S⟩
                · have p16 := h16; try simp only [decide_eq_true_eq, decide_eq_false_iff_not, Bool.and_eq_true, Bool.or_eq_true, Bool.not_eq_true', Bool.or_eq_false_iff, Bool.not_eq_false', Int.not_lt, Int.not_le, gt_iff_lt, ge_iff_le, Decidable.not_not] at p16
                  refine ops_skip 128 rfl rfl rfl ?_
                  refine ops_skip 129 rfl rfl rfl ?_
                  refine ops_skip 130 rfl rfl rfl ?_
                  refine ops_skip 131 rfl rfl rfl ?_
                  refine ops_skip 132 rfl rfl rfl ?_
                  refine ops_val 133 (.bool false) rfl rfl rfl rfl (run_pv rfl) ?_
                  refine ops_val 134 (.bool false) rfl rfl rfl rfl (run_pv rfl) ?_
                  refine ops_skip 135 rfl rfl rfl ?_
                  refine ops_skip 136 rfl rfl rfl ?_
                  refine ops_skip 137 rfl rfl rfl ?_
                  refine ops_skip 138 rfl rfl rfl ?_
                  refine ops_skip 139 rfl rfl rfl ?_
                  refine ops_val 140 (.bool false) rfl rfl rfl rfl (run_pv rfl) ?_
                  refine ops_val 141 (.bool false) rfl rfl rfl rfl (run_pv rfl) ?_
                  refine ops_skip 142 rfl rfl rfl ?_
                  refine ops_skip 143 rfl rfl rfl ?_
                  refine ops_skip 144 rfl rfl rfl ?_
                  refine ops_skip 145 rfl rfl rfl ?_
                  refine ops_skip 146 rfl rfl rfl ?_
                  refine ops_val 147 (.bool false) rfl rfl rfl rfl (run_pv rfl) ?_
                  refine ops_val 148 (.bool false) rfl rfl rfl rfl (run_pv rfl) ?_
                  refine ops_skip 149 rfl rfl rfl ?_
                  refine ops_skip 150 rfl rfl rfl ?_
                  refine ops_skip 151 rfl rfl rfl ?_
                  refine ops_skip 152 rfl rfl rfl ?_
                  refine ops_skip 153 rfl rfl rfl ?_
                  refine ops_val 154 (.bool false) rfl rfl rfl rfl (run_pv rfl) ?_
                  refine ops_val 155 (.bool false) rfl rfl rfl rfl (run_pv rfl) ?_
                  refine ops_skip 156 rfl rfl rfl ?_
                  refine ops_skip 157 rfl rfl rfl ?_
                  refine ops_skip 158 rfl rfl rfl ?_
                  refine ops_skip 159 rfl rfl rfl ?_
                  refine ops_skip 160 rfl rfl rfl ?_
                  refine ops_val 161 (.bool false) rfl rfl rfl rfl (run_pv rfl) ?_
                  refine ops_val 0 (.bool false) rfl rfl rfl rfl (run_pv rfl) ?_
                  refine ops_nil ?_
                  refine nrm_then ?_
                  exact ⟨⟨congrArg Value.bool (by simp only [h4, k7, k8, k9, k10, k11, k12, k13, k14, k15, k16, h13, k19, k20, k21, k22, k23, k24, k25, k26, k27, k28, k29, k30, k31, k32, k33, k34, k35, h14, h15, h16, Bool.true_and, Bool.false_and, Bool.and_true, Bool.and_false, Bool.true_or, Bool.false_or, Bool.or_true, Bool.or_false, Bool.not_true, Bool.not_false]), trivial⟩, rfl, S⟩
              · have p15 := h15; try simp only [decide_eq_true_eq, decide_eq_false_iff_not, Bool.and_eq_true, Bool.or_eq_true, Bool.not_eq_true', Bool.or_eq_false_iff, Bool.not_eq_false', Int.not_lt, Int.not_le, gt_iff_lt, ge_iff_le, Decidable.not_not] at p15
                refine ops_skip 121 rfl rfl rfl ?_
                refine ops_skip 122 rfl rfl rfl ?_
                refine ops_skip 123 rfl rfl rfl ?_
                refine ops_skip 124 rfl rfl rfl ?_
                refine ops_skip 125 rfl rfl rfl ?_
                refine ops_val 126 (.bool false) rfl rfl rfl rfl (run_pv rfl) ?_
                refine ops_val 127 (.bool false) rfl rfl rfl rfl (run_pv rfl) ?_
                refine ops_skip 128 rfl rfl rfl ?_
                refine ops_skip 129 rfl rfl rfl ?_
                refine ops_skip 130 rfl rfl rfl ?_
                refine ops_skip 131 rfl rfl rfl ?_
                refine ops_skip 132 rfl rfl rfl ?_
                refine ops_val 133 (.bool false) rfl rfl rfl rfl (run_pv rfl) ?_
                refine ops_val 134 (.bool false) rfl rfl rfl rfl (run_pv rfl) ?_
                refine ops_skip 135 rfl rfl rfl ?_
                refine ops_skip 136 rfl rfl rfl ?_
                refine ops_skip 137 rfl rfl rfl ?_
                refine ops_skip 138 rfl rfl rfl ?_
                refine ops_skip 139 rfl rfl rfl ?_
                refine ops_val 140 (.bool false) rfl rfl rfl rfl (run_pv rfl) ?_
                refine ops_val 141 (.bool false) rfl rfl rfl rfl (run_pv rfl) ?_
                refine ops_skip 142 rfl rfl rfl ?_
                refine ops_skip 143 rfl rfl rfl ?_
                refine ops_skip 144 rfl rfl rfl ?_
                refine ops_skip 145 rfl rfl rfl ?_
                refine ops_skip 146 rfl rfl rfl ?_
                refine ops_val 147 (.bool false) rfl rfl rfl rfl (run_pv rfl) ?_
                refine ops_val 148 (.bool false) rfl rfl rfl rfl (run_pv rfl) ?_
                refine ops_skip 149 rfl rfl rfl ?_
                refine ops_skip 150 rfl rfl rfl ?_
                refine ops_skip 151 rfl rfl rfl ?_
                refine ops_skip 152 rfl rfl rfl ?_
                refine ops_skip 153 rfl rfl rfl ?_
                refine ops_val 154 (.bool false) rfl rfl rfl rfl (run_pv rfl) ?_
                refine ops_val 155 (.bool false) rfl rfl rfl rfl (run_pv rfl) ?_
                refine ops_skip 156 rfl rfl rfl ?_
                refine ops_skip 157 rfl rfl rfl ?_
                refine ops_skip 158 rfl rfl rfl ?_
                refine ops_skip 159 rfl rfl rfl ?_
                refine ops_skip 160 rfl rfl rfl ?_
                refine ops_val 161 (.bool false) rfl rfl rfl rfl (run_pv rfl) ?_
                refine ops_val 0 (.bool false) rfl rfl rfl rfl (run_pv rfl) ?_
                refine ops_nil ?_
                refine nrm_then ?_
                exact ⟨⟨congrArg Value.bool (by simp only [h4, k7, k8, k9, k10, k11, k12, k13, k14, k15, k16, h13, k19, k20, k21, k22, k23, k24, k25, k26, k27, k28, k29, k30, k31, k32, k33, k34, k35, h14, h15, Bool.true_and, Bool.false_and, Bool.and_true, Bool.and_false, Bool.true_or, Bool.false_or, Bool.or_true, Bool.or_false, Bool.not_true, Bool.not_false]), trivial⟩, rfl, S⟩
            · have p14 := h14; try simp only [decide_eq_true_eq, decide_eq_false_iff_not, Bool.and_eq_true, Bool.or_eq_true, Bool.not_eq_true', Bool.or_eq_false_iff, Bool.not_eq_false', Int.not_lt, Int.not_le, gt_iff_lt, ge_iff_le, Decidable.not_not] at p14
              refine ops_skip 114 rfl rfl rfl ?_
              refine ops_skip 115 rfl rfl rfl ?_
              refine ops_skip 116 rfl rfl rfl ?_
              refine ops_skip 117 rfl rfl rfl ?_
              refine ops_skip 118 rfl rfl rfl ?_
              refine ops_val 119 (.bool false) rfl rfl rfl rfl (run_pv rfl) ?_
              refine ops_val 120 (.bool false) rfl rfl rfl rfl (run_pv rfl) ?_
              refine ops_skip 121 rfl rfl rfl ?_
              refine ops_skip 122 rfl rfl rfl ?_
              refine ops_skip 123 rfl rfl rfl ?_
              refine ops_skip 124 rfl rfl rfl ?_
              refine ops_skip 125 rfl rfl rfl ?_
              refine ops_val 126 (.bool false) rfl rfl rfl rfl (run_pv rfl) ?_
              refine ops_val 127 (.bool false) rfl rfl rfl rfl (run_pv rfl) ?_
              refine ops_skip 128 rfl rfl rfl ?_
              refine ops_skip 129 rfl rfl rfl ?_
              refine ops_skip 130 rfl rfl rfl ?_
              refine ops_skip 131 rfl rfl rfl ?_
              refine ops_skip 132 rfl rfl rfl ?_
              refine ops_val 133 (.bool false) rfl rfl rfl rfl (run_pv rfl) ?_
              refine ops_val 134 (.bool false) rfl rfl rfl rfl (run_pv rfl) ?_
              refine ops_skip 135 rfl rfl rfl ?_
              refine ops_skip 136 rfl rfl rfl ?_
              refine ops_skip 137 rfl rfl rfl ?_
              refine ops_skip 138 rfl rfl rfl ?_
              refine ops_skip 139 rfl rfl rfl ?_
              refine ops_val 140 (.bool false) rfl rfl rfl rfl (run_pv rfl) ?_
              refine ops_val 141 (.bool false) rfl rfl rfl rfl (run_pv rfl) ?_
              refine ops_skip 142 rfl rfl rfl ?_
              refine ops_skip 143 rfl rfl rfl ?_
              refine ops_skip 144 rfl rfl rfl ?_
              refine ops_skip 145 rfl rfl rfl ?_
              refine ops_skip 146 rfl rfl rfl ?_
              refine ops_val 147 (.bool false) rfl rfl rfl rfl (run_pv rfl) ?_
              refine ops_val 148 (.bool false) rfl rfl rfl rfl (run_pv rfl) ?_
              refine ops_skip 149 rfl rfl rfl ?_
              refine ops_skip 150 rfl rfl rfl ?_
              refine ops_skip 151 rfl rfl rfl ?_
              refine ops_skip 152 rfl rfl rfl ?_
              refine ops_skip 153 rfl rfl rfl ?_
              refine ops_val 154 (.bool false) rfl rfl rfl rfl (run_pv rfl) ?_
              refine ops_val 155 (.bool false) rfl rfl rfl rfl (run_pv rfl) ?_
              refine ops_skip 156 rfl rfl rfl ?_
              refine ops_skip 157 rfl rfl rfl ?_
              refine ops_skip 158 rfl rfl rfl ?_
              refine ops_skip 159 rfl rfl rfl ?_
              refine ops_skip 160 rfl rfl rfl ?_
              refine ops_val 161 (.bool false) rfl rfl rfl rfl (run_pv rfl) ?_
              refine ops_val 0 (.bool false) rfl rfl rfl rfl (run_pv rfl) ?_
              refine ops_nil ?_
              refine nrm_then ?_
              exact ⟨⟨congrArg Value.bool (by simp only [h4, k7, k8, k9, k10, k11, k12, k13, k14, k15, k16, h13, k19, k20, k21, k22, k23, k24, k25, k26, k27, k28, k29, k30, k31, k32, k33, k34, k35, h14, Bool.true_and, Bool.false_and, Bool.and_true, Bool.and_false, Bool.true_or, Bool.false_or, Bool.or_true, Bool.or_false, Bool.not_true, Bool.not_false]), trivial⟩, rfl, S⟩
          · have p13 := h13; try simp only [decide_eq_true_eq, decide_eq_false_iff_not, Bool.and_eq_true, Bool.or_eq_true, Bool.not_eq_true', Bool.or_eq_false_iff, Bool.not_eq_false', Int.not_lt, Int.not_le, gt_iff_lt, ge_iff_le, Decidable.not_not] at p13
            refine ops_skip 107 rfl rfl rfl ?_
            refine ops_skip 108 rfl rfl rfl ?_
            refine ops_skip 109 rfl rfl rfl ?_
            refine ops_skip 110 rfl rfl rfl ?_
            refine ops_skip 111 rfl rfl rfl ?_
            refine ops_val 112 (.bool false) rfl rfl rfl rfl (run_pv rfl) ?_
            refine ops_val 113 (.bool false) rfl rfl rfl rfl (run_pv rfl) ?_
            refine ops_skip 114 rfl rfl rfl ?_
            refine ops_skip 115 rfl rfl rfl ?_
            refine ops_skip 116 rfl rfl rfl ?_
            refine ops_skip 117 rfl rfl rfl ?_
            refine ops_skip 118 rfl rfl rfl ?_
            refine ops_val 119 (.bool false) rfl rfl rfl rfl (run_pv rfl) ?_
            refine ops_val 120 (.bool false) rfl rfl rfl rfl (run_pv rfl) ?_
            refine ops_skip 121 rfl rfl rfl ?_
            refine ops_skip 122 rfl rfl rfl ?_
            refine ops_skip 123 rfl rfl rfl ?_
            refine ops_skip 124 rfl rfl rfl ?_
            refine ops_skip 125 rfl rfl rfl ?_
            refine ops_val 126 (.bool false) rfl rfl rfl rfl (run_pv rfl) ?_
            refine ops_val 127 (.bool false) rfl rfl rfl rfl (run_pv rfl) ?_
            refine ops_skip 128 rfl rfl rfl ?_
            refine ops_skip 129 rfl rfl rfl ?_
            refine ops_skip 130 rfl rfl rfl ?_
            refine ops_skip 131 rfl rfl rfl ?_
            refine ops_skip 132 rfl rfl rfl ?_
            refine ops_val 133 (.bool false) rfl rfl rfl rfl (run_pv rfl) ?_
            refine ops_val 134 (.bool false) rfl rfl rfl rfl (run_pv rfl) ?_
            refine ops_skip 135 rfl rfl rfl ?_
            refine ops_skip 136 rfl rfl rfl ?_
            refine ops_skip 137 rfl rfl rfl ?_
            refine ops_skip 138 rfl rfl rfl ?_
            refine ops_skip 139 rfl rfl rfl ?_
            refine ops_val 140 (.bool false) rfl rfl rfl rfl (run_pv rfl) ?_
            refine ops_val 141 (.bool false) rfl rfl rfl rfl (run_pv rfl) ?_
            refine ops_skip 142 rfl rfl rfl ?_
            refine ops_skip 143 rfl rfl rfl ?_
            refine ops_skip 144 rfl rfl rfl ?_
            refine ops_skip 145 rfl rfl rfl ?_
            refine ops_skip 146 rfl rfl rfl ?_
            refine ops_val 147 (.bool false) rfl rfl rfl rfl (run_pv rfl) ?_
            refine ops_val 148 (.bool false) rfl rfl rfl rfl (run_pv rfl) ?_
            refine ops_skip 149 rfl rfl rfl ?_
            refine ops_skip 150 rfl rfl rfl ?_
            refine ops_skip 151 rfl rfl rfl ?_
            refine ops_skip 152 rfl rfl rfl ?_
            refine ops_skip 153 rfl rfl rfl ?_
            refine ops_val 154 (.bool false) rfl rfl rfl rfl (run_pv rfl) ?_
            refine ops_val 155 (.bool false) rfl rfl rfl rfl (run_pv rfl) ?_
            refine ops_skip 156 rfl rfl rfl ?_
            refine ops_skip 157 rfl rfl rfl ?_
            refine ops_skip 158 rfl rfl rfl ?_
            refine ops_skip 159 rfl rfl rfl ?_
            refine ops_skip 160 rfl rfl rfl ?_
            refine ops_val 161 (.bool false) rfl rfl rfl rfl (run_pv rfl) ?_
            refine ops_val 0 (.bool false) rfl rfl rfl rfl (run_pv rfl) ?_
            refine ops_nil ?_
            refine nrm_then ?_
            exact ⟨⟨congrArg Value.bool (by simp only [h4, k7, k8, k9, k10, k11, k12, k13, k14, k15, k16, h13, Bool.true_and, Bool.false_and, Bool.and_true, Bool.and_false, Bool.true_or, Bool.false_or, Bool.or_true, Bool.or_false, Bool.not_true, Bool.not_false]), trivial⟩, rfl, S⟩
        · clear S; intro ρ0 w14 S
          refine nrm_then ?_
          refine w_ret ?_
          refine fin1 (v := .bool (((((((((((((((((!(atOf sampleL ([97, 114, 101, 97]) 12 4).2) && (atOf sampleL ([97, 114, 101, 97]) 12 5).2) && (decide ((atOf sampleL ([97, 114, 101, 97]) 12 5).1 = 100))) && (atOf sampleL ([97, 114, 101, 97]) 12 8).2) && (decide ((atOf sampleL ([97, 114, 101, 97]) 12 8).1 = 90))) && (decide ((putOf sampleL ({ key := [97], value := 0, from_ := 0, until_ := 0, known := 11 } : Fact)).2 = 20))) && (decide ((putOf sampleL ({ key := [97], value := 0, from_ := 0, until_ := 0, known := 12 } : Fact)).2 = 0))) && (rightB sampleL)) && (decide (((keysOf sampleL).getD 0 []) = [97, 114, 101, 97]))) && (decide (((corOf sampleL ([97, 114, 101, 97]) 8 12).getD 0 default) = ({ from_ := 15, to := 1073741824 } : Stay)))) && (decide (((corOf sampleL ([97, 114, 101, 97]) 4 8).getD 0 default) = ({ from_ := 0, to := 1073741824 } : Stay)))) && (decide (((histOf sampleL ([97, 114, 101, 97]) 12).getD 0 default).until_ = 10))) && (decide (((histOf sampleL ([97, 114, 101, 97]) 12).getD 1 default).from_ = 10))) && (decide (((histOf sampleL ([97, 114, 101, 97]) 12).getD 1 default).until_ = 15))) && (decide (((histOf sampleL ([97, 114, 101, 97]) 12).getD 2 default).from_ = 15))) && (decide (((histOf sampleL ([97, 114, 101, 97]) 12).getD 2 default).until_ = 0))) && (decide (((histOf sampleL ([97, 114, 101, 97]) 12).getD 2 default).value = 95)))) rfl S rfl ?_
          exact congrArg Value.bool (by rw [smHist, smCor1, smCor2, smKeys, smAt4, smAt5, smAt8, smPut1, smPut2, smRight]; kernel_rfl)
end
