/- walks of the laws -/
import Derived.Test.YtnnieebmbepjpaaG
import Derived.Test.YtnnieebmbepjpaaP
set_option linter.all false
namespace Go.Proofs.Ytnnieebmbepjpaa
open Go Go.Eng
section

theorem keeps_is (vbase : Value) (base : List Fact) (f : Fact) (key : List UInt8) (day : Int) (known : Int) (w : World) (hbase : Rd w encFact 5 vbase base) : FnIs Try.prog 4 [vbase, aggFact f, str key, i64 day, i64 known] w (.bool true) := by
  refine fn_of_wp (N := 105) Try.func4 rfl rfl rfl ?_
  intro S
  have hlen := hbase.len
  refine w_seq ?_
  refine w_region ?_
  refine ops_box [str f.key, i64 f.value, i64 f.from_, i64 f.until_, i64 f.known] S rfl rfl rfl ?_
  clear S; intro b1 w1 S
  refine ops_val 10 (.bool false) rfl rfl rfl rfl (run_pv rfl) ?_
  refine ops_nil ?_
  refine nrm_then ?_
  refine w_seq ?_
  refine w_region ?_
  refine ops_callIs [] (.bool true) S rfl rfl hb7 rfl (small_is  _  ) ?_
  clear S; intro w2 S
  refine ops_val 11 (.bool true) rfl rfl rfl rfl (run_pv rfl) ?_
  refine ops_nil ?_
  refine nrm_then ?_
  refine w_seq ?_
  refine w_seq ?_
  refine w_region ?_
  refine ops_val 19 (vbase) rfl rfl rfl rfl (run_pv rfl) ?_
  refine ops_callIs [vbase] (.bool (fewB base)) S rfl rfl hb8 rfl (few_is vbase base _ (St.rd S hbase) ) ?_
  clear S; intro w3 S
  refine ops_val 21 (.bool (!(fewB base))) rfl rfl rfl rfl (run_pv rfl) ?_
  refine ops_nil ?_
  refine nrm_then ?_
  refine w_cond (!(fewB base)) rfl (fun h1 => ?_) (fun h1 => ?_)
  · have p1 := h1; try simp only [decide_eq_true_eq, decide_eq_false_iff_not, Bool.and_eq_true, Bool.or_eq_true, Bool.not_eq_true', Bool.or_eq_false_iff, Bool.not_eq_false', Int.not_lt, Int.not_le, gt_iff_lt, ge_iff_le, Decidable.not_not] at p1
    have k1 : (fewB base) = false := (by simpa only [Bool.not_eq_true', Bool.not_eq_false'] using h1)
    have pk1 := k1; try simp only [decide_eq_true_eq, decide_eq_false_iff_not, Bool.and_eq_true, Bool.or_eq_true, Bool.not_eq_true', Bool.or_eq_false_iff, Bool.not_eq_false', Int.not_lt, Int.not_le, gt_iff_lt, ge_iff_le, Decidable.not_not] at pk1
    refine w_seq ?_
    refine w_region ?_
    refine ops_val 22 (.bool true) rfl rfl rfl rfl (run_pv rfl) ?_
    refine ops_val 10 (.bool true) rfl rfl rfl rfl (run_pv rfl) ?_
    refine ops_nil ?_
    refine nrm_then ?_
    refine w_ret ?_
    refine ret_then ?_
    refine fin1 (v := .bool true) rfl S rfl ?_
    rfl
  · have p1 := h1; try simp only [decide_eq_true_eq, decide_eq_false_iff_not, Bool.and_eq_true, Bool.or_eq_true, Bool.not_eq_true', Bool.or_eq_false_iff, Bool.not_eq_false', Int.not_lt, Int.not_le, gt_iff_lt, ge_iff_le, Decidable.not_not] at p1
    have k2 : (fewB base) = true := (by simpa only [Bool.not_eq_true', Bool.not_eq_false'] using h1)
    have pk2 := k2; try simp only [decide_eq_true_eq, decide_eq_false_iff_not, Bool.and_eq_true, Bool.or_eq_true, Bool.not_eq_true', Bool.or_eq_false_iff, Bool.not_eq_false', Int.not_lt, Int.not_le, gt_iff_lt, ge_iff_le, Decidable.not_not] at pk2
    have hfw := few_len base (by simpa using h1)
    refine w_skip ?_
    refine nrm_then ?_
    refine w_seq ?_
    refine w_region ?_
    refine ops_val 24 (vbase) rfl rfl rfl rfl (run_pv rfl) ?_
    refine ops_val 25 (aggFact f) rfl rfl rfl rfl (run_load_agg [str f.key, i64 f.value, i64 f.from_, i64 f.until_, i64 f.known] ag24 rfl rfl (blk_each S (n := 0) rfl 0 rfl)) ?_
    refine ops_callRow2 [vbase, aggFact f] S rfl rfl hb9 rfl (put_is vbase base f _ (St.rd S hbase) ) ?_
    clear S; intro v1 w4 S
    replace S : Eng.St w [.row 24 5 v1 (((putOf base f).1).map encFact), .blk b1 [str f.key, i64 f.value, i64 f.from_, i64 f.until_, i64 f.known] 24] w4 := S
    refine ops_val 23 (.tuple #[v1, i64 ((putOf base f).2)]) rfl rfl rfl rfl (run_pv rfl) ?_
    refine ops_val 27 (v1) rfl rfl rfl rfl (run_pv rfl) ?_
    refine ops_val 28 (i64 ((putOf base f).2)) rfl rfl rfl rfl (run_pv rfl) ?_
    refine ops_val 12 (v1) rfl rfl rfl rfl (run_pv rfl) ?_
    refine ops_val 13 (i64 ((putOf base f).2)) rfl rfl rfl rfl (run_pv rfl) ?_
    refine ops_nil ?_
    refine nrm_then ?_
    refine w_seq ?_
    refine w_seq ?_
    refine w_region ?_
    refine ops_val 29 (i64 ((putOf base f).2)) rfl rfl rfl rfl (run_pv rfl) ?_
    refine ops_val 30 (.bool (!decide ((putOf base f).2 = 0))) rfl rfl rfl rfl (run_pv rfl) ?_
    refine ops_nil ?_
    refine nrm_then ?_
    refine w_cond (!decide ((putOf base f).2 = 0)) rfl (fun h2 => ?_) (fun h2 => ?_)
    · have p2 := h2; try simp only [decide_eq_true_eq, decide_eq_false_iff_not, Bool.and_eq_true, Bool.or_eq_true, Bool.not_eq_true', Bool.or_eq_false_iff, Bool.not_eq_false', Int.not_lt, Int.not_le, gt_iff_lt, ge_iff_le, Decidable.not_not] at p2
      have k3 : (decide ((putOf base f).2 = 0)) = false := (by simpa only [Bool.not_eq_true', Bool.not_eq_false'] using h2)
      have pk3 := k3; try simp only [decide_eq_true_eq, decide_eq_false_iff_not, Bool.and_eq_true, Bool.or_eq_true, Bool.not_eq_true', Bool.or_eq_false_iff, Bool.not_eq_false', Int.not_lt, Int.not_le, gt_iff_lt, ge_iff_le, Decidable.not_not] at pk3
      refine w_seq ?_
      refine w_cut [(10, .bool (decide ((((putOf base f).1).length : Int) = 0)))] (fun w' => Eng.St w [.row 24 5 v1 (((putOf base f).1).map encFact), .blk b1 [str f.key, i64 f.value, i64 f.from_, i64 f.until_, i64 f.known] 24] w') ?_ ?_
      · refine w_region ?_
        refine ops_val 31 (.bool true) rfl rfl rfl rfl (run_pv rfl) ?_
        refine ops_val 32 (.bool true) rfl rfl rfl rfl (run_pv rfl) ?_
        refine ops_val 33 (v1) rfl rfl rfl rfl (run_pv rfl) ?_
        refine ops_val 34 (i64 (((putOf base f).1).length : Int)) rfl rfl rfl rfl (run_len_rd Try.underlying22 (St.rdRow (n := 0) S rfl) rfl) ?_
        refine ops_val 35 (.bool (decide ((((putOf base f).1).length : Int) = 0))) rfl rfl rfl rfl (run_pv rfl) ?_
        refine ops_val 36 (.bool (decide ((((putOf base f).1).length : Int) = 0))) rfl rfl rfl rfl (run_pv rfl) ?_
        refine ops_val 10 (.bool (decide ((((putOf base f).1).length : Int) = 0))) rfl rfl rfl rfl (run_pv rfl) ?_
        refine ops_nil ?_
        refine nrm_then ?_
        exact ⟨⟨rfl, trivial⟩, rfl, S⟩
      · clear S; intro ρ0 w5 S
        refine nrm_then ?_
        refine w_ret ?_
        refine ret_then ?_
        refine fin1 (v := .bool (decide ((((putOf base f).1).length : Int) = 0))) rfl S rfl ?_
        exact congrArg Value.bool (put_not base f (by assumption))
    · have p2 := h2; try simp only [decide_eq_true_eq, decide_eq_false_iff_not, Bool.and_eq_true, Bool.or_eq_true, Bool.not_eq_true', Bool.or_eq_false_iff, Bool.not_eq_false', Int.not_lt, Int.not_le, gt_iff_lt, ge_iff_le, Decidable.not_not] at p2
      have k4 : (decide ((putOf base f).2 = 0)) = true := (by simpa only [Bool.not_eq_true', Bool.not_eq_false'] using h2)
      have pk4 := k4; try simp only [decide_eq_true_eq, decide_eq_false_iff_not, Bool.and_eq_true, Bool.or_eq_true, Bool.not_eq_true', Bool.or_eq_false_iff, Bool.not_eq_false', Int.not_lt, Int.not_le, gt_iff_lt, ge_iff_le, Decidable.not_not] at pk4
      refine w_skip ?_
      refine nrm_then ?_
      refine w_seq ?_
      refine w_region ?_
      refine ops_val 38 (vbase) rfl rfl rfl rfl (run_pv rfl) ?_
      refine ops_val 39 (str key) rfl rfl rfl rfl (run_pv rfl) ?_
      refine ops_val 40 (i64 day) rfl rfl rfl rfl (run_pv rfl) ?_
      refine ops_val 41 (i64 known) rfl rfl rfl rfl (run_pv rfl) ?_
      refine ops_callIs [vbase, str key, i64 day, i64 known] (.tuple #[i64 ((atOf base key day known).1), .bool ((atOf base key day known).2)]) S rfl rfl hb11 rfl (at_is vbase base key day known _ (St.rd S hbase) ) ?_
      clear S; intro w6 S
      refine ops_val 37 (.tuple #[i64 ((atOf base key day known).1), .bool ((atOf base key day known).2)]) rfl rfl rfl rfl (run_pv rfl) ?_
      refine ops_val 43 (i64 ((atOf base key day known).1)) rfl rfl rfl rfl (run_pv rfl) ?_
      refine ops_val 44 (.bool ((atOf base key day known).2)) rfl rfl rfl rfl (run_pv rfl) ?_
      refine ops_val 14 (i64 ((atOf base key day known).1)) rfl rfl rfl rfl (run_pv rfl) ?_
      refine ops_val 15 (.bool ((atOf base key day known).2)) rfl rfl rfl rfl (run_pv rfl) ?_
      refine ops_nil ?_
      refine nrm_then ?_
      refine w_seq ?_
      refine w_region ?_
      refine ops_val 46 (v1) rfl rfl rfl rfl (run_pv rfl) ?_
      refine ops_val 47 (str key) rfl rfl rfl rfl (run_pv rfl) ?_
      refine ops_val 48 (i64 day) rfl rfl rfl rfl (run_pv rfl) ?_
      refine ops_val 49 (i64 known) rfl rfl rfl rfl (run_pv rfl) ?_
      refine ops_callIs [v1, str key, i64 day, i64 known] (.tuple #[i64 ((atOf ((putOf base f).1) key day known).1), .bool ((atOf ((putOf base f).1) key day known).2)]) S rfl rfl hb11 rfl (at_is v1 ((putOf base f).1) key day known _ (St.rdRow (n := 0) S rfl) ) ?_
      clear S; intro w7 S
      refine ops_val 45 (.tuple #[i64 ((atOf ((putOf base f).1) key day known).1), .bool ((atOf ((putOf base f).1) key day known).2)]) rfl rfl rfl rfl (run_pv rfl) ?_
      refine ops_val 51 (i64 ((atOf ((putOf base f).1) key day known).1)) rfl rfl rfl rfl (run_pv rfl) ?_
      refine ops_val 52 (.bool ((atOf ((putOf base f).1) key day known).2)) rfl rfl rfl rfl (run_pv rfl) ?_
      refine ops_val 16 (i64 ((atOf ((putOf base f).1) key day known).1)) rfl rfl rfl rfl (run_pv rfl) ?_
      refine ops_val 17 (.bool ((atOf ((putOf base f).1) key day known).2)) rfl rfl rfl rfl (run_pv rfl) ?_
      refine ops_nil ?_
      refine nrm_then ?_
      refine w_seq ?_
      refine w_seq ?_
      refine w_cut [(0, vbase), (6, .pointer (some ⟨b1, 0, none⟩)), (11, .bool true), (12, v1), (14, i64 ((atOf base key day known).1)), (15, .bool ((atOf base key day known).2)), (16, i64 ((atOf ((putOf base f).1) key day known).1)), (17, .bool ((atOf ((putOf base f).1) key day known).2)), (71, .bool ((((decide (key = f.key)) && (decide (known ≥ f.known))) && (decide (day ≥ 0))) && (hasB f day)))] (fun w' => Eng.St w [.row 24 5 v1 (((putOf base f).1).map encFact), .blk b1 [str f.key, i64 f.value, i64 f.from_, i64 f.until_, i64 f.known] 24] w') ?_ ?_
      · refine w_region ?_
        refine ops_val 53 (str key) rfl rfl rfl rfl (run_pv rfl) ?_
        refine ops_val 54 (.pointer (some ⟨b1, 0, none⟩)) rfl rfl rfl rfl (run_fieldAddr_blk fd24_0 rfl rfl) ?_
        refine ops_val 55 (str f.key) rfl rfl rfl rfl (run_load_scal sc9 rfl (St.cell S (n := 1) rfl rfl)) ?_
        refine ops_val 56 (.bool (decide (key = f.key))) rfl rfl rfl rfl (run_pv rfl) ?_
        refine ops_val 57 (.bool (decide (key = f.key))) rfl rfl rfl rfl (run_pv rfl) ?_
        refine ops_case 57 (decide (key = f.key)) rfl (fun h3 => ?_) (fun h3 => ?_)
        · have p3 := h3; try simp only [decide_eq_true_eq, decide_eq_false_iff_not, Bool.and_eq_true, Bool.or_eq_true, Bool.not_eq_true', Bool.or_eq_false_iff, Bool.not_eq_false', Int.not_lt, Int.not_le, gt_iff_lt, ge_iff_le, Decidable.not_not] at p3
          refine ops_val 58 (i64 known) rfl rfl rfl rfl (run_pv rfl) ?_
          refine ops_val 59 (.pointer (some ⟨b1, 4, none⟩)) rfl rfl rfl rfl (run_fieldAddr_blk fd24_4 rfl rfl) ?_
          refine ops_val 60 (i64 f.known) rfl rfl rfl rfl (run_load_scal sc3 rfl (St.cell S (n := 1) rfl rfl)) ?_
          refine ops_val 61 (.bool (decide (known ≥ f.known))) rfl rfl rfl rfl (run_pv rfl) ?_
          refine ops_val 62 (.bool (decide (known ≥ f.known))) rfl rfl rfl rfl (run_pv rfl) ?_
          refine ops_val 63 (.bool (decide (known ≥ f.known))) rfl rfl rfl rfl (run_pv rfl) ?_
          refine ops_case 63 (decide (known ≥ f.known)) rfl (fun h4 => ?_) (fun h4 => ?_)
          · have p4 := h4; try simp only [decide_eq_true_eq, decide_eq_false_iff_not, Bool.and_eq_true, Bool.or_eq_true, Bool.not_eq_true', Bool.or_eq_false_iff, Bool.not_eq_false', Int.not_lt, Int.not_le, gt_iff_lt, ge_iff_le, Decidable.not_not] at p4
            refine ops_val 64 (i64 day) rfl rfl rfl rfl (run_pv rfl) ?_
            refine ops_val 65 (.bool (decide (day ≥ 0))) rfl rfl rfl rfl (run_pv rfl) ?_
            refine ops_val 66 (.bool (decide (day ≥ 0))) rfl rfl rfl rfl (run_pv rfl) ?_
            refine ops_val 67 (.bool (decide (day ≥ 0))) rfl rfl rfl rfl (run_pv rfl) ?_
            refine ops_case 67 (decide (day ≥ 0)) rfl (fun h5 => ?_) (fun h5 => ?_)
            · have p5 := h5; try simp only [decide_eq_true_eq, decide_eq_false_iff_not, Bool.and_eq_true, Bool.or_eq_true, Bool.not_eq_true', Bool.or_eq_false_iff, Bool.not_eq_false', Int.not_lt, Int.not_le, gt_iff_lt, ge_iff_le, Decidable.not_not] at p5
              refine ops_val 68 (aggFact f) rfl rfl rfl rfl (run_load_agg [str f.key, i64 f.value, i64 f.from_, i64 f.until_, i64 f.known] ag24 rfl rfl (blk_each S (n := 1) rfl 0 rfl)) ?_
              refine ops_val 69 (i64 day) rfl rfl rfl rfl (run_pv rfl) ?_
              refine ops_callIs [aggFact f, i64 day] (.bool (hasB f day)) S rfl rfl hb23 rfl (has_is f day _  ) ?_
              clear S; intro w8 S
              refine ops_val 71 (.bool (hasB f day)) rfl rfl rfl rfl (run_pv rfl) ?_
              refine ops_nil ?_
              refine nrm_then ?_
              exact ⟨⟨rfl, rfl, rfl, rfl, rfl, rfl, rfl, rfl, congrArg Value.bool (by simp only [h1, k2, h2, k4, h3, h4, h5, Bool.true_and, Bool.false_and, Bool.and_true, Bool.and_false, Bool.true_or, Bool.false_or, Bool.or_true, Bool.or_false, Bool.not_true, Bool.not_false]), trivial⟩, rfl, S⟩
            · have p5 := h5; try simp only [decide_eq_true_eq, decide_eq_false_iff_not, Bool.and_eq_true, Bool.or_eq_true, Bool.not_eq_true', Bool.or_eq_false_iff, Bool.not_eq_false', Int.not_lt, Int.not_le, gt_iff_lt, ge_iff_le, Decidable.not_not] at p5
              refine ops_skip 68 rfl rfl rfl ?_
              refine ops_skip 69 rfl rfl rfl ?_
              refine ops_skip 70 rfl rfl rfl ?_
              refine ops_val 71 (.bool false) rfl rfl rfl rfl (run_pv rfl) ?_
              refine ops_nil ?_
              refine nrm_then ?_
              exact ⟨⟨rfl, rfl, rfl, rfl, rfl, rfl, rfl, rfl, congrArg Value.bool (by simp only [h1, k2, h2, k4, h3, h4, h5, Bool.true_and, Bool.false_and, Bool.and_true, Bool.and_false, Bool.true_or, Bool.false_or, Bool.or_true, Bool.or_false, Bool.not_true, Bool.not_false]), trivial⟩, rfl, S⟩
          · have p4 := h4; try simp only [decide_eq_true_eq, decide_eq_false_iff_not, Bool.and_eq_true, Bool.or_eq_true, Bool.not_eq_true', Bool.or_eq_false_iff, Bool.not_eq_false', Int.not_lt, Int.not_le, gt_iff_lt, ge_iff_le, Decidable.not_not] at p4
            refine ops_skip 64 rfl rfl rfl ?_
            refine ops_skip 65 rfl rfl rfl ?_
            refine ops_val 66 (.bool false) rfl rfl rfl rfl (run_pv rfl) ?_
            refine ops_val 67 (.bool false) rfl rfl rfl rfl (run_pv rfl) ?_
            refine ops_skip 68 rfl rfl rfl ?_
            refine ops_skip 69 rfl rfl rfl ?_
            refine ops_skip 70 rfl rfl rfl ?_
            refine ops_val 71 (.bool false) rfl rfl rfl rfl (run_pv rfl) ?_
            refine ops_nil ?_
            refine nrm_then ?_
            exact ⟨⟨rfl, rfl, rfl, rfl, rfl, rfl, rfl, rfl, congrArg Value.bool (by simp only [h1, k2, h2, k4, h3, h4, Bool.true_and, Bool.false_and, Bool.and_true, Bool.and_false, Bool.true_or, Bool.false_or, Bool.or_true, Bool.or_false, Bool.not_true, Bool.not_false]), trivial⟩, rfl, S⟩
        · have p3 := h3; try simp only [decide_eq_true_eq, decide_eq_false_iff_not, Bool.and_eq_true, Bool.or_eq_true, Bool.not_eq_true', Bool.or_eq_false_iff, Bool.not_eq_false', Int.not_lt, Int.not_le, gt_iff_lt, ge_iff_le, Decidable.not_not] at p3
          refine ops_skip 58 rfl rfl rfl ?_
          refine ops_skip 59 rfl rfl rfl ?_
          refine ops_skip 60 rfl rfl rfl ?_
          refine ops_skip 61 rfl rfl rfl ?_
          refine ops_val 62 (.bool false) rfl rfl rfl rfl (run_pv rfl) ?_
          refine ops_val 63 (.bool false) rfl rfl rfl rfl (run_pv rfl) ?_
          refine ops_skip 64 rfl rfl rfl ?_
          refine ops_skip 65 rfl rfl rfl ?_
          refine ops_val 66 (.bool false) rfl rfl rfl rfl (run_pv rfl) ?_
          refine ops_val 67 (.bool false) rfl rfl rfl rfl (run_pv rfl) ?_
          refine ops_skip 68 rfl rfl rfl ?_
          refine ops_skip 69 rfl rfl rfl ?_
          refine ops_skip 70 rfl rfl rfl ?_
          refine ops_val 71 (.bool false) rfl rfl rfl rfl (run_pv rfl) ?_
          refine ops_nil ?_
          refine nrm_then ?_
          exact ⟨⟨rfl, rfl, rfl, rfl, rfl, rfl, rfl, rfl, congrArg Value.bool (by simp only [h1, k2, h2, k4, h3, Bool.true_and, Bool.false_and, Bool.and_true, Bool.and_false, Bool.true_or, Bool.false_or, Bool.or_true, Bool.or_false, Bool.not_true, Bool.not_false]), trivial⟩, rfl, S⟩
      · clear S; intro ρ0 w9 S
        refine nrm_then ?_
        refine w_cond ((((decide (key = f.key)) && (decide (known ≥ f.known))) && (decide (day ≥ 0))) && (hasB f day)) rfl (fun h6 => ?_) (fun h6 => ?_)
        · have p6 := h6; try simp only [decide_eq_true_eq, decide_eq_false_iff_not, Bool.and_eq_true, Bool.or_eq_true, Bool.not_eq_true', Bool.or_eq_false_iff, Bool.not_eq_false', Int.not_lt, Int.not_le, gt_iff_lt, ge_iff_le, Decidable.not_not] at p6
          have k5 : (((decide (key = f.key)) && (decide (known ≥ f.known))) && (decide (day ≥ 0))) = true := (Bool.and_eq_true_iff.1 h6).1
          have pk5 := k5; try simp only [decide_eq_true_eq, decide_eq_false_iff_not, Bool.and_eq_true, Bool.or_eq_true, Bool.not_eq_true', Bool.or_eq_false_iff, Bool.not_eq_false', Int.not_lt, Int.not_le, gt_iff_lt, ge_iff_le, Decidable.not_not] at pk5
          have k6 : (hasB f day) = true := (Bool.and_eq_true_iff.1 h6).2
          have pk6 := k6; try simp only [decide_eq_true_eq, decide_eq_false_iff_not, Bool.and_eq_true, Bool.or_eq_true, Bool.not_eq_true', Bool.or_eq_false_iff, Bool.not_eq_false', Int.not_lt, Int.not_le, gt_iff_lt, ge_iff_le, Decidable.not_not] at pk6
          have k7 : ((decide (key = f.key)) && (decide (known ≥ f.known))) = true := (Bool.and_eq_true_iff.1 k5).1
          have pk7 := k7; try simp only [decide_eq_true_eq, decide_eq_false_iff_not, Bool.and_eq_true, Bool.or_eq_true, Bool.not_eq_true', Bool.or_eq_false_iff, Bool.not_eq_false', Int.not_lt, Int.not_le, gt_iff_lt, ge_iff_le, Decidable.not_not] at pk7
          have k8 : (decide (day ≥ 0)) = true := (Bool.and_eq_true_iff.1 k5).2
          have pk8 := k8; try simp only [decide_eq_true_eq, decide_eq_false_iff_not, Bool.and_eq_true, Bool.or_eq_true, Bool.not_eq_true', Bool.or_eq_false_iff, Bool.not_eq_false', Int.not_lt, Int.not_le, gt_iff_lt, ge_iff_le, Decidable.not_not] at pk8
          have k9 : (decide (key = f.key)) = true := (Bool.and_eq_true_iff.1 k7).1
          have pk9 := k9; try simp only [decide_eq_true_eq, decide_eq_false_iff_not, Bool.and_eq_true, Bool.or_eq_true, Bool.not_eq_true', Bool.or_eq_false_iff, Bool.not_eq_false', Int.not_lt, Int.not_le, gt_iff_lt, ge_iff_le, Decidable.not_not] at pk9
          have k10 : (decide (known ≥ f.known)) = true := (Bool.and_eq_true_iff.1 k7).2
          have pk10 := k10; try simp only [decide_eq_true_eq, decide_eq_false_iff_not, Bool.and_eq_true, Bool.or_eq_true, Bool.not_eq_true', Bool.or_eq_false_iff, Bool.not_eq_false', Int.not_lt, Int.not_le, gt_iff_lt, ge_iff_le, Decidable.not_not] at pk10
          refine w_seq ?_
          refine w_cut [(10, .bool ((atOf ((putOf base f).1) key day known).2 && (decide ((atOf ((putOf base f).1) key day known).1 = f.value))))] (fun w' => Eng.St w [.row 24 5 v1 (((putOf base f).1).map encFact), .blk b1 [str f.key, i64 f.value, i64 f.from_, i64 f.until_, i64 f.known] 24] w') ?_ ?_
          · refine w_region ?_
            refine ops_val 72 (.bool true) rfl rfl rfl rfl (run_pv rfl) ?_
            refine ops_val 73 (.bool true) rfl rfl rfl rfl (run_pv rfl) ?_
            refine ops_val 74 (.bool ((atOf ((putOf base f).1) key day known).2)) rfl rfl rfl rfl (run_pv rfl) ?_
            refine ops_val 75 (.bool ((atOf ((putOf base f).1) key day known).2)) rfl rfl rfl rfl (run_pv rfl) ?_
            refine ops_val 76 (.bool ((atOf ((putOf base f).1) key day known).2)) rfl rfl rfl rfl (run_pv rfl) ?_
            refine ops_case 76 ((atOf ((putOf base f).1) key day known).2) rfl (fun h7 => ?_) (fun h7 => ?_)
            · have p7 := h7; try simp only [decide_eq_true_eq, decide_eq_false_iff_not, Bool.and_eq_true, Bool.or_eq_true, Bool.not_eq_true', Bool.or_eq_false_iff, Bool.not_eq_false', Int.not_lt, Int.not_le, gt_iff_lt, ge_iff_le, Decidable.not_not] at p7
              refine ops_val 77 (i64 ((atOf ((putOf base f).1) key day known).1)) rfl rfl rfl rfl (run_pv rfl) ?_
              refine ops_val 78 (.pointer (some ⟨b1, 1, none⟩)) rfl rfl rfl rfl (run_fieldAddr_blk fd24_1 rfl rfl) ?_
              refine ops_val 79 (i64 f.value) rfl rfl rfl rfl (run_load_scal sc3 rfl (St.cell S (n := 1) rfl rfl)) ?_
              refine ops_val 80 (.bool (decide ((atOf ((putOf base f).1) key day known).1 = f.value))) rfl rfl rfl rfl (run_pv rfl) ?_
              refine ops_val 81 (.bool (decide ((atOf ((putOf base f).1) key day known).1 = f.value))) rfl rfl rfl rfl (run_pv rfl) ?_
              refine ops_val 10 (.bool (decide ((atOf ((putOf base f).1) key day known).1 = f.value))) rfl rfl rfl rfl (run_pv rfl) ?_
              refine ops_nil ?_
              refine nrm_then ?_
              exact ⟨⟨congrArg Value.bool (by simp only [h1, k2, h2, k4, h6, k5, k6, k7, k8, k9, k10, h7, Bool.true_and, Bool.false_and, Bool.and_true, Bool.and_false, Bool.true_or, Bool.false_or, Bool.or_true, Bool.or_false, Bool.not_true, Bool.not_false]), trivial⟩, rfl, S⟩
            · have p7 := h7; try simp only [decide_eq_true_eq, decide_eq_false_iff_not, Bool.and_eq_true, Bool.or_eq_true, Bool.not_eq_true', Bool.or_eq_false_iff, Bool.not_eq_false', Int.not_lt, Int.not_le, gt_iff_lt, ge_iff_le, Decidable.not_not] at p7
              refine ops_skip 77 rfl rfl rfl ?_
              refine ops_skip 78 rfl rfl rfl ?_
              refine ops_skip 79 rfl rfl rfl ?_
              refine ops_skip 80 rfl rfl rfl ?_
              refine ops_val 81 (.bool false) rfl rfl rfl rfl (run_pv rfl) ?_
              refine ops_val 10 (.bool false) rfl rfl rfl rfl (run_pv rfl) ?_
              refine ops_nil ?_
              refine nrm_then ?_
              exact ⟨⟨congrArg Value.bool (by simp only [h1, k2, h2, k4, h6, k5, k6, k7, k8, k9, k10, h7, Bool.true_and, Bool.false_and, Bool.and_true, Bool.and_false, Bool.true_or, Bool.false_or, Bool.or_true, Bool.or_false, Bool.not_true, Bool.not_false]), trivial⟩, rfl, S⟩
          · clear S; intro ρ0 w10 S
            refine nrm_then ?_
            refine w_ret ?_
            refine ret_then ?_
            refine fin1 (v := .bool ((atOf ((putOf base f).1) key day known).2 && (decide ((atOf ((putOf base f).1) key day known).1 = f.value)))) rfl S rfl ?_
            exact congrArg Value.bool (put_has base f key day known (by assumption) (by assumption))
        · have p6 := h6; try simp only [decide_eq_true_eq, decide_eq_false_iff_not, Bool.and_eq_true, Bool.or_eq_true, Bool.not_eq_true', Bool.or_eq_false_iff, Bool.not_eq_false', Int.not_lt, Int.not_le, gt_iff_lt, ge_iff_le, Decidable.not_not] at p6
          refine w_skip ?_
          refine nrm_then ?_
          refine w_seq ?_
          refine w_cut [(10, .bool ((((rightB ((putOf base f).1)) && (decide ((((putOf base f).1).length : Int) = ((base.length : Int) + 1)))) && (decide ((atOf base key day known).1 = (atOf ((putOf base f).1) key day known).1))) && ((atOf base key day known).2 == (atOf ((putOf base f).1) key day known).2)))] (fun w' => Eng.St w [.row 24 5 v1 (((putOf base f).1).map encFact), .blk b1 [str f.key, i64 f.value, i64 f.from_, i64 f.until_, i64 f.known] 24] w') ?_ ?_
          · refine w_region ?_
            refine ops_val 82 (.bool true) rfl rfl rfl rfl (run_pv rfl) ?_
            refine ops_val 83 (.bool true) rfl rfl rfl rfl (run_pv rfl) ?_
            refine ops_val 84 (v1) rfl rfl rfl rfl (run_pv rfl) ?_
            refine ops_callIs [v1] (.bool (rightB ((putOf base f).1))) S rfl rfl hb15 rfl (right_is v1 ((putOf base f).1) _ (St.rdRow (n := 0) S rfl) ) ?_
            clear S; intro w11 S
            refine ops_val 86 (.bool (rightB ((putOf base f).1))) rfl rfl rfl rfl (run_pv rfl) ?_
            refine ops_val 87 (.bool (rightB ((putOf base f).1))) rfl rfl rfl rfl (run_pv rfl) ?_
            refine ops_case 87 (rightB ((putOf base f).1)) rfl (fun h8 => ?_) (fun h8 => ?_)
            · have p8 := h8; try simp only [decide_eq_true_eq, decide_eq_false_iff_not, Bool.and_eq_true, Bool.or_eq_true, Bool.not_eq_true', Bool.or_eq_false_iff, Bool.not_eq_false', Int.not_lt, Int.not_le, gt_iff_lt, ge_iff_le, Decidable.not_not] at p8
              refine ops_val 88 (v1) rfl rfl rfl rfl (run_pv rfl) ?_
              refine ops_val 89 (i64 (((putOf base f).1).length : Int)) rfl rfl rfl rfl (run_len_rd Try.underlying22 (St.rdRow (n := 0) S rfl) rfl) ?_
              refine ops_val 90 (vbase) rfl rfl rfl rfl (run_pv rfl) ?_
              refine ops_val 91 (i64 (base.length : Int)) rfl rfl rfl rfl (run_len_rd Try.underlying22 (St.rd S hbase) rfl) ?_
              refine ops_val 92 (i64 ((base.length : Int) + 1)) rfl rfl rfl rfl (run_wr rfl (by omega) (by omega)) ?_
              refine ops_val 93 (.bool (decide ((((putOf base f).1).length : Int) = ((base.length : Int) + 1)))) rfl rfl rfl rfl (run_pv rfl) ?_
              refine ops_val 94 (.bool (decide ((((putOf base f).1).length : Int) = ((base.length : Int) + 1)))) rfl rfl rfl rfl (run_pv rfl) ?_
              refine ops_val 95 (.bool (decide ((((putOf base f).1).length : Int) = ((base.length : Int) + 1)))) rfl rfl rfl rfl (run_pv rfl) ?_
              refine ops_case 95 (decide ((((putOf base f).1).length : Int) = ((base.length : Int) + 1))) rfl (fun h9 => ?_) (fun h9 => ?_)
              · have p9 := h9; try simp only [decide_eq_true_eq, decide_eq_false_iff_not, Bool.and_eq_true, Bool.or_eq_true, Bool.not_eq_true', Bool.or_eq_false_iff, Bool.not_eq_false', Int.not_lt, Int.not_le, gt_iff_lt, ge_iff_le, Decidable.not_not] at p9
                refine ops_val 96 (i64 ((atOf base key day known).1)) rfl rfl rfl rfl (run_pv rfl) ?_
                refine ops_val 97 (i64 ((atOf ((putOf base f).1) key day known).1)) rfl rfl rfl rfl (run_pv rfl) ?_
                refine ops_val 98 (.bool (decide ((atOf base key day known).1 = (atOf ((putOf base f).1) key day known).1))) rfl rfl rfl rfl (run_pv rfl) ?_
                refine ops_val 99 (.bool (decide ((atOf base key day known).1 = (atOf ((putOf base f).1) key day known).1))) rfl rfl rfl rfl (run_pv rfl) ?_
                refine ops_val 100 (.bool (decide ((atOf base key day known).1 = (atOf ((putOf base f).1) key day known).1))) rfl rfl rfl rfl (run_pv rfl) ?_
                refine ops_case 100 (decide ((atOf base key day known).1 = (atOf ((putOf base f).1) key day known).1)) rfl (fun h10 => ?_) (fun h10 => ?_)
                · have p10 := h10; try simp only [decide_eq_true_eq, decide_eq_false_iff_not, Bool.and_eq_true, Bool.or_eq_true, Bool.not_eq_true', Bool.or_eq_false_iff, Bool.not_eq_false', Int.not_lt, Int.not_le, gt_iff_lt, ge_iff_le, Decidable.not_not] at p10
                  refine ops_val 101 (.bool ((atOf base key day known).2)) rfl rfl rfl rfl (run_pv rfl) ?_
                  refine ops_val 102 (.bool ((atOf ((putOf base f).1) key day known).2)) rfl rfl rfl rfl (run_pv rfl) ?_
                  refine ops_val 103 (.bool ((atOf base key day known).2 == (atOf ((putOf base f).1) key day known).2)) rfl rfl rfl rfl (run_eql_bool' Try.underlying4 rfl rfl) ?_
                  refine ops_val 104 (.bool ((atOf base key day known).2 == (atOf ((putOf base f).1) key day known).2)) rfl rfl rfl rfl (run_pv rfl) ?_
                  refine ops_val 10 (.bool ((atOf base key day known).2 == (atOf ((putOf base f).1) key day known).2)) rfl rfl rfl rfl (run_pv rfl) ?_
                  refine ops_nil ?_
                  refine nrm_then ?_
                  exact ⟨⟨congrArg Value.bool (by simp only [h1, k2, h2, k4, h6, h8, h9, h10, Bool.true_and, Bool.false_and, Bool.and_true, Bool.and_false, Bool.true_or, Bool.false_or, Bool.or_true, Bool.or_false, Bool.not_true, Bool.not_false]), trivial⟩, rfl, S⟩
                · have p10 := h10; try simp only [decide_eq_true_eq, decide_eq_false_iff_not, Bool.and_eq_true, Bool.or_eq_true, Bool.not_eq_true', Bool.or_eq_false_iff, Bool.not_eq_false', Int.not_lt, Int.not_le, gt_iff_lt, ge_iff_le, Decidable.not_not] at p10
                  refine ops_skip 101 rfl rfl rfl ?_
                  refine ops_skip 102 rfl rfl rfl ?_
                  refine ops_skip 103 rfl rfl rfl ?_
                  refine ops_val 104 (.bool false) rfl rfl rfl rfl (run_pv rfl) ?_
                  refine ops_val 10 (.bool false) rfl rfl rfl rfl (run_pv rfl) ?_
                  refine ops_nil ?_
                  refine nrm_then ?_
                  exact ⟨⟨congrArg Value.bool (by simp only [h1, k2, h2, k4, h6, h8, h9, h10, Bool.true_and, Bool.false_and, Bool.and_true, Bool.and_false, Bool.true_or, Bool.false_or, Bool.or_true, Bool.or_false, Bool.not_true, Bool.not_false]), trivial⟩, rfl, S⟩
              · have p9 := h9; try simp only [decide_eq_true_eq, decide_eq_false_iff_not, Bool.and_eq_true, Bool.or_eq_true, Bool.not_eq_true', Bool.or_eq_false_iff, Bool.not_eq_false', Int.not_lt, Int.not_le, gt_iff_lt, ge_iff_le, Decidable.not_not] at p9
                refine ops_skip 96 rfl rfl rfl ?_
                refine ops_skip 97 rfl rfl rfl ?_
                refine ops_skip 98 rfl rfl rfl ?_
                refine ops_val 99 (.bool false) rfl rfl rfl rfl (run_pv rfl) ?_
                refine ops_val 100 (.bool false) rfl rfl rfl rfl (run_pv rfl) ?_
                refine ops_skip 101 rfl rfl rfl ?_
                refine ops_skip 102 rfl rfl rfl ?_
                refine ops_skip 103 rfl rfl rfl ?_
                refine ops_val 104 (.bool false) rfl rfl rfl rfl (run_pv rfl) ?_
                refine ops_val 10 (.bool false) rfl rfl rfl rfl (run_pv rfl) ?_
                refine ops_nil ?_
                refine nrm_then ?_
                exact ⟨⟨congrArg Value.bool (by simp only [h1, k2, h2, k4, h6, h8, h9, Bool.true_and, Bool.false_and, Bool.and_true, Bool.and_false, Bool.true_or, Bool.false_or, Bool.or_true, Bool.or_false, Bool.not_true, Bool.not_false]), trivial⟩, rfl, S⟩
            · have p8 := h8; try simp only [decide_eq_true_eq, decide_eq_false_iff_not, Bool.and_eq_true, Bool.or_eq_true, Bool.not_eq_true', Bool.or_eq_false_iff, Bool.not_eq_false', Int.not_lt, Int.not_le, gt_iff_lt, ge_iff_le, Decidable.not_not] at p8
              refine ops_skip 88 rfl rfl rfl ?_
              refine ops_skip 89 rfl rfl rfl ?_
              refine ops_skip 90 rfl rfl rfl ?_
              refine ops_skip 91 rfl rfl rfl ?_
              refine ops_skip 92 rfl rfl rfl ?_
              refine ops_skip 93 rfl rfl rfl ?_
              refine ops_val 94 (.bool false) rfl rfl rfl rfl (run_pv rfl) ?_
              refine ops_val 95 (.bool false) rfl rfl rfl rfl (run_pv rfl) ?_
              refine ops_skip 96 rfl rfl rfl ?_
              refine ops_skip 97 rfl rfl rfl ?_
              refine ops_skip 98 rfl rfl rfl ?_
              refine ops_val 99 (.bool false) rfl rfl rfl rfl (run_pv rfl) ?_
              refine ops_val 100 (.bool false) rfl rfl rfl rfl (run_pv rfl) ?_
              refine ops_skip 101 rfl rfl rfl ?_
              refine ops_skip 102 rfl rfl rfl ?_
              refine ops_skip 103 rfl rfl rfl ?_
              refine ops_val 104 (.bool false) rfl rfl rfl rfl (run_pv rfl) ?_
              refine ops_val 10 (.bool false) rfl rfl rfl rfl (run_pv rfl) ?_
              refine ops_nil ?_
              refine nrm_then ?_
              exact ⟨⟨congrArg Value.bool (by simp only [h1, k2, h2, k4, h6, h8, Bool.true_and, Bool.false_and, Bool.and_true, Bool.and_false, Bool.true_or, Bool.false_or, Bool.or_true, Bool.or_false, Bool.not_true, Bool.not_false]), trivial⟩, rfl, S⟩
          · clear S; intro ρ0 w12 S
            refine nrm_then ?_
            refine w_ret ?_
            refine fin1 (v := .bool ((((rightB ((putOf base f).1)) && (decide ((((putOf base f).1).length : Int) = ((base.length : Int) + 1)))) && (decide ((atOf base key day known).1 = (atOf ((putOf base f).1) key day known).1))) && ((atOf base key day known).2 == (atOf ((putOf base f).1) key day known).2))) rfl S rfl ?_
            exact congrArg Value.bool (put_keeps base f key day known (by assumption) (by assumption))
end
