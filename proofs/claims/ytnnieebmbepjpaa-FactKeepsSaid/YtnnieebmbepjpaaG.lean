/- walks of the laws -/
import Derived.Test.YtnnieebmbepjpaaL
set_option linter.all false
namespace Go.Proofs.Ytnnieebmbepjpaa
open Go Go.Eng
section
theorem hb7 : hasBody Try.prog 7 := body_of (by kernel_rfl)
theorem hb8 : hasBody Try.prog 8 := body_of (by kernel_rfl)
theorem hb10 : hasBody Try.prog 10 := body_of (by kernel_rfl)
theorem hb14 : hasBody Try.prog 14 := body_of (by kernel_rfl)
theorem hb17 : hasBody Try.prog 17 := body_of (by kernel_rfl)
theorem hb19 : hasBody Try.prog 19 := body_of (by kernel_rfl)
theorem hb22 : hasBody Try.prog 22 := body_of (by kernel_rfl)
theorem hb20 : hasBody Try.prog 20 := body_of (by kernel_rfl)
theorem tells_is (vbase : Value) (base : List Fact) (f : Fact) (key : List UInt8) (day : Int) (a : Int) (b : Int) (w : World) (hbase : Rd w encFact 5 vbase base) : FnIs Try.prog 3 [vbase, aggFact f, str key, i64 day, i64 a, i64 b] w (.bool true) := by
  refine fn_of_wp (N := 134) Try.func3 rfl rfl rfl ?_
  intro S
  have hlen := hbase.len
  have hkl := keysOf_len base
  refine w_seq ?_
  refine w_region ?_
  refine ops_box [str f.key, i64 f.value, i64 f.from_, i64 f.until_, i64 f.known] S rfl rfl rfl ?_
  clear S; intro b1 w1 S
  refine ops_val 12 (.bool false) rfl rfl rfl rfl (run_pv rfl) ?_
  refine ops_nil ?_
  refine nrm_then ?_
  refine w_seq ?_
  refine w_region ?_
  refine ops_callIs [] (.bool true) S rfl rfl hb7 rfl (small_is  _  ) ?_
  clear S; intro w2 S
  refine ops_val 13 (.bool true) rfl rfl rfl rfl (run_pv rfl) ?_
  refine ops_nil ?_
  refine nrm_then ?_
  refine w_seq ?_
  refine w_seq ?_
  refine w_region ?_
  refine ops_val 26 (vbase) rfl rfl rfl rfl (run_pv rfl) ?_
  refine ops_callIs [vbase] (.bool (fewB base)) S rfl rfl hb8 rfl (few_is vbase base _ (St.rd S hbase) ) ?_
  clear S; intro w3 S
  refine ops_val 28 (.bool (!(fewB base))) rfl rfl rfl rfl (run_pv rfl) ?_
  refine ops_nil ?_
  refine nrm_then ?_
  refine w_cond (!(fewB base)) rfl (fun h1 => ?_) (fun h1 => ?_)
  · have p1 := h1; try simp only [decide_eq_true_eq, decide_eq_false_iff_not, Bool.and_eq_true, Bool.or_eq_true, Bool.not_eq_true', Bool.or_eq_false_iff, Bool.not_eq_false', Int.not_lt, Int.not_le, gt_iff_lt, ge_iff_le, Decidable.not_not] at p1
    have k1 : (fewB base) = false := (by simpa only [Bool.not_eq_true', Bool.not_eq_false'] using h1)
    have pk1 := k1; try simp only [decide_eq_true_eq, decide_eq_false_iff_not, Bool.and_eq_true, Bool.or_eq_true, Bool.not_eq_true', Bool.or_eq_false_iff, Bool.not_eq_false', Int.not_lt, Int.not_le, gt_iff_lt, ge_iff_le, Decidable.not_not] at pk1
    refine w_seq ?_
    refine w_region ?_
    refine ops_val 29 (.bool true) rfl rfl rfl rfl (run_pv rfl) ?_
    refine ops_val 12 (.bool true) rfl rfl rfl rfl (run_pv rfl) ?_
    refine ops_nil ?_
    refine nrm_then ?_
    refine w_ret ?_
    refine ret_then ?_
    refine fin1 (v := .bool true) rfl S rfl ?_
    rfl
  · have p1 := h1; try simp only [decide_eq_true_eq, decide_eq_false_iff_not, Bool.and_eq_true, Bool.or_eq_true, Bool.not_eq_true', Bool.or_eq_false_iff, Bool.not_eq_false', Int.not_lt, Int.not_le, gt_iff_lt, ge_iff_le, Decidable.not_not] at p1
    have k2 : (fewB base) = true := (by simpa only [Bool.not_eq_true', Bool.not_eq_false'] using h1)
    have pk2 := k2; try simp only [decide_eq_true_eq, decide_eq_false_iff_not, Bool.and_eq_true, Bool.or_eq_true, Bool.not_eq_true', Bool.or_eq_false_iff, Bool.not_eq_false', Int.not_lt, Int.not_le, gt_iff_lt, ge_iff_le, Decidable.not_not] at pk2
    have hfw := few_len base (by simpa using h1)
    refine w_skip ?_
    refine nrm_then ?_
    refine w_seq ?_
    refine w_region ?_
    refine ops_val 31 (vbase) rfl rfl rfl rfl (run_pv rfl) ?_
    refine ops_val 32 (aggFact f) rfl rfl rfl rfl (run_load_agg [str f.key, i64 f.value, i64 f.from_, i64 f.until_, i64 f.known] ag24 rfl rfl (blk_each S (n := 0) rfl 0 rfl)) ?_
    refine ops_callRow2 [vbase, aggFact f] S rfl rfl hb9 rfl (put_is vbase base f _ (St.rd S hbase) ) ?_
    clear S; intro v1 w4 S
    replace S : Eng.St w [.row 24 5 v1 (((putOf base f).1).map encFact), .blk b1 [str f.key, i64 f.value, i64 f.from_, i64 f.until_, i64 f.known] 24] w4 := S
    refine ops_val 30 (.tuple #[v1, i64 ((putOf base f).2)]) rfl rfl rfl rfl (run_pv rfl) ?_
    refine ops_val 34 (v1) rfl rfl rfl rfl (run_pv rfl) ?_
    refine ops_val 35 (i64 ((putOf base f).2)) rfl rfl rfl rfl (run_pv rfl) ?_
    refine ops_val 14 (v1) rfl rfl rfl rfl (run_pv rfl) ?_
    refine ops_val 15 (i64 ((putOf base f).2)) rfl rfl rfl rfl (run_pv rfl) ?_
    refine ops_nil ?_
    refine nrm_then ?_
    refine w_seq ?_
    refine w_region ?_
    refine ops_val 37 (vbase) rfl rfl rfl rfl (run_pv rfl) ?_
    refine ops_val 38 (aggFact f) rfl rfl rfl rfl (run_load_agg [str f.key, i64 f.value, i64 f.from_, i64 f.until_, i64 f.known] ag24 rfl rfl (blk_each S (n := 1) rfl 0 rfl)) ?_
    refine ops_callRow2 [vbase, aggFact f] S rfl rfl hb10 rfl (rput_is vbase base f _ (St.rd S hbase) ) ?_
    clear S; intro v2 w5 S
    replace S : Eng.St w [.row 24 5 v2 (((rputOf base f).1).map encFact), .row 24 5 v1 (((putOf base f).1).map encFact), .blk b1 [str f.key, i64 f.value, i64 f.from_, i64 f.until_, i64 f.known] 24] w5 := S
    refine ops_val 36 (.tuple #[v2, i64 ((rputOf base f).2)]) rfl rfl rfl rfl (run_pv rfl) ?_
    refine ops_val 40 (v2) rfl rfl rfl rfl (run_pv rfl) ?_
    refine ops_val 41 (i64 ((rputOf base f).2)) rfl rfl rfl rfl (run_pv rfl) ?_
    refine ops_val 16 (v2) rfl rfl rfl rfl (run_pv rfl) ?_
    refine ops_val 17 (i64 ((rputOf base f).2)) rfl rfl rfl rfl (run_pv rfl) ?_
    refine ops_nil ?_
    refine nrm_then ?_
    refine w_seq ?_
    refine w_region ?_
    refine ops_val 43 (vbase) rfl rfl rfl rfl (run_pv rfl) ?_
    refine ops_val 44 (str key) rfl rfl rfl rfl (run_pv rfl) ?_
    refine ops_val 45 (i64 day) rfl rfl rfl rfl (run_pv rfl) ?_
    refine ops_val 46 (i64 a) rfl rfl rfl rfl (run_pv rfl) ?_
    refine ops_callIs [vbase, str key, i64 day, i64 a] (.tuple #[i64 ((atOf base key day a).1), .bool ((atOf base key day a).2)]) S rfl rfl hb11 rfl (at_is vbase base key day a _ (St.rd S hbase) ) ?_
    clear S; intro w6 S
    refine ops_val 42 (.tuple #[i64 ((atOf base key day a).1), .bool ((atOf base key day a).2)]) rfl rfl rfl rfl (run_pv rfl) ?_
    refine ops_val 48 (i64 ((atOf base key day a).1)) rfl rfl rfl rfl (run_pv rfl) ?_
    refine ops_val 49 (.bool ((atOf base key day a).2)) rfl rfl rfl rfl (run_pv rfl) ?_
    refine ops_val 18 (i64 ((atOf base key day a).1)) rfl rfl rfl rfl (run_pv rfl) ?_
    refine ops_val 19 (.bool ((atOf base key day a).2)) rfl rfl rfl rfl (run_pv rfl) ?_
    refine ops_nil ?_
    refine nrm_then ?_
    refine w_seq ?_
    refine w_region ?_
    refine ops_val 51 (vbase) rfl rfl rfl rfl (run_pv rfl) ?_
    refine ops_val 52 (str key) rfl rfl rfl rfl (run_pv rfl) ?_
    refine ops_val 53 (i64 day) rfl rfl rfl rfl (run_pv rfl) ?_
    refine ops_val 54 (i64 a) rfl rfl rfl rfl (run_pv rfl) ?_
    refine ops_callIs [vbase, str key, i64 day, i64 a] (.tuple #[i64 ((ratOf base key day a).1), .bool ((ratOf base key day a).2)]) S rfl rfl hb12 rfl (rat_is vbase base key day a _ (St.rd S hbase) ) ?_
    clear S; intro w7 S
    refine ops_val 50 (.tuple #[i64 ((ratOf base key day a).1), .bool ((ratOf base key day a).2)]) rfl rfl rfl rfl (run_pv rfl) ?_
    refine ops_val 56 (i64 ((ratOf base key day a).1)) rfl rfl rfl rfl (run_pv rfl) ?_
    refine ops_val 57 (.bool ((ratOf base key day a).2)) rfl rfl rfl rfl (run_pv rfl) ?_
    refine ops_val 20 (i64 ((ratOf base key day a).1)) rfl rfl rfl rfl (run_pv rfl) ?_
    refine ops_val 21 (.bool ((ratOf base key day a).2)) rfl rfl rfl rfl (run_pv rfl) ?_
    refine ops_nil ?_
    refine nrm_then ?_
    refine w_seq ?_
    refine w_region ?_
    refine ops_val 58 (vbase) rfl rfl rfl rfl (run_pv rfl) ?_
    refine ops_callRow [vbase] S rfl rfl hb13 rfl (keys_is vbase base _ (St.rd S hbase) ) ?_
    clear S; intro v3 w8 S
    replace S : Eng.St w [.row 9 1 v3 ((keysOf base).map Eng.encS), .row 24 5 v2 (((rputOf base f).1).map encFact), .row 24 5 v1 (((putOf base f).1).map encFact), .blk b1 [str f.key, i64 f.value, i64 f.from_, i64 f.until_, i64 f.known] 24] w8 := S
    refine ops_val 22 (v3) rfl rfl rfl rfl (run_pv rfl) ?_
    refine ops_nil ?_
    refine nrm_then ?_
    refine w_seq ?_
    refine w_region ?_
    refine ops_val 60 (vbase) rfl rfl rfl rfl (run_pv rfl) ?_
    refine ops_callRow [vbase] S rfl rfl hb14 rfl (rkeys_is vbase base _ (St.rd S hbase) ) ?_
    clear S; intro v4 w9 S
    replace S : Eng.St w [.row 9 1 v4 ((rkeysOf base).map Eng.encS), .row 9 1 v3 ((keysOf base).map Eng.encS), .row 24 5 v2 (((rputOf base f).1).map encFact), .row 24 5 v1 (((putOf base f).1).map encFact), .blk b1 [str f.key, i64 f.value, i64 f.from_, i64 f.until_, i64 f.known] 24] w9 := S
    refine ops_val 23 (v4) rfl rfl rfl rfl (run_pv rfl) ?_
    refine ops_nil ?_
    refine nrm_then ?_
    refine w_seq ?_
    refine w_seq ?_
    refine w_region ?_
    refine ops_val 62 (v3) rfl rfl rfl rfl (run_pv rfl) ?_
    refine ops_val 63 (i64 ((keysOf base).length : Int)) rfl rfl rfl rfl (run_len_rd Try.underlying32 (St.rdRow (n := 1) S rfl) rfl) ?_
    refine ops_val 64 (v4) rfl rfl rfl rfl (run_pv rfl) ?_
    refine ops_val 65 (i64 ((rkeysOf base).length : Int)) rfl rfl rfl rfl (run_len_rd Try.underlying32 (St.rdRow (n := 0) S rfl) rfl) ?_
    refine ops_val 66 (.bool (!decide (((keysOf base).length : Int) = ((rkeysOf base).length : Int)))) rfl rfl rfl rfl (run_pv rfl) ?_
    refine ops_nil ?_
    refine nrm_then ?_
    refine w_cond (!decide (((keysOf base).length : Int) = ((rkeysOf base).length : Int))) rfl (fun h2 => ?_) (fun h2 => ?_)
    · have p2 := h2; try simp only [decide_eq_true_eq, decide_eq_false_iff_not, Bool.and_eq_true, Bool.or_eq_true, Bool.not_eq_true', Bool.or_eq_false_iff, Bool.not_eq_false', Int.not_lt, Int.not_le, gt_iff_lt, ge_iff_le, Decidable.not_not] at p2
      have k3 : (decide (((keysOf base).length : Int) = ((rkeysOf base).length : Int))) = false := (by simpa only [Bool.not_eq_true', Bool.not_eq_false'] using h2)
      have pk3 := k3; try simp only [decide_eq_true_eq, decide_eq_false_iff_not, Bool.and_eq_true, Bool.or_eq_true, Bool.not_eq_true', Bool.or_eq_false_iff, Bool.not_eq_false', Int.not_lt, Int.not_le, gt_iff_lt, ge_iff_le, Decidable.not_not] at pk3
      refine w_seq ?_
      refine w_region ?_
      refine ops_val 12 (.bool false) rfl rfl rfl rfl (run_pv rfl) ?_
      refine ops_nil ?_
      refine nrm_then ?_
      refine w_ret ?_
      refine ret_then ?_
      refine fin1 (v := .bool false) rfl S rfl ?_
      exact absurd h2 (by simp only [rkeys_eq]; simp)
    · have p2 := h2; try simp only [decide_eq_true_eq, decide_eq_false_iff_not, Bool.and_eq_true, Bool.or_eq_true, Bool.not_eq_true', Bool.or_eq_false_iff, Bool.not_eq_false', Int.not_lt, Int.not_le, gt_iff_lt, ge_iff_le, Decidable.not_not] at p2
      have k4 : (decide (((keysOf base).length : Int) = ((rkeysOf base).length : Int))) = true := (by simpa only [Bool.not_eq_true', Bool.not_eq_false'] using h2)
      have pk4 := k4; try simp only [decide_eq_true_eq, decide_eq_false_iff_not, Bool.and_eq_true, Bool.or_eq_true, Bool.not_eq_true', Bool.or_eq_false_iff, Bool.not_eq_false', Int.not_lt, Int.not_le, gt_iff_lt, ge_iff_le, Decidable.not_not] at pk4
      refine w_skip ?_
      refine nrm_then ?_
      refine w_seq ?_
      refine w_seq ?_
      refine w_region ?_
      refine ops_val 24 (i64 0) rfl rfl rfl rfl (run_pv rfl) ?_
      refine ops_nil ?_
      refine nrm_then ?_
      refine w_block ?_
      refine w_loop (G := Nat) (fun k => [(0, vbase), (2, str key), (4, i64 a), (5, i64 b), (13, .bool true), (14, v1), (15, i64 ((putOf base f).2)), (16, v2), (17, i64 ((rputOf base f).2)), (18, i64 ((atOf base key day a).1)), (19, .bool ((atOf base key day a).2)), (20, i64 ((ratOf base key day a).1)), (21, .bool ((ratOf base key day a).2)), (22, v3), (23, v4), (24, i64 (k : Int))]) (fun k w' => Eng.St w [.row 9 1 v4 ((rkeysOf base).map Eng.encS), .row 9 1 v3 ((keysOf base).map Eng.encS), .row 24 5 v2 (((rputOf base f).1).map encFact), .row 24 5 v1 (((putOf base f).1).map encFact), .blk b1 [str f.key, i64 f.value, i64 f.from_, i64 f.until_, i64 f.known] 24] w' ∧ (k ≤ (keysOf base).length)) (fun k => (keysOf base).length - k) (0) ⟨rfl, rfl, rfl, rfl, rfl, rfl, rfl, rfl, rfl, rfl, rfl, rfl, rfl, rfl, rfl, rfl, trivial⟩ ⟨S, Nat.zero_le _⟩ ?_
      clear S; rintro k ρ0 w10 ⟨S, hk⟩
      refine w_seq ?_
      refine w_seq ?_
      refine w_region ?_
      refine ops_val 67 (i64 (k : Int)) rfl rfl rfl rfl (run_pv rfl) ?_
      refine ops_val 68 (v3) rfl rfl rfl rfl (run_pv rfl) ?_
      refine ops_val 69 (i64 ((keysOf base).length : Int)) rfl rfl rfl rfl (run_len_rd Try.underlying32 (St.rdRow (n := 1) S rfl) rfl) ?_
      refine ops_val 70 (.bool (decide ((k : Int) < ((keysOf base).length : Int)))) rfl rfl rfl rfl (run_pv rfl) ?_
      refine ops_nil ?_
      refine nrm_then ?_
      refine w_cond (decide ((k : Int) < ((keysOf base).length : Int))) rfl (fun h3 => ?_) (fun h3 => ?_)
      · have p3 := h3; try simp only [decide_eq_true_eq, decide_eq_false_iff_not, Bool.and_eq_true, Bool.or_eq_true, Bool.not_eq_true', Bool.or_eq_false_iff, Bool.not_eq_false', Int.not_lt, Int.not_le, gt_iff_lt, ge_iff_le, Decidable.not_not] at p3
        refine w_skip ?_
        refine nrm_then ?_
        refine w_seq ?_
        refine w_block ?_
        refine w_seq ?_
        refine w_draw 1000000 (fun w' => Eng.St w [.row 9 1 v4 ((rkeysOf base).map Eng.encS), .row 9 1 v3 ((keysOf base).map Eng.encS), .row 24 5 v2 (((rputOf base f).1).map encFact), .row 24 5 v1 (((putOf base f).1).map encFact), .blk b1 [str f.key, i64 f.value, i64 f.from_, i64 f.until_, i64 f.known] 24] w') Try.mixed ?_
        intro w11 hw'; replace S := Eng.St.drew S; rw [← hw'] at S
        clear hw'
        refine any_quiet 0 73 (v3) (by kernel_rfl) rfl (by kernel_rfl) (by kernel_rfl) rfl rfl rfl rfl S (fun wq Sq => (run_pv rfl)) ?_
        refine any_quiet 1 74 (i64 (k : Int)) (by kernel_rfl) rfl (by kernel_rfl) (by kernel_rfl) rfl rfl rfl rfl S (fun wq Sq => (run_pv rfl)) ?_
        refine any_quiet 2 75 (.pointer (some ((adr v3).add (k * 1)))) (by kernel_rfl) rfl (by kernel_rfl) (by kernel_rfl) rfl rfl rfl rfl S (fun wq Sq => (run_index_rd (i := k) sl32 (St.rdRow (n := 1) Sq rfl) rfl rfl (by omega))) ?_
        refine any_quiet 3 76 (str ((keysOf base).getD k [])) (by kernel_rfl) rfl (by kernel_rfl) (by kernel_rfl) rfl rfl rfl rfl S (fun wq Sq => (run_load_scal sc9 rfl (cell0 (Rd.at' (d := []) (j := 0) (St.rdRow (n := 1) Sq rfl) (by omega) rfl)))) ?_
        refine any_quiet 4 77 (v4) (by kernel_rfl) rfl (by kernel_rfl) (by kernel_rfl) rfl rfl rfl rfl S (fun wq Sq => (run_pv rfl)) ?_
        refine any_quiet 5 78 (i64 (k : Int)) (by kernel_rfl) rfl (by kernel_rfl) (by kernel_rfl) rfl rfl rfl rfl S (fun wq Sq => (run_pv rfl)) ?_
        refine any_quiet 6 79 (.pointer (some ((adr v4).add (k * 1)))) (by kernel_rfl) rfl (by kernel_rfl) (by kernel_rfl) rfl rfl rfl rfl S (fun wq Sq => (run_index_rd (i := k) sl32 (St.rdRow (n := 0) Sq rfl) rfl rfl (by omega))) ?_
        refine any_quiet 7 80 (str ((rkeysOf base).getD k [])) (by kernel_rfl) rfl (by kernel_rfl) (by kernel_rfl) rfl rfl rfl rfl S (fun wq Sq => (run_load_scal sc9 rfl (cell0 (Rd.at' (d := []) (j := 0) (St.rdRow (n := 0) Sq rfl) (by omega) rfl)))) ?_
        refine any_quiet 8 81 (.bool (!decide (((keysOf base).getD k []) = ((rkeysOf base).getD k [])))) (by kernel_rfl) rfl (by kernel_rfl) (by kernel_rfl) rfl rfl rfl rfl S (fun wq Sq => (run_pv rfl)) ?_
        refine any_done (by kernel_rfl) ?_
        refine nrm_then ?_
        refine w_cond (!decide (((keysOf base).getD k []) = ((rkeysOf base).getD k []))) rfl (fun h4 => ?_) (fun h4 => ?_)
        · have p4 := h4; try simp only [decide_eq_true_eq, decide_eq_false_iff_not, Bool.and_eq_true, Bool.or_eq_true, Bool.not_eq_true', Bool.or_eq_false_iff, Bool.not_eq_false', Int.not_lt, Int.not_le, gt_iff_lt, ge_iff_le, Decidable.not_not] at p4
          have k5 : (decide (((keysOf base).getD k []) = ((rkeysOf base).getD k []))) = false := (by simpa only [Bool.not_eq_true', Bool.not_eq_false'] using h4)
          have pk5 := k5; try simp only [decide_eq_true_eq, decide_eq_false_iff_not, Bool.and_eq_true, Bool.or_eq_true, Bool.not_eq_true', Bool.or_eq_false_iff, Bool.not_eq_false', Int.not_lt, Int.not_le, gt_iff_lt, ge_iff_le, Decidable.not_not] at pk5
          refine w_seq ?_
          refine w_region ?_
          refine ops_val 12 (.bool false) rfl rfl rfl rfl (run_pv rfl) ?_
          refine ops_nil ?_
          refine nrm_then ?_
          refine w_ret ?_
          refine ret_blk ?_
          refine ret_then ?_
          refine ret_then ?_
          refine ret_blk ?_
          refine ret_then ?_
          refine fin1 (v := .bool false) rfl S rfl ?_
          exact absurd h4 (by simp only [rkeys_eq]; simp)
        · have p4 := h4; try simp only [decide_eq_true_eq, decide_eq_false_iff_not, Bool.and_eq_true, Bool.or_eq_true, Bool.not_eq_true', Bool.or_eq_false_iff, Bool.not_eq_false', Int.not_lt, Int.not_le, gt_iff_lt, ge_iff_le, Decidable.not_not] at p4
          have k6 : (decide (((keysOf base).getD k []) = ((rkeysOf base).getD k []))) = true := (by simpa only [Bool.not_eq_true', Bool.not_eq_false'] using h4)
          have pk6 := k6; try simp only [decide_eq_true_eq, decide_eq_false_iff_not, Bool.and_eq_true, Bool.or_eq_true, Bool.not_eq_true', Bool.or_eq_false_iff, Bool.not_eq_false', Int.not_lt, Int.not_le, gt_iff_lt, ge_iff_le, Decidable.not_not] at pk6
          refine w_skip ?_
          refine nrm_blk ?_
          refine nrm_then ?_
          refine w_region ?_
          refine ops_val 71 (i64 (k : Int)) rfl rfl rfl rfl (run_pv rfl) ?_
          refine ops_val 72 (i64 ((k : Int) + 1)) rfl rfl rfl rfl (run_wr rfl (by omega) (by omega)) ?_
          refine ops_val 24 (i64 ((k : Int) + 1)) rfl rfl rfl rfl (run_pv rfl) ?_
          refine ops_nil ?_
          refine nrm_then ?_
          exact ⟨rfl, (k + 1), ⟨(by first | rfl | exact congrArg i64 (by omega)), (by first | rfl | exact congrArg i64 (by omega)), (by first | rfl | exact congrArg i64 (by omega)), (by first | rfl | exact congrArg i64 (by omega)), (by first | rfl | exact congrArg i64 (by omega)), (by first | rfl | exact congrArg i64 (by omega)), (by first | rfl | exact congrArg i64 (by omega)), (by first | rfl | exact congrArg i64 (by omega)), (by first | rfl | exact congrArg i64 (by omega)), (by first | rfl | exact congrArg i64 (by omega)), (by first | rfl | exact congrArg i64 (by omega)), (by first | rfl | exact congrArg i64 (by omega)), (by first | rfl | exact congrArg i64 (by omega)), (by first | rfl | exact congrArg i64 (by omega)), (by first | rfl | exact congrArg i64 (by omega)), (by first | rfl | exact congrArg i64 (by omega)), trivial⟩, ⟨S, by omega⟩, by omega⟩
      · have p3 := h3; try simp only [decide_eq_true_eq, decide_eq_false_iff_not, Bool.and_eq_true, Bool.or_eq_true, Bool.not_eq_true', Bool.or_eq_false_iff, Bool.not_eq_false', Int.not_lt, Int.not_le, gt_iff_lt, ge_iff_le, Decidable.not_not] at p3
        refine w_exit ?_
        refine exit_then ?_
        refine exit_then ?_
        refine exit_blk ?_
        refine nrm_then ?_
        refine w_seq ?_
        refine w_cut [(12, .bool ((((((((rightB base) == (rrightB base)) && (decide ((putOf base f).2 = (rputOf base f).2))) && (decide ((putOf base f).1 = (rputOf base f).1))) && (decide ((atOf base key day a).1 = (ratOf base key day a).1))) && ((atOf base key day a).2 == (ratOf base key day a).2)) && (decide ((histOf base key a) = (rhistOf base key a)))) && (decide ((corOf base key a b) = (rcorOf base key a b)))))] (fun w' => Eng.St w [.row 9 1 v4 ((rkeysOf base).map Eng.encS), .row 9 1 v3 ((keysOf base).map Eng.encS), .row 24 5 v2 (((rputOf base f).1).map encFact), .row 24 5 v1 (((putOf base f).1).map encFact), .blk b1 [str f.key, i64 f.value, i64 f.from_, i64 f.until_, i64 f.known] 24] w') ?_ ?_
        · refine w_region ?_
          refine ops_val 82 (.bool true) rfl rfl rfl rfl (run_pv rfl) ?_
          refine ops_val 83 (.bool true) rfl rfl rfl rfl (run_pv rfl) ?_
          refine ops_val 84 (vbase) rfl rfl rfl rfl (run_pv rfl) ?_
          refine ops_callIs [vbase] (.bool (rightB base)) S rfl rfl hb15 rfl (right_is vbase base _ (St.rd S hbase) ) ?_
          clear S; intro w12 S
          refine ops_val 86 (vbase) rfl rfl rfl rfl (run_pv rfl) ?_
          refine ops_callIs [vbase] (.bool (rrightB base)) S rfl rfl hb16 rfl (rright_is vbase base _ (St.rd S hbase) ) ?_
          clear S; intro w13 S
          refine ops_val 88 (.bool ((rightB base) == (rrightB base))) rfl rfl rfl rfl (run_eql_bool' Try.underlying4 rfl rfl) ?_
          refine ops_val 89 (.bool ((rightB base) == (rrightB base))) rfl rfl rfl rfl (run_pv rfl) ?_
          refine ops_val 90 (.bool ((rightB base) == (rrightB base))) rfl rfl rfl rfl (run_pv rfl) ?_
          refine ops_case 90 ((rightB base) == (rrightB base)) rfl (fun h5 => ?_) (fun h5 => ?_)
          · have p5 := h5; try simp only [decide_eq_true_eq, decide_eq_false_iff_not, Bool.and_eq_true, Bool.or_eq_true, Bool.not_eq_true', Bool.or_eq_false_iff, Bool.not_eq_false', Int.not_lt, Int.not_le, gt_iff_lt, ge_iff_le, Decidable.not_not] at p5
            refine ops_val 91 (i64 ((putOf base f).2)) rfl rfl rfl rfl (run_pv rfl) ?_
            refine ops_val 92 (i64 ((rputOf base f).2)) rfl rfl rfl rfl (run_pv rfl) ?_
            refine ops_val 93 (.bool (decide ((putOf base f).2 = (rputOf base f).2))) rfl rfl rfl rfl (run_pv rfl) ?_
            refine ops_val 94 (.bool (decide ((putOf base f).2 = (rputOf base f).2))) rfl rfl rfl rfl (run_pv rfl) ?_
            refine ops_val 95 (.bool (decide ((putOf base f).2 = (rputOf base f).2))) rfl rfl rfl rfl (run_pv rfl) ?_
            refine ops_case 95 (decide ((putOf base f).2 = (rputOf base f).2)) rfl (fun h6 => ?_) (fun h6 => ?_)
            · have p6 := h6; try simp only [decide_eq_true_eq, decide_eq_false_iff_not, Bool.and_eq_true, Bool.or_eq_true, Bool.not_eq_true', Bool.or_eq_false_iff, Bool.not_eq_false', Int.not_lt, Int.not_le, gt_iff_lt, ge_iff_le, Decidable.not_not] at p6
              refine ops_val 96 (v1) rfl rfl rfl rfl (run_pv rfl) ?_
              refine ops_val 97 (v2) rfl rfl rfl rfl (run_pv rfl) ?_
              refine ops_callIs [v1, v2] (.bool (decide ((putOf base f).1 = (rputOf base f).1))) S rfl rfl hb17 rfl (same_is v1 ((putOf base f).1) v2 ((rputOf base f).1) _ (St.rdRow (n := 3) S rfl) (St.rdRow (n := 2) S rfl) ) ?_
              clear S; intro w14 S
              refine ops_val 99 (.bool (decide ((putOf base f).1 = (rputOf base f).1))) rfl rfl rfl rfl (run_pv rfl) ?_
              refine ops_val 100 (.bool (decide ((putOf base f).1 = (rputOf base f).1))) rfl rfl rfl rfl (run_pv rfl) ?_
              refine ops_case 100 (decide ((putOf base f).1 = (rputOf base f).1)) rfl (fun h7 => ?_) (fun h7 => ?_)
              · have p7 := h7; try simp only [decide_eq_true_eq, decide_eq_false_iff_not, Bool.and_eq_true, Bool.or_eq_true, Bool.not_eq_true', Bool.or_eq_false_iff, Bool.not_eq_false', Int.not_lt, Int.not_le, gt_iff_lt, ge_iff_le, Decidable.not_not] at p7
                refine ops_val 101 (i64 ((atOf base key day a).1)) rfl rfl rfl rfl (run_pv rfl) ?_
                refine ops_val 102 (i64 ((ratOf base key day a).1)) rfl rfl rfl rfl (run_pv rfl) ?_
                refine ops_val 103 (.bool (decide ((atOf base key day a).1 = (ratOf base key day a).1))) rfl rfl rfl rfl (run_pv rfl) ?_
                refine ops_val 104 (.bool (decide ((atOf base key day a).1 = (ratOf base key day a).1))) rfl rfl rfl rfl (run_pv rfl) ?_
                refine ops_val 105 (.bool (decide ((atOf base key day a).1 = (ratOf base key day a).1))) rfl rfl rfl rfl (run_pv rfl) ?_
                refine ops_case 105 (decide ((atOf base key day a).1 = (ratOf base key day a).1)) rfl (fun h8 => ?_) (fun h8 => ?_)
                · have p8 := h8; try simp only [decide_eq_true_eq, decide_eq_false_iff_not, Bool.and_eq_true, Bool.or_eq_true, Bool.not_eq_true', Bool.or_eq_false_iff, Bool.not_eq_false', Int.not_lt, Int.not_le, gt_iff_lt, ge_iff_le, Decidable.not_not] at p8
                  refine ops_val 106 (.bool ((atOf base key day a).2)) rfl rfl rfl rfl (run_pv rfl) ?_
                  refine ops_val 107 (.bool ((ratOf base key day a).2)) rfl rfl rfl rfl (run_pv rfl) ?_
                  refine ops_val 108 (.bool ((atOf base key day a).2 == (ratOf base key day a).2)) rfl rfl rfl rfl (run_eql_bool' Try.underlying4 rfl rfl) ?_
                  refine ops_val 109 (.bool ((atOf base key day a).2 == (ratOf base key day a).2)) rfl rfl rfl rfl (run_pv rfl) ?_
                  refine ops_val 110 (.bool ((atOf base key day a).2 == (ratOf base key day a).2)) rfl rfl rfl rfl (run_pv rfl) ?_
                  refine ops_case 110 ((atOf base key day a).2 == (ratOf base key day a).2) rfl (fun h9 => ?_) (fun h9 => ?_)
                  · have p9 := h9; try simp only [decide_eq_true_eq, decide_eq_false_iff_not, Bool.and_eq_true, Bool.or_eq_true, Bool.not_eq_true', Bool.or_eq_false_iff, Bool.not_eq_false', Int.not_lt, Int.not_le, gt_iff_lt, ge_iff_le, Decidable.not_not] at p9
                    refine ops_val 111 (vbase) rfl rfl rfl rfl (run_pv rfl) ?_
                    refine ops_val 112 (str key) rfl rfl rfl rfl (run_pv rfl) ?_
                    refine ops_val 113 (i64 a) rfl rfl rfl rfl (run_pv rfl) ?_
                    refine ops_callRow [vbase, str key, i64 a] S rfl rfl hb18 rfl (hist_is vbase base key a _ (St.rd S hbase) ) ?_
                    clear S; intro v5 w15 S
                    replace S : Eng.St w [.row 24 5 v5 ((histOf base key a).map encFact), .row 9 1 v4 ((rkeysOf base).map Eng.encS), .row 9 1 v3 ((keysOf base).map Eng.encS), .row 24 5 v2 (((rputOf base f).1).map encFact), .row 24 5 v1 (((putOf base f).1).map encFact), .blk b1 [str f.key, i64 f.value, i64 f.from_, i64 f.until_, i64 f.known] 24] w15 := S
                    refine ops_val 115 (vbase) rfl rfl rfl rfl (run_pv rfl) ?_
                    refine ops_val 116 (str key) rfl rfl rfl rfl (run_pv rfl) ?_
                    refine ops_val 117 (i64 a) rfl rfl rfl rfl (run_pv rfl) ?_
                    refine ops_callRow [vbase, str key, i64 a] S rfl rfl hb19 rfl (rhist_is vbase base key a _ (St.rd S hbase) ) ?_
                    clear S; intro v6 w16 S
                    replace S : Eng.St w [.row 24 5 v6 ((rhistOf base key a).map encFact), .row 24 5 v5 ((histOf base key a).map encFact), .row 9 1 v4 ((rkeysOf base).map Eng.encS), .row 9 1 v3 ((keysOf base).map Eng.encS), .row 24 5 v2 (((rputOf base f).1).map encFact), .row 24 5 v1 (((putOf base f).1).map encFact), .blk b1 [str f.key, i64 f.value, i64 f.from_, i64 f.until_, i64 f.known] 24] w16 := S
                    refine ops_callIs [v5, v6] (.bool (decide ((histOf base key a) = (rhistOf base key a)))) S rfl rfl hb17 rfl (same_is v5 (histOf base key a) v6 (rhistOf base key a) _ (St.rdRow (n := 1) S rfl) (St.rdRow (n := 0) S rfl) ) ?_
                    clear S; intro w17 S
                    refine ops_val 120 (.bool (decide ((histOf base key a) = (rhistOf base key a)))) rfl rfl rfl rfl (run_pv rfl) ?_
                    refine ops_val 121 (.bool (decide ((histOf base key a) = (rhistOf base key a)))) rfl rfl rfl rfl (run_pv rfl) ?_
                    refine ops_case 121 (decide ((histOf base key a) = (rhistOf base key a))) rfl (fun h10 => ?_) (fun h10 => ?_)
                    · have p10 := h10; try simp only [decide_eq_true_eq, decide_eq_false_iff_not, Bool.and_eq_true, Bool.or_eq_true, Bool.not_eq_true', Bool.or_eq_false_iff, Bool.not_eq_false', Int.not_lt, Int.not_le, gt_iff_lt, ge_iff_le, Decidable.not_not] at p10
                      refine ops_val 122 (vbase) rfl rfl rfl rfl (run_pv rfl) ?_
                      refine ops_val 123 (str key) rfl rfl rfl rfl (run_pv rfl) ?_
                      refine ops_val 124 (i64 a) rfl rfl rfl rfl (run_pv rfl) ?_
                      refine ops_val 125 (i64 b) rfl rfl rfl rfl (run_pv rfl) ?_
                      refine ops_callRow [vbase, str key, i64 a, i64 b] S rfl rfl hb21 rfl (cor_is vbase base key a b _ (St.rd S hbase) ) ?_
                      clear S; intro v7 w18 S
                      replace S : Eng.St w [.row 44 2 v7 ((corOf base key a b).map encStay), .row 24 5 v6 ((rhistOf base key a).map encFact), .row 24 5 v5 ((histOf base key a).map encFact), .row 9 1 v4 ((rkeysOf base).map Eng.encS), .row 9 1 v3 ((keysOf base).map Eng.encS), .row 24 5 v2 (((rputOf base f).1).map encFact), .row 24 5 v1 (((putOf base f).1).map encFact), .blk b1 [str f.key, i64 f.value, i64 f.from_, i64 f.until_, i64 f.known] 24] w18 := S
                      refine ops_val 127 (vbase) rfl rfl rfl rfl (run_pv rfl) ?_
                      refine ops_val 128 (str key) rfl rfl rfl rfl (run_pv rfl) ?_
                      refine ops_val 129 (i64 a) rfl rfl rfl rfl (run_pv rfl) ?_
                      refine ops_val 130 (i64 b) rfl rfl rfl rfl (run_pv rfl) ?_
                      refine ops_callRow [vbase, str key, i64 a, i64 b] S rfl rfl hb22 rfl (rcor_is vbase base key a b _ (St.rd S hbase) ) ?_
                      clear S; intro v8 w19 S
                      replace S : Eng.St w [.row 44 2 v8 ((rcorOf base key a b).map encStay), .row 44 2 v7 ((corOf base key a b).map encStay), .row 24 5 v6 ((rhistOf base key a).map encFact), .row 24 5 v5 ((histOf base key a).map encFact), .row 9 1 v4 ((rkeysOf base).map Eng.encS), .row 9 1 v3 ((keysOf base).map Eng.encS), .row 24 5 v2 (((rputOf base f).1).map encFact), .row 24 5 v1 (((putOf base f).1).map encFact), .blk b1 [str f.key, i64 f.value, i64 f.from_, i64 f.until_, i64 f.known] 24] w19 := S
                      refine ops_callIs [v7, v8] (.bool (decide ((corOf base key a b) = (rcorOf base key a b)))) S rfl rfl hb20 rfl (stays_is v7 (corOf base key a b) v8 (rcorOf base key a b) _ (St.rdRow (n := 1) S rfl) (St.rdRow (n := 0) S rfl) ) ?_
                      clear S; intro w20 S
                      refine ops_val 133 (.bool (decide ((corOf base key a b) = (rcorOf base key a b)))) rfl rfl rfl rfl (run_pv rfl) ?_
                      refine ops_val 12 (.bool (decide ((corOf base key a b) = (rcorOf base key a b)))) rfl rfl rfl rfl (run_pv rfl) ?_
                      refine ops_nil ?_
                      refine nrm_then ?_
                      exact ⟨⟨congrArg Value.bool (by simp only [h1, k2, h2, k4, h3, h5, h6, h7, h8, h9, h10, Bool.true_and, Bool.false_and, Bool.and_true, Bool.and_false, Bool.true_or, Bool.false_or, Bool.or_true, Bool.or_false, Bool.not_true, Bool.not_false]), trivial⟩, rfl, (Eng.St.drop (Eng.St.drop (Eng.St.drop (Eng.St.drop S))))⟩
                    · have p10 := h10; try simp only [decide_eq_true_eq, decide_eq_false_iff_not, Bool.and_eq_true, Bool.or_eq_true, Bool.not_eq_true', Bool.or_eq_false_iff, Bool.not_eq_false', Int.not_lt, Int.not_le, gt_iff_lt, ge_iff_le, Decidable.not_not] at p10
                      refine ops_skip 122 rfl rfl rfl ?_
                      refine ops_skip 123 rfl rfl rfl ?_
                      refine ops_skip 124 rfl rfl rfl ?_
                      refine ops_skip 125 rfl rfl rfl ?_
                      refine ops_skip 126 rfl rfl rfl ?_
                      refine ops_skip 127 rfl rfl rfl ?_
                      refine ops_skip 128 rfl rfl rfl ?_
                      refine ops_skip 129 rfl rfl rfl ?_
                      refine ops_skip 130 rfl rfl rfl ?_
                      refine ops_skip 131 rfl rfl rfl ?_
                      refine ops_skip 132 rfl rfl rfl ?_
                      refine ops_val 133 (.bool false) rfl rfl rfl rfl (run_pv rfl) ?_
                      refine ops_val 12 (.bool false) rfl rfl rfl rfl (run_pv rfl) ?_
                      refine ops_nil ?_
                      refine nrm_then ?_
                      exact ⟨⟨congrArg Value.bool (by simp only [h1, k2, h2, k4, h3, h5, h6, h7, h8, h9, h10, Bool.true_and, Bool.false_and, Bool.and_true, Bool.and_false, Bool.true_or, Bool.false_or, Bool.or_true, Bool.or_false, Bool.not_true, Bool.not_false]), trivial⟩, rfl, (Eng.St.drop (Eng.St.drop S))⟩
                  · have p9 := h9; try simp only [decide_eq_true_eq, decide_eq_false_iff_not, Bool.and_eq_true, Bool.or_eq_true, Bool.not_eq_true', Bool.or_eq_false_iff, Bool.not_eq_false', Int.not_lt, Int.not_le, gt_iff_lt, ge_iff_le, Decidable.not_not] at p9
                    refine ops_skip 111 rfl rfl rfl ?_
                    refine ops_skip 112 rfl rfl rfl ?_
                    refine ops_skip 113 rfl rfl rfl ?_
                    refine ops_skip 114 rfl rfl rfl ?_
                    refine ops_skip 115 rfl rfl rfl ?_
                    refine ops_skip 116 rfl rfl rfl ?_
                    refine ops_skip 117 rfl rfl rfl ?_
                    refine ops_skip 118 rfl rfl rfl ?_
                    refine ops_skip 119 rfl rfl rfl ?_
                    refine ops_val 120 (.bool false) rfl rfl rfl rfl (run_pv rfl) ?_
                    refine ops_val 121 (.bool false) rfl rfl rfl rfl (run_pv rfl) ?_
                    refine ops_skip 122 rfl rfl rfl ?_
                    refine ops_skip 123 rfl rfl rfl ?_
                    refine ops_skip 124 rfl rfl rfl ?_
                    refine ops_skip 125 rfl rfl rfl ?_
                    refine ops_skip 126 rfl rfl rfl ?_
                    refine ops_skip 127 rfl rfl rfl ?_
                    refine ops_skip 128 rfl rfl rfl ?_
                    refine ops_skip 129 rfl rfl rfl ?_
                    refine ops_skip 130 rfl rfl rfl ?_
                    refine ops_skip 131 rfl rfl rfl ?_
                    refine ops_skip 132 rfl rfl rfl ?_
                    refine ops_val 133 (.bool false) rfl rfl rfl rfl (run_pv rfl) ?_
                    refine ops_val 12 (.bool false) rfl rfl rfl rfl (run_pv rfl) ?_
                    refine ops_nil ?_
                    refine nrm_then ?_
                    exact ⟨⟨congrArg Value.bool (by simp only [h1, k2, h2, k4, h3, h5, h6, h7, h8, h9, Bool.true_and, Bool.false_and, Bool.and_true, Bool.and_false, Bool.true_or, Bool.false_or, Bool.or_true, Bool.or_false, Bool.not_true, Bool.not_false]), trivial⟩, rfl, S⟩
                · have p8 := h8; try simp only [decide_eq_true_eq, decide_eq_false_iff_not, Bool.and_eq_true, Bool.or_eq_true, Bool.not_eq_true', Bool.or_eq_false_iff, Bool.not_eq_false', Int.not_lt, Int.not_le, gt_iff_lt, ge_iff_le, Decidable.not_not] at p8
                  refine ops_skip 106 rfl rfl rfl ?_
                  refine ops_skip 107 rfl rfl rfl ?_
                  refine ops_skip 108 rfl rfl rfl ?_
                  refine ops_val 109 (.bool false) rfl rfl rfl rfl (run_pv rfl) ?_
                  refine ops_val 110 (.bool false) rfl rfl rfl rfl (run_pv rfl) ?_
                  refine ops_skip 111 rfl rfl rfl ?_
                  refine ops_skip 112 rfl rfl rfl ?_
                  refine ops_skip 113 rfl rfl rfl ?_
                  refine ops_skip 114 rfl rfl rfl ?_
                  refine ops_skip 115 rfl rfl rfl ?_
                  refine ops_skip 116 rfl rfl rfl ?_
                  refine ops_skip 117 rfl rfl rfl ?_
                  refine ops_skip 118 rfl rfl rfl ?_
                  refine ops_skip 119 rfl rfl rfl ?_
                  refine ops_val 120 (.bool false) rfl rfl rfl rfl (run_pv rfl) ?_
                  refine ops_val 121 (.bool false) rfl rfl rfl rfl (run_pv rfl) ?_
                  refine ops_skip 122 rfl rfl rfl ?_
                  refine ops_skip 123 rfl rfl rfl ?_
                  refine ops_skip 124 rfl rfl rfl ?_
                  refine ops_skip 125 rfl rfl rfl ?_
                  refine ops_skip 126 rfl rfl rfl ?_
                  refine ops_skip 127 rfl rfl rfl ?_
                  refine ops_skip 128 rfl rfl rfl ?_
                  refine ops_skip 129 rfl rfl rfl ?_
                  refine ops_skip 130 rfl rfl rfl ?_
                  refine ops_skip 131 rfl rfl rfl ?_
                  refine ops_skip 132 rfl rfl rfl ?_
                  refine ops_val 133 (.bool false) rfl rfl rfl rfl (run_pv rfl) ?_
                  refine ops_val 12 (.bool false) rfl rfl rfl rfl (run_pv rfl) ?_
                  refine ops_nil ?_
                  refine nrm_then ?_
                  exact ⟨⟨congrArg Value.bool (by simp only [h1, k2, h2, k4, h3, h5, h6, h7, h8, Bool.true_and, Bool.false_and, Bool.and_true, Bool.and_false, Bool.true_or, Bool.false_or, Bool.or_true, Bool.or_false, Bool.not_true, Bool.not_false]), trivial⟩, rfl, S⟩
              · have p7 := h7; try simp only [decide_eq_true_eq, decide_eq_false_iff_not, Bool.and_eq_true, Bool.or_eq_true, Bool.not_eq_true', Bool.or_eq_false_iff, Bool.not_eq_false', Int.not_lt, Int.not_le, gt_iff_lt, ge_iff_le, Decidable.not_not] at p7
                refine ops_skip 101 rfl rfl rfl ?_
                refine ops_skip 102 rfl rfl rfl ?_
                refine ops_skip 103 rfl rfl rfl ?_
                refine ops_val 104 (.bool false) rfl rfl rfl rfl (run_pv rfl) ?_
                refine ops_val 105 (.bool false) rfl rfl rfl rfl (run_pv rfl) ?_
                refine ops_skip 106 rfl rfl rfl ?_
                refine ops_skip 107 rfl rfl rfl ?_
                refine ops_skip 108 rfl rfl rfl ?_
                refine ops_val 109 (.bool false) rfl rfl rfl rfl (run_pv rfl) ?_
                refine ops_val 110 (.bool false) rfl rfl rfl rfl (run_pv rfl) ?_
                refine ops_skip 111 rfl rfl rfl ?_
                refine ops_skip 112 rfl rfl rfl ?_
                refine ops_skip 113 rfl rfl rfl ?_
                refine ops_skip 114 rfl rfl rfl ?_
                refine ops_skip 115 rfl rfl rfl ?_
                refine ops_skip 116 rfl rfl rfl ?_
                refine ops_skip 117 rfl rfl rfl ?_
                refine ops_skip 118 rfl rfl rfl ?_
                refine ops_skip 119 rfl rfl rfl ?_
                refine ops_val 120 (.bool false) rfl rfl rfl rfl (run_pv rfl) ?_
                refine ops_val 121 (.bool false) rfl rfl rfl rfl (run_pv rfl) ?_
                refine ops_skip 122 rfl rfl rfl ?_
                refine ops_skip 123 rfl rfl rfl ?_
                refine ops_skip 124 rfl rfl rfl ?_
                refine ops_skip 125 rfl rfl rfl ?_
                refine ops_skip 126 rfl rfl rfl ?_
                refine ops_skip 127 rfl rfl rfl ?_
                refine ops_skip 128 rfl rfl rfl ?_
                refine ops_skip 129 rfl rfl rfl ?_
                refine ops_skip 130 rfl rfl rfl ?_
                refine ops_skip 131 rfl rfl rfl ?_
                refine ops_skip 132 rfl rfl rfl ?_
                refine ops_val 133 (.bool false) rfl rfl rfl rfl (run_pv rfl) ?_
                refine ops_val 12 (.bool false) rfl rfl rfl rfl (run_pv rfl) ?_
                refine ops_nil ?_
                refine nrm_then ?_
                exact ⟨⟨congrArg Value.bool (by simp only [h1, k2, h2, k4, h3, h5, h6, h7, Bool.true_and, Bool.false_and, Bool.and_true, Bool.and_false, Bool.true_or, Bool.false_or, Bool.or_true, Bool.or_false, Bool.not_true, Bool.not_false]), trivial⟩, rfl, S⟩
            · have p6 := h6; try simp only [decide_eq_true_eq, decide_eq_false_iff_not, Bool.and_eq_true, Bool.or_eq_true, Bool.not_eq_true', Bool.or_eq_false_iff, Bool.not_eq_false', Int.not_lt, Int.not_le, gt_iff_lt, ge_iff_le, Decidable.not_not] at p6
              refine ops_skip 96 rfl rfl rfl ?_
              refine ops_skip 97 rfl rfl rfl ?_
              refine ops_skip 98 rfl rfl rfl ?_
              refine ops_val 99 (.bool false) rfl rfl rfl rfl (run_pv rfl) ?_
              refine ops_val 100 (.bool false) rfl rfl rfl rfl (run_pv rfl) ?_
              refine ops_skip 101 rfl rfl rfl ?_
              refine ops_skip 102 rfl rfl rfl ?_
              refine ops_skip 103 rfl rfl rfl ?_
              refine ops_val 104 (.bool false) rfl rfl rfl rfl (run_pv rfl) ?_
              refine ops_val 105 (.bool false) rfl rfl rfl rfl (run_pv rfl) ?_
              refine ops_skip 106 rfl rfl rfl ?_
              refine ops_skip 107 rfl rfl rfl ?_
              refine ops_skip 108 rfl rfl rfl ?_
              refine ops_val 109 (.bool false) rfl rfl rfl rfl (run_pv rfl) ?_
              refine ops_val 110 (.bool false) rfl rfl rfl rfl (run_pv rfl) ?_
              refine ops_skip 111 rfl rfl rfl ?_
              refine ops_skip 112 rfl rfl rfl ?_
              refine ops_skip 113 rfl rfl rfl ?_
              refine ops_skip 114 rfl rfl rfl ?_
              refine ops_skip 115 rfl rfl rfl ?_
              refine ops_skip 116 rfl rfl rfl ?_
              refine ops_skip 117 rfl rfl rfl ?_
              refine ops_skip 118 rfl rfl rfl ?_
              refine ops_skip 119 rfl rfl rfl ?_
              refine ops_val 120 (.bool false) rfl rfl rfl rfl (run_pv rfl) ?_
              refine ops_val 121 (.bool false) rfl rfl rfl rfl (run_pv rfl) ?_
              refine ops_skip 122 rfl rfl rfl ?_
              refine ops_skip 123 rfl rfl rfl ?_
              refine ops_skip 124 rfl rfl rfl ?_
              refine ops_skip 125 rfl rfl rfl ?_
              refine ops_skip 126 rfl rfl rfl ?_
              refine ops_skip 127 rfl rfl rfl ?_
              refine ops_skip 128 rfl rfl rfl ?_
              refine ops_skip 129 rfl rfl rfl ?_
              refine ops_skip 130 rfl rfl rfl ?_
              refine ops_skip 131 rfl rfl rfl ?_
              refine ops_skip 132 rfl rfl rfl ?_
              refine ops_val 133 (.bool false) rfl rfl rfl rfl (run_pv rfl) ?_
              refine ops_val 12 (.bool false) rfl rfl rfl rfl (run_pv rfl) ?_
              refine ops_nil ?_
              refine nrm_then ?_
              exact ⟨⟨congrArg Value.bool (by simp only [h1, k2, h2, k4, h3, h5, h6, Bool.true_and, Bool.false_and, Bool.and_true, Bool.and_false, Bool.true_or, Bool.false_or, Bool.or_true, Bool.or_false, Bool.not_true, Bool.not_false]), trivial⟩, rfl, S⟩
          · have p5 := h5; try simp only [decide_eq_true_eq, decide_eq_false_iff_not, Bool.and_eq_true, Bool.or_eq_true, Bool.not_eq_true', Bool.or_eq_false_iff, Bool.not_eq_false', Int.not_lt, Int.not_le, gt_iff_lt, ge_iff_le, Decidable.not_not] at p5
            refine ops_skip 91 rfl rfl rfl ?_
            refine ops_skip 92 rfl rfl rfl ?_
            refine ops_skip 93 rfl rfl rfl ?_
            refine ops_val 94 (.bool false) rfl rfl rfl rfl (run_pv rfl) ?_
            refine ops_val 95 (.bool false) rfl rfl rfl rfl (run_pv rfl) ?_
            refine ops_skip 96 rfl rfl rfl ?_
            refine ops_skip 97 rfl rfl rfl ?_
            refine ops_skip 98 rfl rfl rfl ?_
            refine ops_val 99 (.bool false) rfl rfl rfl rfl (run_pv rfl) ?_
            refine ops_val 100 (.bool false) rfl rfl rfl rfl (run_pv rfl) ?_
            refine ops_skip 101 rfl rfl rfl ?_
            refine ops_skip 102 rfl rfl rfl ?_
            refine ops_skip 103 rfl rfl rfl ?_
            refine ops_val 104 (.bool false) rfl rfl rfl rfl (run_pv rfl) ?_
            refine ops_val 105 (.bool false) rfl rfl rfl rfl (run_pv rfl) ?_
            refine ops_skip 106 rfl rfl rfl ?_
            refine ops_skip 107 rfl rfl rfl ?_
            refine ops_skip 108 rfl rfl rfl ?_
            refine ops_val 109 (.bool false) rfl rfl rfl rfl (run_pv rfl) ?_
            refine ops_val 110 (.bool false) rfl rfl rfl rfl (run_pv rfl) ?_
            refine ops_skip 111 rfl rfl rfl ?_
            refine ops_skip 112 rfl rfl rfl ?_
            refine ops_skip 113 rfl rfl rfl ?_
            refine ops_skip 114 rfl rfl rfl ?_
            refine ops_skip 115 rfl rfl rfl ?_
            refine ops_skip 116 rfl rfl rfl ?_
            refine ops_skip 117 rfl rfl rfl ?_
            refine ops_skip 118 rfl rfl rfl ?_
            refine ops_skip 119 rfl rfl rfl ?_
            refine ops_val 120 (.bool false) rfl rfl rfl rfl (run_pv rfl) ?_
            refine ops_val 121 (.bool false) rfl rfl rfl rfl (run_pv rfl) ?_
            refine ops_skip 122 rfl rfl rfl ?_
            refine ops_skip 123 rfl rfl rfl ?_
            refine ops_skip 124 rfl rfl rfl ?_
            refine ops_skip 125 rfl rfl rfl ?_
            refine ops_skip 126 rfl rfl rfl ?_
            refine ops_skip 127 rfl rfl rfl ?_
            refine ops_skip 128 rfl rfl rfl ?_
            refine ops_skip 129 rfl rfl rfl ?_
            refine ops_skip 130 rfl rfl rfl ?_
            refine ops_skip 131 rfl rfl rfl ?_
            refine ops_skip 132 rfl rfl rfl ?_
            refine ops_val 133 (.bool false) rfl rfl rfl rfl (run_pv rfl) ?_
            refine ops_val 12 (.bool false) rfl rfl rfl rfl (run_pv rfl) ?_
            refine ops_nil ?_
            refine nrm_then ?_
            exact ⟨⟨congrArg Value.bool (by simp only [h1, k2, h2, k4, h3, h5, Bool.true_and, Bool.false_and, Bool.and_true, Bool.and_false, Bool.true_or, Bool.false_or, Bool.or_true, Bool.or_false, Bool.not_true, Bool.not_false]), trivial⟩, rfl, S⟩
        · clear S; intro ρ0 w21 S
          refine nrm_then ?_
          refine w_ret ?_
          refine fin1 (v := .bool ((((((((rightB base) == (rrightB base)) && (decide ((putOf base f).2 = (rputOf base f).2))) && (decide ((putOf base f).1 = (rputOf base f).1))) && (decide ((atOf base key day a).1 = (ratOf base key day a).1))) && ((atOf base key day a).2 == (ratOf base key day a).2)) && (decide ((histOf base key a) = (rhistOf base key a)))) && (decide ((corOf base key a b) = (rcorOf base key a b))))) rfl S rfl ?_
          simp only [rkeys_eq, rright_eq, rput_eq, rat_eq, rhist_eq, rcor_eq, decide_true, beq_self_eq_true, Bool.and_true, Bool.true_and, Bool.and_self]
end
