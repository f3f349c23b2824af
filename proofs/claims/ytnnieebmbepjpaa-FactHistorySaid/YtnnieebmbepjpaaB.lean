/- walks, second part -/
import Derived.Test.YtnnieebmbepjpaaA
import Derived.Test.YtnnieebmbepjpaaShelf
set_option linter.all false
namespace Go.Proofs.Ytnnieebmbepjpaa
open Go Go.Eng
section
structure Stay where
  from_ : Int
  to : Int
  deriving Inhabited, DecidableEq
def encStay (s : Stay) : List Value := [i64 s.from_, i64 s.to]
abbrev aggStay (s : Stay) : Value := .agg #[i64 s.from_, i64 s.to]
theorem eqsFact (a b : Fact) : eqVs [str a.key, i64 a.value, i64 a.from_, i64 a.until_, i64 a.known] [str b.key, i64 b.value, i64 b.from_, i64 b.until_, i64 b.known] = decide (a = b) := by
  cases a; cases b; simp [eqVs, eqV]
theorem eqsStay (a b : Stay) : eqVs [i64 a.from_, i64 a.to] [i64 b.from_, i64 b.to] = decide (a = b) := by
  cases a; cases b; simp [eqVs, eqV]
section
variable {α : Type} [DecidableEq α] [Inhabited α] {a b : List α}
theorem list_ne_len (h : ¬ (a.length : Int) = b.length) : decide (a = b) = false := decide_eq_false fun e => h (by rw [e])
theorem list_ne_at (k : Nat) (h : ¬ a.getD k default = b.getD k default) : decide (a = b) = false := decide_eq_false fun e => h (by rw [e])
theorem list_eq_all {k : Nat} (hl : (a.length : Int) = b.length) (hk : a.length ≤ k) (h : ∀ j, j < k → a.getD j default = b.getD j default) : decide (a = b) = true := decide_eq_true (List.ext_getElem (by omega) fun i h1 h2 => by
  have := h i (by omega)
  simpa [List.getD_eq_getElem?_getD, h1, h2] using this)
theorem compact_len [BEq α] (l : List α) : (Lib.compact l).length ≤ l.length := by
  unfold Lib.compact Lib.compactUpTo
  rw [List.length_map]
  exact Nat.le_trans (List.length_filter_le _ _) (by rw [List.length_range]; exact Nat.le_refl _)
end
theorem right_len (base : List Fact) (h : rightB base = true) : base.length ≤ 5000 := by
  simp only [rightB, Bool.and_eq_true, decide_eq_true_eq] at h; omega
def putOf (base : List Fact) (f : Fact) : List Fact × Int :=
  if (!rightB base || !validB f) then ([], 1)
  else if (decide ((base.length : Int) > 0) && decide (f.known < (base.getD ((base.length : Int) - 1).toNat default).known)) then ([], 20)
  else if (decide ((base.length : Int) = 5000)) then ([], 6) else (base ++ [f], 0)
def rputOf (base : List Fact) (f : Fact) : List Fact × Int :=
  if (!rrightB base || !rvalidB f) then ([], 1)
  else if (decide ((base.length : Int) > 0) && decide (f.known < (base.getD (max ((base.length : Int) - 1) 0).toNat default).known)) then ([], 20)
  else if (decide ((base.length : Int) ≥ 5000)) then ([], 6) else (base ++ [f], 0)
def daysTo (base : List Fact) (key : List UInt8) : Nat → List Int
  | 0 => [0, 1073741825]
  | k + 1 => if decide ((base.getD k default).key = key) = true then daysTo base key k ++ [(base.getD k default).from_, endOf (base.getD k default)] else daysTo base key k
theorem daysTo_len (base : List Fact) (key : List UInt8) : ∀ k, (daysTo base key k).length ≤ 2 + 2 * k
  | 0 => by simp [daysTo]
  | k + 1 => by have := daysTo_len base key k; simp only [daysTo]; rcases Bool.eq_false_or_eq_true (decide ((base.getD k default).key = key)) with h | h <;> simp only [h, if_true, Bool.false_eq_true, if_false, List.length_append, List.length_cons, List.length_nil] <;> omega
def daysOf (base : List Fact) (key : List UInt8) : List Int := Lib.compact ((daysTo base key base.length).mergeSort fun x y => decide (x ≤ y))
theorem fl24 : FlatT Try.prog 24 [.str, .int .i64, .int .i64, .int .i64, .int .i64] := flat_of (by kernel_rfl)
theorem sl37 : IsSliceT Try.prog 37 44 2 := slice_of (by kernel_rfl)
theorem ag44 : AggT Try.prog 44 2 := agg_of (by kernel_rfl)
theorem fl44 : FlatT Try.prog 44 [.int .i64, .int .i64] := flat_of (by kernel_rfl)
theorem sT22 : SliceT Try.prog 22 24 5 48 [str ([]), i64 0, i64 0, i64 0, i64 0] := sliceT_of (z := .agg #[str ([]), i64 0, i64 0, i64 0, i64 0]) Try.underlying22 (by kernel_rfl) rfl rfl rfl
theorem hb26 : hasBody Try.prog 26 := body_of (by kernel_rfl)
theorem sT52 : SliceT Try.prog 52 3 1 8 [i64 0] := sliceT_of (z := i64 0) Try.underlying52 (by kernel_rfl) rfl rfl rfl
theorem hb38 : hasBody Try.prog 38 := body_of (by kernel_rfl)
theorem hb39 : hasBody Try.prog 39 := body_of (by kernel_rfl)
theorem same_is (va : Value) (a : List Fact) (vb : Value) (b : List Fact) (w : World) (ha : Rd w encFact 5 va a) (hb : Rd w encFact 5 vb b) : FnIs Try.prog 17 [va, vb] w (.bool (decide (a = b))) := by
  refine fn_of_wp (N := 26) Try.func17 rfl rfl rfl ?_
  intro S
  have hlen := ha.len
  have hlen2 := hb.len
  refine w_seq ?_
  refine w_region ?_
  refine ops_val 4 (.bool false) rfl rfl rfl rfl (run_pv rfl) ?_
  refine ops_nil ?_
  refine nrm_then ?_
  refine w_seq ?_
  refine w_seq ?_
  refine w_region ?_
  refine ops_val 6 (va) rfl rfl rfl rfl (run_pv rfl) ?_
  refine ops_val 7 (i64 (a.length : Int)) rfl rfl rfl rfl (run_len_rd Try.underlying22 (St.rd S ha) rfl) ?_
  refine ops_val 8 (vb) rfl rfl rfl rfl (run_pv rfl) ?_
  refine ops_val 9 (i64 (b.length : Int)) rfl rfl rfl rfl (run_len_rd Try.underlying22 (St.rd S hb) rfl) ?_
  refine ops_val 10 (.bool (!decide ((a.length : Int) = (b.length : Int)))) rfl rfl rfl rfl (run_pv rfl) ?_
  refine ops_nil ?_
  refine nrm_then ?_
  refine w_cond (!decide ((a.length : Int) = (b.length : Int))) rfl (fun h1 => ?_) (fun h1 => ?_)
  · have p1 := h1; try simp only [decide_eq_true_eq, decide_eq_false_iff_not, Bool.and_eq_true, Bool.or_eq_true, Bool.not_eq_true', Bool.or_eq_false_iff, Bool.not_eq_false', Int.not_lt, Int.not_le, gt_iff_lt, ge_iff_le, Decidable.not_not] at p1
    refine w_seq ?_
    refine w_region ?_
    refine ops_val 4 (.bool false) rfl rfl rfl rfl (run_pv rfl) ?_
    refine ops_nil ?_
    refine nrm_then ?_
    refine w_ret ?_
    refine ret_then ?_
    refine fin1 (v := .bool false) rfl S rfl ?_
    exact congrArg Value.bool (list_ne_len p1).symm
  · have p1 := h1; try simp only [decide_eq_true_eq, decide_eq_false_iff_not, Bool.and_eq_true, Bool.or_eq_true, Bool.not_eq_true', Bool.or_eq_false_iff, Bool.not_eq_false', Int.not_lt, Int.not_le, gt_iff_lt, ge_iff_le, Decidable.not_not] at p1
    refine w_skip ?_
    refine nrm_then ?_
    refine w_seq ?_
    refine w_seq ?_
    refine w_region ?_
    refine ops_val 5 (i64 0) rfl rfl rfl rfl (run_pv rfl) ?_
    refine ops_nil ?_
    refine nrm_then ?_
    refine w_block ?_
    refine w_loop (G := Nat) (fun k => [(0, va), (1, vb), (5, i64 (k : Int))]) (fun k w' => Eng.St w [] w' ∧ (k ≤ a.length ∧ ∀ j, j < k → a.getD j default = b.getD j default)) (fun k => a.length - k) (0) ⟨rfl, rfl, rfl, trivial⟩ ⟨S, Nat.zero_le _, (fun _ h => absurd h (Nat.not_lt_zero _))⟩ ?_
    clear S; rintro k ρ0 w1 ⟨S, hk, hall⟩
    refine w_seq ?_
    refine w_seq ?_
    refine w_region ?_
    refine ops_val 11 (i64 (k : Int)) rfl rfl rfl rfl (run_pv rfl) ?_
    refine ops_val 12 (va) rfl rfl rfl rfl (run_pv rfl) ?_
    refine ops_val 13 (i64 (a.length : Int)) rfl rfl rfl rfl (run_len_rd Try.underlying22 (St.rd S ha) rfl) ?_
    refine ops_val 14 (.bool (decide ((k : Int) < (a.length : Int)))) rfl rfl rfl rfl (run_pv rfl) ?_
    refine ops_nil ?_
    refine nrm_then ?_
    refine w_cond (decide ((k : Int) < (a.length : Int))) rfl (fun h2 => ?_) (fun h2 => ?_)
    · have p2 := h2; try simp only [decide_eq_true_eq, decide_eq_false_iff_not, Bool.and_eq_true, Bool.or_eq_true, Bool.not_eq_true', Bool.or_eq_false_iff, Bool.not_eq_false', Int.not_lt, Int.not_le, gt_iff_lt, ge_iff_le, Decidable.not_not] at p2
      refine w_skip ?_
      refine nrm_then ?_
      refine w_seq ?_
      refine w_block ?_
      refine w_seq ?_
      refine w_draw 1000000 (fun w' => Eng.St w [] w') Try.mixed ?_
      intro w2 hw'; replace S := Eng.St.drew S; rw [← hw'] at S
      clear hw'
      refine any_quiet 0 17 (va) (by kernel_rfl) rfl (by kernel_rfl) (by kernel_rfl) rfl rfl rfl rfl S (fun wq Sq => (run_pv rfl)) ?_
      refine any_quiet 1 18 (i64 (k : Int)) (by kernel_rfl) rfl (by kernel_rfl) (by kernel_rfl) rfl rfl rfl rfl S (fun wq Sq => (run_pv rfl)) ?_
      refine any_quiet 2 19 (.pointer (some ((adr va).add (k * 5)))) (by kernel_rfl) rfl (by kernel_rfl) (by kernel_rfl) rfl rfl rfl rfl S (fun wq Sq => (run_index_rd (i := k) sl22 (St.rd Sq ha) rfl rfl (by omega))) ?_
      refine any_quiet 3 20 (aggFact (a.getD k default)) (by kernel_rfl) rfl (by kernel_rfl) (by kernel_rfl) rfl rfl rfl rfl S (fun wq Sq => (run_load_agg (encFact (a.getD k default)) ag24 rfl rfl (Rd.each (d := default) (St.rd Sq ha) (by omega)))) ?_
      refine any_quiet 4 21 (vb) (by kernel_rfl) rfl (by kernel_rfl) (by kernel_rfl) rfl rfl rfl rfl S (fun wq Sq => (run_pv rfl)) ?_
      refine any_quiet 5 22 (i64 (k : Int)) (by kernel_rfl) rfl (by kernel_rfl) (by kernel_rfl) rfl rfl rfl rfl S (fun wq Sq => (run_pv rfl)) ?_
      refine any_quiet 6 23 (.pointer (some ((adr vb).add (k * 5)))) (by kernel_rfl) rfl (by kernel_rfl) (by kernel_rfl) rfl rfl rfl rfl S (fun wq Sq => (run_index_rd (i := k) sl22 (St.rd Sq hb) rfl rfl (by omega))) ?_
      refine any_quiet 7 24 (aggFact (b.getD k default)) (by kernel_rfl) rfl (by kernel_rfl) (by kernel_rfl) rfl rfl rfl rfl S (fun wq Sq => (run_load_agg (encFact (b.getD k default)) ag24 rfl rfl (Rd.each (d := default) (St.rd Sq hb) (by omega)))) ?_
      refine any_quiet 8 25 (.bool (!(decide ((a.getD k default) = (b.getD k default))))) (by kernel_rfl) rfl (by kernel_rfl) (by kernel_rfl) rfl rfl rfl rfl S (fun wq Sq => (run_neS (a := [str ((a.getD k default).key), i64 ((a.getD k default).value), i64 ((a.getD k default).from_), i64 ((a.getD k default).until_), i64 ((a.getD k default).known)]) (b := [str ((b.getD k default).key), i64 ((b.getD k default).value), i64 ((b.getD k default).from_), i64 ((b.getD k default).until_), i64 ((b.getD k default).known)]) (decide ((a.getD k default) = (b.getD k default))) fl24 rfl rfl rfl rfl (eqsFact (a.getD k default) (b.getD k default)))) ?_
      refine any_done (by kernel_rfl) ?_
      refine nrm_then ?_
      refine w_cond (!(decide ((a.getD k default) = (b.getD k default)))) rfl (fun h3 => ?_) (fun h3 => ?_)
      · have p3 := h3; try simp only [decide_eq_true_eq, decide_eq_false_iff_not, Bool.and_eq_true, Bool.or_eq_true, Bool.not_eq_true', Bool.or_eq_false_iff, Bool.not_eq_false', Int.not_lt, Int.not_le, gt_iff_lt, ge_iff_le, Decidable.not_not] at p3
        refine w_seq ?_
        refine w_region ?_
        refine ops_val 4 (.bool false) rfl rfl rfl rfl (run_pv rfl) ?_
        refine ops_nil ?_
        refine nrm_then ?_
        refine w_ret ?_
        refine ret_blk ?_
        refine ret_then ?_
        refine ret_then ?_
        refine ret_blk ?_
        refine ret_then ?_
        refine fin1 (v := .bool false) rfl S rfl ?_
        exact congrArg Value.bool (list_ne_at k p3).symm
      · have p3 := h3; try simp only [decide_eq_true_eq, decide_eq_false_iff_not, Bool.and_eq_true, Bool.or_eq_true, Bool.not_eq_true', Bool.or_eq_false_iff, Bool.not_eq_false', Int.not_lt, Int.not_le, gt_iff_lt, ge_iff_le, Decidable.not_not] at p3
        refine w_skip ?_
        refine nrm_blk ?_
        refine nrm_then ?_
        refine w_region ?_
        refine ops_val 15 (i64 (k : Int)) rfl rfl rfl rfl (run_pv rfl) ?_
        refine ops_val 16 (i64 ((k : Int) + 1)) rfl rfl rfl rfl (run_wr rfl (by omega) (by omega)) ?_
        refine ops_val 5 (i64 ((k : Int) + 1)) rfl rfl rfl rfl (run_pv rfl) ?_
        refine ops_nil ?_
        refine nrm_then ?_
        exact ⟨rfl, (k + 1), ⟨(by first | rfl | exact congrArg i64 (by omega)), (by first | rfl | exact congrArg i64 (by omega)), (by first | rfl | exact congrArg i64 (by omega)), trivial⟩, ⟨S, by omega, fun j hj => (Nat.lt_succ_iff_lt_or_eq.1 hj).elim (hall j) (fun e => by subst e; assumption)⟩, by omega⟩
    · have p2 := h2; try simp only [decide_eq_true_eq, decide_eq_false_iff_not, Bool.and_eq_true, Bool.or_eq_true, Bool.not_eq_true', Bool.or_eq_false_iff, Bool.not_eq_false', Int.not_lt, Int.not_le, gt_iff_lt, ge_iff_le, Decidable.not_not] at p2
      refine w_exit ?_
      refine exit_then ?_
      refine exit_then ?_
      refine exit_blk ?_
      refine nrm_then ?_
      refine w_seq ?_
      refine w_region ?_
      refine ops_val 4 (.bool true) rfl rfl rfl rfl (run_pv rfl) ?_
      refine ops_nil ?_
      refine nrm_then ?_
      refine w_ret ?_
      refine fin1 (v := .bool true) rfl S rfl ?_
      exact congrArg Value.bool (list_eq_all p1 (by omega) hall).symm
theorem stays_is (va : Value) (a : List Stay) (vb : Value) (b : List Stay) (w : World) (ha : Rd w encStay 2 va a) (hb : Rd w encStay 2 vb b) : FnIs Try.prog 20 [va, vb] w (.bool (decide (a = b))) := by
  refine fn_of_wp (N := 26) Try.func20 rfl rfl rfl ?_
  intro S
  have hlen := ha.len
  have hlen2 := hb.len
  refine w_seq ?_
  refine w_region ?_
  refine ops_val 4 (.bool false) rfl rfl rfl rfl (run_pv rfl) ?_
  refine ops_nil ?_
  refine nrm_then ?_
  refine w_seq ?_
  refine w_seq ?_
  refine w_region ?_
  refine ops_val 6 (va) rfl rfl rfl rfl (run_pv rfl) ?_
  refine ops_val 7 (i64 (a.length : Int)) rfl rfl rfl rfl (run_len_rd Try.underlying37 (St.rd S ha) rfl) ?_
  refine ops_val 8 (vb) rfl rfl rfl rfl (run_pv rfl) ?_
  refine ops_val 9 (i64 (b.length : Int)) rfl rfl rfl rfl (run_len_rd Try.underlying37 (St.rd S hb) rfl) ?_
  refine ops_val 10 (.bool (!decide ((a.length : Int) = (b.length : Int)))) rfl rfl rfl rfl (run_pv rfl) ?_
  refine ops_nil ?_
  refine nrm_then ?_
  refine w_cond (!decide ((a.length : Int) = (b.length : Int))) rfl (fun h1 => ?_) (fun h1 => ?_)
  · have p1 := h1; try simp only [decide_eq_true_eq, decide_eq_false_iff_not, Bool.and_eq_true, Bool.or_eq_true, Bool.not_eq_true', Bool.or_eq_false_iff, Bool.not_eq_false', Int.not_lt, Int.not_le, gt_iff_lt, ge_iff_le, Decidable.not_not] at p1
    refine w_seq ?_
    refine w_region ?_
    refine ops_val 4 (.bool false) rfl rfl rfl rfl (run_pv rfl) ?_
    refine ops_nil ?_
    refine nrm_then ?_
    refine w_ret ?_
    refine ret_then ?_
    refine fin1 (v := .bool false) rfl S rfl ?_
    exact congrArg Value.bool (list_ne_len p1).symm
  · have p1 := h1; try simp only [decide_eq_true_eq, decide_eq_false_iff_not, Bool.and_eq_true, Bool.or_eq_true, Bool.not_eq_true', Bool.or_eq_false_iff, Bool.not_eq_false', Int.not_lt, Int.not_le, gt_iff_lt, ge_iff_le, Decidable.not_not] at p1
    refine w_skip ?_
    refine nrm_then ?_
    refine w_seq ?_
    refine w_seq ?_
    refine w_region ?_
    refine ops_val 5 (i64 0) rfl rfl rfl rfl (run_pv rfl) ?_
    refine ops_nil ?_
    refine nrm_then ?_
    refine w_block ?_
    refine w_loop (G := Nat) (fun k => [(0, va), (1, vb), (5, i64 (k : Int))]) (fun k w' => Eng.St w [] w' ∧ (k ≤ a.length ∧ ∀ j, j < k → a.getD j default = b.getD j default)) (fun k => a.length - k) (0) ⟨rfl, rfl, rfl, trivial⟩ ⟨S, Nat.zero_le _, (fun _ h => absurd h (Nat.not_lt_zero _))⟩ ?_
    clear S; rintro k ρ0 w1 ⟨S, hk, hall⟩
    refine w_seq ?_
    refine w_seq ?_
    refine w_region ?_
    refine ops_val 11 (i64 (k : Int)) rfl rfl rfl rfl (run_pv rfl) ?_
    refine ops_val 12 (va) rfl rfl rfl rfl (run_pv rfl) ?_
    refine ops_val 13 (i64 (a.length : Int)) rfl rfl rfl rfl (run_len_rd Try.underlying37 (St.rd S ha) rfl) ?_
    refine ops_val 14 (.bool (decide ((k : Int) < (a.length : Int)))) rfl rfl rfl rfl (run_pv rfl) ?_
    refine ops_nil ?_
    refine nrm_then ?_
    refine w_cond (decide ((k : Int) < (a.length : Int))) rfl (fun h2 => ?_) (fun h2 => ?_)
    · have p2 := h2; try simp only [decide_eq_true_eq, decide_eq_false_iff_not, Bool.and_eq_true, Bool.or_eq_true, Bool.not_eq_true', Bool.or_eq_false_iff, Bool.not_eq_false', Int.not_lt, Int.not_le, gt_iff_lt, ge_iff_le, Decidable.not_not] at p2
      refine w_skip ?_
      refine nrm_then ?_
      refine w_seq ?_
      refine w_block ?_
      refine w_seq ?_
      refine w_draw 1000000 (fun w' => Eng.St w [] w') Try.mixed ?_
      intro w2 hw'; replace S := Eng.St.drew S; rw [← hw'] at S
      clear hw'
      refine any_quiet 0 17 (va) (by kernel_rfl) rfl (by kernel_rfl) (by kernel_rfl) rfl rfl rfl rfl S (fun wq Sq => (run_pv rfl)) ?_
      refine any_quiet 1 18 (i64 (k : Int)) (by kernel_rfl) rfl (by kernel_rfl) (by kernel_rfl) rfl rfl rfl rfl S (fun wq Sq => (run_pv rfl)) ?_
      refine any_quiet 2 19 (.pointer (some ((adr va).add (k * 2)))) (by kernel_rfl) rfl (by kernel_rfl) (by kernel_rfl) rfl rfl rfl rfl S (fun wq Sq => (run_index_rd (i := k) sl37 (St.rd Sq ha) rfl rfl (by omega))) ?_
      refine any_quiet 3 20 (aggStay (a.getD k default)) (by kernel_rfl) rfl (by kernel_rfl) (by kernel_rfl) rfl rfl rfl rfl S (fun wq Sq => (run_load_agg (encStay (a.getD k default)) ag44 rfl rfl (Rd.each (d := default) (St.rd Sq ha) (by omega)))) ?_
      refine any_quiet 4 21 (vb) (by kernel_rfl) rfl (by kernel_rfl) (by kernel_rfl) rfl rfl rfl rfl S (fun wq Sq => (run_pv rfl)) ?_
      refine any_quiet 5 22 (i64 (k : Int)) (by kernel_rfl) rfl (by kernel_rfl) (by kernel_rfl) rfl rfl rfl rfl S (fun wq Sq => (run_pv rfl)) ?_
      refine any_quiet 6 23 (.pointer (some ((adr vb).add (k * 2)))) (by kernel_rfl) rfl (by kernel_rfl) (by kernel_rfl) rfl rfl rfl rfl S (fun wq Sq => (run_index_rd (i := k) sl37 (St.rd Sq hb) rfl rfl (by omega))) ?_
      refine any_quiet 7 24 (aggStay (b.getD k default)) (by kernel_rfl) rfl (by kernel_rfl) (by kernel_rfl) rfl rfl rfl rfl S (fun wq Sq => (run_load_agg (encStay (b.getD k default)) ag44 rfl rfl (Rd.each (d := default) (St.rd Sq hb) (by omega)))) ?_
      refine any_quiet 8 25 (.bool (!(decide ((a.getD k default) = (b.getD k default))))) (by kernel_rfl) rfl (by kernel_rfl) (by kernel_rfl) rfl rfl rfl rfl S (fun wq Sq => (run_neS (a := [i64 ((a.getD k default).from_), i64 ((a.getD k default).to)]) (b := [i64 ((b.getD k default).from_), i64 ((b.getD k default).to)]) (decide ((a.getD k default) = (b.getD k default))) fl44 rfl rfl rfl rfl (eqsStay (a.getD k default) (b.getD k default)))) ?_
      refine any_done (by kernel_rfl) ?_
      refine nrm_then ?_
      refine w_cond (!(decide ((a.getD k default) = (b.getD k default)))) rfl (fun h3 => ?_) (fun h3 => ?_)
      · have p3 := h3; try simp only [decide_eq_true_eq, decide_eq_false_iff_not, Bool.and_eq_true, Bool.or_eq_true, Bool.not_eq_true', Bool.or_eq_false_iff, Bool.not_eq_false', Int.not_lt, Int.not_le, gt_iff_lt, ge_iff_le, Decidable.not_not] at p3
        refine w_seq ?_
        refine w_region ?_
        refine ops_val 4 (.bool false) rfl rfl rfl rfl (run_pv rfl) ?_
        refine ops_nil ?_
        refine nrm_then ?_
        refine w_ret ?_
        refine ret_blk ?_
        refine ret_then ?_
        refine ret_then ?_
        refine ret_blk ?_
        refine ret_then ?_
        refine fin1 (v := .bool false) rfl S rfl ?_
        exact congrArg Value.bool (list_ne_at k p3).symm
      · have p3 := h3; try simp only [decide_eq_true_eq, decide_eq_false_iff_not, Bool.and_eq_true, Bool.or_eq_true, Bool.not_eq_true', Bool.or_eq_false_iff, Bool.not_eq_false', Int.not_lt, Int.not_le, gt_iff_lt, ge_iff_le, Decidable.not_not] at p3
        refine w_skip ?_
        refine nrm_blk ?_
        refine nrm_then ?_
        refine w_region ?_
        refine ops_val 15 (i64 (k : Int)) rfl rfl rfl rfl (run_pv rfl) ?_
        refine ops_val 16 (i64 ((k : Int) + 1)) rfl rfl rfl rfl (run_wr rfl (by omega) (by omega)) ?_
        refine ops_val 5 (i64 ((k : Int) + 1)) rfl rfl rfl rfl (run_pv rfl) ?_
        refine ops_nil ?_
        refine nrm_then ?_
        exact ⟨rfl, (k + 1), ⟨(by first | rfl | exact congrArg i64 (by omega)), (by first | rfl | exact congrArg i64 (by omega)), (by first | rfl | exact congrArg i64 (by omega)), trivial⟩, ⟨S, by omega, fun j hj => (Nat.lt_succ_iff_lt_or_eq.1 hj).elim (hall j) (fun e => by subst e; assumption)⟩, by omega⟩
    · have p2 := h2; try simp only [decide_eq_true_eq, decide_eq_false_iff_not, Bool.and_eq_true, Bool.or_eq_true, Bool.not_eq_true', Bool.or_eq_false_iff, Bool.not_eq_false', Int.not_lt, Int.not_le, gt_iff_lt, ge_iff_le, Decidable.not_not] at p2
      refine w_exit ?_
      refine exit_then ?_
      refine exit_then ?_
      refine exit_blk ?_
      refine nrm_then ?_
      refine w_seq ?_
      refine w_region ?_
      refine ops_val 4 (.bool true) rfl rfl rfl rfl (run_pv rfl) ?_
      refine ops_nil ?_
      refine nrm_then ?_
      refine w_ret ?_
      refine fin1 (v := .bool true) rfl S rfl ?_
      exact congrArg Value.bool (list_eq_all p1 (by omega) hall).symm
theorem clone_is (vbase : Value) (base : List Fact) (w : World) (hbase : Rd w encFact 5 vbase base) (hsm : base.length ≤ 5000) : FnRow Try.prog 26 [vbase] w 24 5 encFact base := by
  refine fn_of_wp (N := 8) Try.func26 rfl rfl rfl ?_
  intro S
  refine w_seq ?_
  refine w_region ?_
  refine ops_val 2 (.slice none 0 0) rfl rfl rfl rfl (run_pv rfl) ?_
  refine ops_nil ?_
  refine nrm_then ?_
  refine w_seq ?_
  refine w_seq ?_
  refine w_region ?_
  refine ops_val 3 (vbase) rfl rfl rfl rfl (run_pv rfl) ?_
  refine ops_val 4 (.bool (nilB vbase)) rfl rfl rfl rfl (run_nil_rd Try.underlying22 (St.rd S hbase) rfl rfl) ?_
  refine ops_nil ?_
  refine nrm_then ?_
  refine w_cond (nilB vbase) rfl (fun h1 => ?_) (fun h1 => ?_)
  · have p1 := h1; try simp only [decide_eq_true_eq, decide_eq_false_iff_not, Bool.and_eq_true, Bool.or_eq_true, Bool.not_eq_true', Bool.or_eq_false_iff, Bool.not_eq_false', Int.not_lt, Int.not_le, gt_iff_lt, ge_iff_le, Decidable.not_not] at p1
    refine w_seq ?_
    refine w_region ?_
    refine ops_val 2 (.slice none 0 0) rfl rfl rfl rfl (run_pv rfl) ?_
    refine ops_nil ?_
    refine nrm_then ?_
    refine w_ret ?_
    refine ret_then ?_
    replace S := S.nilRow 24 5
    replace S : Eng.St w [.row 24 5 (.slice none 0 0) (([] : List Fact).map encFact)] w := S
    have hres : ([] : List Fact) = base := by exact (Rd.of_nil hbase h1).symm
    rw [hres] at S
    exact fin_row (n := 0) rfl S rfl rfl
  · have p1 := h1; try simp only [decide_eq_true_eq, decide_eq_false_iff_not, Bool.and_eq_true, Bool.or_eq_true, Bool.not_eq_true', Bool.or_eq_false_iff, Bool.not_eq_false', Int.not_lt, Int.not_le, gt_iff_lt, ge_iff_le, Decidable.not_not] at p1
    refine w_skip ?_
    refine nrm_then ?_
    refine w_seq ?_
    refine w_region ?_
    refine ops_buildEmpty sT22 S rfl rfl ?_
    clear S; intro v1 w1 S
    replace S : Eng.St w [.row 24 5 v1 (([] : List Fact).map encFact)] w1 := S
    refine ops_val 6 (vbase) rfl rfl rfl rfl (run_pv rfl) ?_
    refine ops_append sT22 S rfl rfl rfl rfl (St.rd S hbase) (fun _ => rfl) (fun _ => rfl) (by simp only [List.length_map, List.length_cons, List.length_nil, List.length_append]; omega) (by simp only [List.length_map, List.length_cons, List.length_nil, List.length_append]; omega) ?_
    clear S; intro v2 w2 S
    rw [← List.map_append] at S
    replace S : Eng.St w [.row 24 5 v2 ((([] : List Fact) ++ base).map encFact)] w2 := S
    refine ops_val 2 (v2) rfl rfl rfl rfl (run_pv rfl) ?_
    refine ops_nil ?_
    refine nrm_then ?_
    refine w_ret ?_
    have hres : (([] : List Fact) ++ base) = base := by exact List.nil_append _
    rw [hres] at S
    exact fin_row (n := 0) rfl S rfl rfl
theorem put_is (vbase : Value) (base : List Fact) (f : Fact) (w : World) (hbase : Rd w encFact 5 vbase base) : FnRow2 Try.prog 9 [vbase, aggFact f] w 24 5 encFact ((putOf base f).1) (i64 ((putOf base f).2)) := by
  refine fn_of_wp (N := 40) Try.func9 rfl rfl rfl ?_
  intro S
  have hlen := hbase.len
  have hr5 := right_len base
  refine w_seq ?_
  refine w_region ?_
  refine ops_box [str f.key, i64 f.value, i64 f.from_, i64 f.until_, i64 f.known] S rfl rfl rfl ?_
  clear S; intro b1 w1 S
  refine ops_val 4 (.slice none 0 0) rfl rfl rfl rfl (run_pv rfl) ?_
  refine ops_val 5 (i64 0) rfl rfl rfl rfl (run_pv rfl) ?_
  refine ops_nil ?_
  refine nrm_then ?_
  refine w_seq ?_
  refine w_region ?_
  refine ops_val 7 (vbase) rfl rfl rfl rfl (run_pv rfl) ?_
  refine ops_val 8 (i64 (base.length : Int)) rfl rfl rfl rfl (run_len_rd Try.underlying22 (St.rd S hbase) rfl) ?_
  refine ops_val 6 (i64 (base.length : Int)) rfl rfl rfl rfl (run_pv rfl) ?_
  refine ops_nil ?_
  refine nrm_then ?_
  refine w_seq ?_
  refine w_block ?_
  refine w_seq ?_
  refine w_cut [(0, vbase), (3, .pointer (some ⟨b1, 0, none⟩)), (6, i64 (base.length : Int)), (9, .bool ((!(rightB base)) || (!(validB f))))] (fun w' => Eng.St w [.blk b1 [str f.key, i64 f.value, i64 f.from_, i64 f.until_, i64 f.known] 24] w') ?_ ?_
  · refine w_region ?_
    refine ops_val 10 (vbase) rfl rfl rfl rfl (run_pv rfl) ?_
    refine ops_callIs [vbase] (.bool (rightB base)) S rfl rfl hb15 rfl (right_is vbase base _ (St.rd S hbase) ) ?_
    clear S; intro w2 S
    refine ops_val 12 (.bool (!(rightB base))) rfl rfl rfl rfl (run_pv rfl) ?_
    refine ops_val 13 (.bool (!(rightB base))) rfl rfl rfl rfl (run_pv rfl) ?_
    refine ops_case 13 (!(rightB base)) rfl (fun h1 => ?_) (fun h1 => ?_)
    · have p1 := h1; try simp only [decide_eq_true_eq, decide_eq_false_iff_not, Bool.and_eq_true, Bool.or_eq_true, Bool.not_eq_true', Bool.or_eq_false_iff, Bool.not_eq_false', Int.not_lt, Int.not_le, gt_iff_lt, ge_iff_le, Decidable.not_not] at p1
      refine ops_skip 14 rfl rfl rfl ?_
      refine ops_skip 15 rfl rfl rfl ?_
      refine ops_skip 16 rfl rfl rfl ?_
      refine ops_val 17 (.bool true) rfl rfl rfl rfl (run_pv rfl) ?_
      refine ops_val 9 (.bool true) rfl rfl rfl rfl (run_pv rfl) ?_
      refine ops_nil ?_
      refine nrm_then ?_
      exact ⟨⟨rfl, rfl, rfl, congrArg Value.bool (by simp only [h1, Bool.true_and, Bool.false_and, Bool.and_true, Bool.and_false, Bool.true_or, Bool.false_or, Bool.or_true, Bool.or_false, Bool.not_true, Bool.not_false]), trivial⟩, rfl, S⟩
    · have p1 := h1; try simp only [decide_eq_true_eq, decide_eq_false_iff_not, Bool.and_eq_true, Bool.or_eq_true, Bool.not_eq_true', Bool.or_eq_false_iff, Bool.not_eq_false', Int.not_lt, Int.not_le, gt_iff_lt, ge_iff_le, Decidable.not_not] at p1
      refine ops_val 14 (aggFact f) rfl rfl rfl rfl (run_load_agg [str f.key, i64 f.value, i64 f.from_, i64 f.until_, i64 f.known] ag24 rfl rfl (blk_each S (n := 0) rfl 0 rfl)) ?_
      refine ops_callIs [aggFact f] (.bool (validB f)) S rfl rfl hb25 rfl (valid_is f _  ) ?_
      clear S; intro w3 S
      refine ops_val 16 (.bool (!(validB f))) rfl rfl rfl rfl (run_pv rfl) ?_
      refine ops_val 17 (.bool (!(validB f))) rfl rfl rfl rfl (run_pv rfl) ?_
      refine ops_val 9 (.bool (!(validB f))) rfl rfl rfl rfl (run_pv rfl) ?_
      refine ops_nil ?_
      refine nrm_then ?_
      exact ⟨⟨rfl, rfl, rfl, congrArg Value.bool (by simp only [h1, Bool.true_and, Bool.false_and, Bool.and_true, Bool.and_false, Bool.true_or, Bool.false_or, Bool.or_true, Bool.or_false, Bool.not_true, Bool.not_false]), trivial⟩, rfl, S⟩
  · clear S; intro ρ0 w4 S
    refine nrm_then ?_
    refine w_cond ((!(rightB base)) || (!(validB f))) rfl (fun h2 => ?_) (fun h2 => ?_)
    · have p2 := h2; try simp only [decide_eq_true_eq, decide_eq_false_iff_not, Bool.and_eq_true, Bool.or_eq_true, Bool.not_eq_true', Bool.or_eq_false_iff, Bool.not_eq_false', Int.not_lt, Int.not_le, gt_iff_lt, ge_iff_le, Decidable.not_not] at p2
      refine w_seq ?_
      refine w_region ?_
      refine ops_val 4 (.slice none 0 0) rfl rfl rfl rfl (run_pv rfl) ?_
      refine ops_val 5 (i64 1) rfl rfl rfl rfl (run_pv rfl) ?_
      refine ops_nil ?_
      refine nrm_then ?_
      refine w_ret ?_
      refine ret_blk ?_
      refine ret_then ?_
      replace S := S.nilRow 24 5
      replace S : Eng.St w [.row 24 5 (.slice none 0 0) (([] : List Fact).map encFact), .blk b1 [str f.key, i64 f.value, i64 f.from_, i64 f.until_, i64 f.known] 24] w4 := S
      have hres : ([] : List Fact) = (putOf base f).1 := by simp only [putOf, h2, if_true, if_false, Bool.false_eq_true, reduceIte]
      rw [hres] at S
      have hres2 : i64 1 = i64 ((putOf base f).2) := by exact congrArg i64 (by simp only [putOf, h2, if_true, if_false, Bool.false_eq_true, reduceIte])
      exact fin_row2 (n := 0) rfl S rfl hres2 rfl
    · have p2 := h2; try simp only [decide_eq_true_eq, decide_eq_false_iff_not, Bool.and_eq_true, Bool.or_eq_true, Bool.not_eq_true', Bool.or_eq_false_iff, Bool.not_eq_false', Int.not_lt, Int.not_le, gt_iff_lt, ge_iff_le, Decidable.not_not] at p2
      refine w_seq ?_
      refine w_cut [(0, vbase), (3, .pointer (some ⟨b1, 0, none⟩)), (6, i64 (base.length : Int)), (18, .bool ((decide ((base.length : Int) > 0)) && (decide (f.known < (base.getD ((base.length : Int) - 1).toNat default).known))))] (fun w' => Eng.St w [.blk b1 [str f.key, i64 f.value, i64 f.from_, i64 f.until_, i64 f.known] 24] w') ?_ ?_
      · refine w_draw 1000000 (fun w' => Eng.St w [.blk b1 [str f.key, i64 f.value, i64 f.from_, i64 f.until_, i64 f.known] 24] w') Try.mixed ?_
        intro w5 hw'; replace S := Eng.St.drew S; rw [← hw'] at S
        clear hw'
        refine any_quiet 0 19 (i64 (base.length : Int)) (by kernel_rfl) rfl (by kernel_rfl) (by kernel_rfl) rfl rfl rfl rfl S (fun wq Sq => (run_pv rfl)) ?_
        refine any_quiet 1 20 (.bool (decide ((base.length : Int) > 0))) (by kernel_rfl) rfl (by kernel_rfl) (by kernel_rfl) rfl rfl rfl rfl S (fun wq Sq => (run_pv rfl)) ?_
        refine any_quiet 2 21 (.bool (decide ((base.length : Int) > 0))) (by kernel_rfl) rfl (by kernel_rfl) (by kernel_rfl) rfl rfl rfl rfl S (fun wq Sq => (run_pv rfl)) ?_
        refine any_case 21 (decide ((base.length : Int) > 0)) rfl (fun h3 => ?_) (fun h3 => ?_)
        · have p3 := h3; try simp only [decide_eq_true_eq, decide_eq_false_iff_not, Bool.and_eq_true, Bool.or_eq_true, Bool.not_eq_true', Bool.or_eq_false_iff, Bool.not_eq_false', Int.not_lt, Int.not_le, gt_iff_lt, ge_iff_le, Decidable.not_not] at p3
          refine any_quiet 3 22 (.pointer (some ⟨b1, 4, none⟩)) (by kernel_rfl) rfl (by kernel_rfl) (by kernel_rfl) rfl rfl rfl rfl S (fun wq Sq => (run_fieldAddr_blk fd24_4 rfl rfl)) ?_
          refine any_quiet 4 23 (i64 f.known) (by kernel_rfl) rfl (by kernel_rfl) (by kernel_rfl) rfl rfl rfl rfl S (fun wq Sq => (run_load_scal sc3 rfl (St.cell Sq (n := 0) rfl rfl))) ?_
          refine any_quiet 5 24 (vbase) (by kernel_rfl) rfl (by kernel_rfl) (by kernel_rfl) rfl rfl rfl rfl S (fun wq Sq => (run_pv rfl)) ?_
          refine any_quiet 6 25 (i64 (base.length : Int)) (by kernel_rfl) rfl (by kernel_rfl) (by kernel_rfl) rfl rfl rfl rfl S (fun wq Sq => (run_pv rfl)) ?_
          refine any_quiet 7 26 (i64 ((base.length : Int) - 1)) (by kernel_rfl) rfl (by kernel_rfl) (by kernel_rfl) rfl rfl rfl rfl S (fun wq Sq => (run_wr rfl (by omega) (by omega))) ?_
          refine any_quiet 8 27 (.pointer (some ((adr vbase).add (((base.length : Int) - 1).toNat * 5)))) (by kernel_rfl) rfl (by kernel_rfl) (by kernel_rfl) rfl rfl rfl rfl S (fun wq Sq => (run_index_rdI sl22 (St.rd Sq hbase) rfl rfl (by omega) (by omega))) ?_
          refine any_quiet 9 28 (.pointer (some (((adr vbase).add (((base.length : Int) - 1).toNat * 5)).add 4))) (by kernel_rfl) rfl (by kernel_rfl) (by kernel_rfl) rfl rfl rfl rfl S (fun wq Sq => (run_fieldAddr fd24_4 rfl)) ?_
          refine any_quiet 10 29 (i64 ((base.getD ((base.length : Int) - 1).toNat default).known)) (by kernel_rfl) rfl (by kernel_rfl) (by kernel_rfl) rfl rfl rfl rfl S (fun wq Sq => (run_load_scal sc3 rfl (Rd.at' (d := default) (j := 4) (St.rd Sq hbase) (by omega) rfl))) ?_
          refine any_quiet 11 30 (.bool (decide (f.known < (base.getD ((base.length : Int) - 1).toNat default).known))) (by kernel_rfl) rfl (by kernel_rfl) (by kernel_rfl) rfl rfl rfl rfl S (fun wq Sq => (run_pv rfl)) ?_
          refine any_quiet 12 31 (.bool (decide (f.known < (base.getD ((base.length : Int) - 1).toNat default).known))) (by kernel_rfl) rfl (by kernel_rfl) (by kernel_rfl) rfl rfl rfl rfl S (fun wq Sq => (run_pv rfl)) ?_
          refine any_quiet 13 18 (.bool (decide (f.known < (base.getD ((base.length : Int) - 1).toNat default).known))) (by kernel_rfl) rfl (by kernel_rfl) (by kernel_rfl) rfl rfl rfl rfl S (fun wq Sq => (run_pv rfl)) ?_
          refine any_done (by kernel_rfl) ?_
          refine nrm_then ?_
          exact ⟨⟨rfl, rfl, rfl, congrArg Value.bool (by simp only [h2, h3, Bool.true_and, Bool.false_and, Bool.and_true, Bool.and_false, Bool.true_or, Bool.false_or, Bool.or_true, Bool.or_false, Bool.not_true, Bool.not_false]), trivial⟩, rfl, S⟩
        · have p3 := h3; try simp only [decide_eq_true_eq, decide_eq_false_iff_not, Bool.and_eq_true, Bool.or_eq_true, Bool.not_eq_true', Bool.or_eq_false_iff, Bool.not_eq_false', Int.not_lt, Int.not_le, gt_iff_lt, ge_iff_le, Decidable.not_not] at p3
          refine any_pass 3 22 (by kernel_rfl) rfl (by kernel_rfl) rfl rfl rfl rfl (sd_of S) ?_
          refine any_pass 4 23 (by kernel_rfl) rfl (by kernel_rfl) rfl rfl rfl rfl (sd_of S) ?_
          refine any_pass 5 24 (by kernel_rfl) rfl (by kernel_rfl) rfl rfl rfl rfl (sd_of S) ?_
          refine any_pass 6 25 (by kernel_rfl) rfl (by kernel_rfl) rfl rfl rfl rfl (sd_of S) ?_
          refine any_pass 7 26 (by kernel_rfl) rfl (by kernel_rfl) rfl rfl rfl rfl (sd_of S) ?_
          refine any_pass 8 27 (by kernel_rfl) rfl (by kernel_rfl) rfl rfl rfl rfl (sd_of S) ?_
          refine any_pass 9 28 (by kernel_rfl) rfl (by kernel_rfl) rfl rfl rfl rfl (sd_of S) ?_
          refine any_pass 10 29 (by kernel_rfl) rfl (by kernel_rfl) rfl rfl rfl rfl (sd_of S) ?_
          refine any_pass 11 30 (by kernel_rfl) rfl (by kernel_rfl) rfl rfl rfl rfl (sd_of S) ?_
          refine any_quiet 12 31 (.bool false) (by kernel_rfl) rfl (by kernel_rfl) (by kernel_rfl) rfl rfl rfl rfl S (fun wq Sq => (run_pv rfl)) ?_
          refine any_quiet 13 18 (.bool false) (by kernel_rfl) rfl (by kernel_rfl) (by kernel_rfl) rfl rfl rfl rfl S (fun wq Sq => (run_pv rfl)) ?_
          refine any_done (by kernel_rfl) ?_
          refine nrm_then ?_
          exact ⟨⟨rfl, rfl, rfl, congrArg Value.bool (by simp only [h2, h3, Bool.true_and, Bool.false_and, Bool.and_true, Bool.and_false, Bool.true_or, Bool.false_or, Bool.or_true, Bool.or_false, Bool.not_true, Bool.not_false]), trivial⟩, rfl, S⟩
      · clear S; intro ρ0 w6 S
        refine nrm_then ?_
        refine w_cond ((decide ((base.length : Int) > 0)) && (decide (f.known < (base.getD ((base.length : Int) - 1).toNat default).known))) rfl (fun h4 => ?_) (fun h4 => ?_)
        · have p4 := h4; try simp only [decide_eq_true_eq, decide_eq_false_iff_not, Bool.and_eq_true, Bool.or_eq_true, Bool.not_eq_true', Bool.or_eq_false_iff, Bool.not_eq_false', Int.not_lt, Int.not_le, gt_iff_lt, ge_iff_le, Decidable.not_not] at p4
          refine w_seq ?_
          refine w_region ?_
          refine ops_val 4 (.slice none 0 0) rfl rfl rfl rfl (run_pv rfl) ?_
          refine ops_val 5 (i64 20) rfl rfl rfl rfl (run_pv rfl) ?_
          refine ops_nil ?_
          refine nrm_then ?_
          refine w_ret ?_
          refine ret_blk ?_
          refine ret_then ?_
          replace S := S.nilRow 24 5
          replace S : Eng.St w [.row 24 5 (.slice none 0 0) (([] : List Fact).map encFact), .blk b1 [str f.key, i64 f.value, i64 f.from_, i64 f.until_, i64 f.known] 24] w6 := S
          have hres : ([] : List Fact) = (putOf base f).1 := by simp only [putOf, h2, h4, if_true, if_false, Bool.false_eq_true, reduceIte]
          rw [hres] at S
          have hres2 : i64 20 = i64 ((putOf base f).2) := by exact congrArg i64 (by simp only [putOf, h2, h4, if_true, if_false, Bool.false_eq_true, reduceIte])
          exact fin_row2 (n := 0) rfl S rfl hres2 rfl
        · have p4 := h4; try simp only [decide_eq_true_eq, decide_eq_false_iff_not, Bool.and_eq_true, Bool.or_eq_true, Bool.not_eq_true', Bool.or_eq_false_iff, Bool.not_eq_false', Int.not_lt, Int.not_le, gt_iff_lt, ge_iff_le, Decidable.not_not] at p4
          refine w_seq ?_
          refine w_region ?_
          refine ops_val 33 (i64 (base.length : Int)) rfl rfl rfl rfl (run_pv rfl) ?_
          refine ops_val 34 (.bool (decide ((base.length : Int) = 5000))) rfl rfl rfl rfl (run_pv rfl) ?_
          refine ops_val 32 (.bool (decide ((base.length : Int) = 5000))) rfl rfl rfl rfl (run_pv rfl) ?_
          refine ops_nil ?_
          refine nrm_then ?_
          refine w_cond (decide ((base.length : Int) = 5000)) rfl (fun h5 => ?_) (fun h5 => ?_)
          · have p5 := h5; try simp only [decide_eq_true_eq, decide_eq_false_iff_not, Bool.and_eq_true, Bool.or_eq_true, Bool.not_eq_true', Bool.or_eq_false_iff, Bool.not_eq_false', Int.not_lt, Int.not_le, gt_iff_lt, ge_iff_le, Decidable.not_not] at p5
            refine w_seq ?_
            refine w_region ?_
            refine ops_val 4 (.slice none 0 0) rfl rfl rfl rfl (run_pv rfl) ?_
            refine ops_val 5 (i64 6) rfl rfl rfl rfl (run_pv rfl) ?_
            refine ops_nil ?_
            refine nrm_then ?_
            refine w_ret ?_
            refine ret_blk ?_
            refine ret_then ?_
            replace S := S.nilRow 24 5
            replace S : Eng.St w [.row 24 5 (.slice none 0 0) (([] : List Fact).map encFact), .blk b1 [str f.key, i64 f.value, i64 f.from_, i64 f.until_, i64 f.known] 24] w6 := S
            have hres : ([] : List Fact) = (putOf base f).1 := by simp only [putOf, h2, h4, h5, if_true, if_false, Bool.false_eq_true, reduceIte]
            rw [hres] at S
            have hres2 : i64 6 = i64 ((putOf base f).2) := by exact congrArg i64 (by simp only [putOf, h2, h4, h5, if_true, if_false, Bool.false_eq_true, reduceIte])
            exact fin_row2 (n := 0) rfl S rfl hres2 rfl
          · have p5 := h5; try simp only [decide_eq_true_eq, decide_eq_false_iff_not, Bool.and_eq_true, Bool.or_eq_true, Bool.not_eq_true', Bool.or_eq_false_iff, Bool.not_eq_false', Int.not_lt, Int.not_le, gt_iff_lt, ge_iff_le, Decidable.not_not] at p5
            refine w_skip ?_
            refine nrm_blk ?_
            refine nrm_then ?_
            refine w_seq ?_
            refine w_draw 4 (fun w' => Eng.St w [.blk b1 [str f.key, i64 f.value, i64 f.from_, i64 f.until_, i64 f.known] 24] w') Try.mixed ?_
            intro w7 hw'; replace S := Eng.St.drew S; rw [← hw'] at S
            clear hw'
            refine any_quiet 0 35 (vbase) (by kernel_rfl) rfl (by kernel_rfl) (by kernel_rfl) rfl rfl rfl rfl S (fun wq Sq => (run_pv rfl)) ?_
            refine any_quiet 2 37 (aggFact f) (by kernel_rfl) rfl (by kernel_rfl) (by kernel_rfl) rfl rfl rfl rfl S (fun wq Sq => (run_load_agg [str f.key, i64 f.value, i64 f.from_, i64 f.until_, i64 f.known] ag24 rfl rfl (blk_each Sq (n := 0) rfl 0 rfl))) ?_
            refine any_loud2 1 3 (by kernel_rfl) rfl rfl ?_ ?_
            · refine ops_callRow [vbase] S rfl rfl hb26 rfl (clone_is vbase base _ (St.rd S hbase) (by exact hr5 p2.1)) ?_
              clear S; intro v1 w8 S
              replace S : Eng.St w [.row 24 5 v1 (base.map encFact), .blk b1 [str f.key, i64 f.value, i64 f.from_, i64 f.until_, i64 f.known] 24] w8 := S
              refine ops_nil ?_
              refine nrm_then ⟨fun _ => (Eng.St.drop S), ?_⟩
              refine any_loud1 3 (by kernel_rfl) rfl ?_
              refine ops_buildSlice [(0, aggFact f)] [[str f.key, i64 f.value, i64 f.from_, i64 f.until_, i64 f.known]] sT22 S rfl rfl rfl (by kernel_rfl) rfl rfl rfl rfl ?_
              clear S; intro v2 w9 S
              replace S : Eng.St w [.row 24 5 v2 (([f]).map encFact), .row 24 5 v1 (base.map encFact), .blk b1 [str f.key, i64 f.value, i64 f.from_, i64 f.until_, i64 f.known] 24] w9 := S
              refine ops_nil ?_
              refine nrm_then ⟨fun _ => (Eng.St.drop (Eng.St.drop S)), ?_⟩
              refine any_loud1 4 (by kernel_rfl) rfl ?_
              replace S := S.f1
              refine ops_append sT22 S rfl rfl rfl rfl (St.rdRow (n := 1) S rfl) (fun _ => rfl) (fun _ => rfl) (by have := hr5 p2.1; simp only [List.length_map, List.length_cons, List.length_nil, List.length_append]; omega) (by have := hr5 p2.1; simp only [List.length_map, List.length_cons, List.length_nil, List.length_append]; omega) ?_
              clear S; intro v3 w10 S
              rw [← List.map_append] at S
              replace S : Eng.St w [.row 24 5 v3 ((base ++ [f]).map encFact), .row 24 5 v2 (([f]).map encFact), .blk b1 [str f.key, i64 f.value, i64 f.from_, i64 f.until_, i64 f.known] 24] w10 := S
              refine ops_nil ?_
              refine nrm_then ⟨fun h => (by cases h), ?_⟩
              refine any_pure 5 4 (v3) (by kernel_rfl) rfl (by kernel_rfl) rfl rfl rfl rfl (by kernel_rfl) (fun wq => (run_pv rfl)) ?_
              refine any_pure 6 5 (i64 0) (by kernel_rfl) rfl (by kernel_rfl) rfl rfl rfl rfl (by kernel_rfl) (fun wq => (run_pv rfl)) ?_
              refine any_done (by kernel_rfl) ?_
              refine nrm_then ?_
              refine w_ret ?_
              have hres : (base ++ [f]) = (putOf base f).1 := by simp only [putOf, h2, h4, h5, if_true, if_false, Bool.false_eq_true, reduceIte]
              rw [hres] at S
              have hres2 : i64 0 = i64 ((putOf base f).2) := by exact congrArg i64 (by simp only [putOf, h2, h4, h5, if_true, if_false, Bool.false_eq_true, reduceIte])
              exact fin_row2 (n := 0) rfl S rfl hres2 rfl
            · refine ops_buildSlice [(0, aggFact f)] [[str f.key, i64 f.value, i64 f.from_, i64 f.until_, i64 f.known]] sT22 S rfl rfl rfl (by kernel_rfl) rfl rfl rfl rfl ?_
              clear S; intro v4 w11 S
              replace S : Eng.St w [.row 24 5 v4 (([f]).map encFact), .blk b1 [str f.key, i64 f.value, i64 f.from_, i64 f.until_, i64 f.known] 24] w11 := S
              refine ops_nil ?_
              refine nrm_then ⟨fun _ => (Eng.St.drop S), ?_⟩
              refine any_loud1 1 (by kernel_rfl) rfl ?_
              refine ops_callRow [vbase] S rfl rfl hb26 rfl (clone_is vbase base _ (St.rd S hbase) (by exact hr5 p2.1)) ?_
              clear S; intro v5 w12 S
              replace S : Eng.St w [.row 24 5 v5 (base.map encFact), .row 24 5 v4 (([f]).map encFact), .blk b1 [str f.key, i64 f.value, i64 f.from_, i64 f.until_, i64 f.known] 24] w12 := S
              refine ops_nil ?_
              refine nrm_then ⟨fun _ => (Eng.St.drop (Eng.St.drop S)), ?_⟩
              refine any_loud1 4 (by kernel_rfl) rfl ?_
              refine ops_append sT22 S rfl rfl rfl rfl (St.rdRow (n := 1) S rfl) (fun _ => rfl) (fun _ => rfl) (by have := hr5 p2.1; simp only [List.length_map, List.length_cons, List.length_nil, List.length_append]; omega) (by have := hr5 p2.1; simp only [List.length_map, List.length_cons, List.length_nil, List.length_append]; omega) ?_
              clear S; intro v6 w13 S
              rw [← List.map_append] at S
              replace S : Eng.St w [.row 24 5 v6 ((base ++ [f]).map encFact), .row 24 5 v4 (([f]).map encFact), .blk b1 [str f.key, i64 f.value, i64 f.from_, i64 f.until_, i64 f.known] 24] w13 := S
              refine ops_nil ?_
              refine nrm_then ⟨fun h => (by cases h), ?_⟩
              refine any_pure 5 4 (v6) (by kernel_rfl) rfl (by kernel_rfl) rfl rfl rfl rfl (by kernel_rfl) (fun wq => (run_pv rfl)) ?_
              refine any_pure 6 5 (i64 0) (by kernel_rfl) rfl (by kernel_rfl) rfl rfl rfl rfl (by kernel_rfl) (fun wq => (run_pv rfl)) ?_
              refine any_done (by kernel_rfl) ?_
              refine nrm_then ?_
              refine w_ret ?_
              have hres : (base ++ [f]) = (putOf base f).1 := by simp only [putOf, h2, h4, h5, if_true, if_false, Bool.false_eq_true, reduceIte]
              rw [hres] at S
              have hres2 : i64 0 = i64 ((putOf base f).2) := by exact congrArg i64 (by simp only [putOf, h2, h4, h5, if_true, if_false, Bool.false_eq_true, reduceIte])
              exact fin_row2 (n := 0) rfl S rfl hres2 rfl
theorem rput_is (vbase : Value) (base : List Fact) (f : Fact) (w : World) (hbase : Rd w encFact 5 vbase base) : FnRow2 Try.prog 10 [vbase, aggFact f] w 24 5 encFact ((rputOf base f).1) (i64 ((rputOf base f).2)) := by
  refine fn_of_wp (N := 39) Try.func10 rfl rfl rfl ?_
  intro S
  have hlen := hbase.len
  refine w_seq ?_
  refine w_region ?_
  refine ops_box [str f.key, i64 f.value, i64 f.from_, i64 f.until_, i64 f.known] S rfl rfl rfl ?_
  clear S; intro b1 w1 S
  refine ops_val 4 (.slice none 0 0) rfl rfl rfl rfl (run_pv rfl) ?_
  refine ops_val 5 (i64 0) rfl rfl rfl rfl (run_pv rfl) ?_
  refine ops_nil ?_
  refine nrm_then ?_
  refine w_seq ?_
  refine w_seq ?_
  refine w_cut [(0, vbase), (3, .pointer (some ⟨b1, 0, none⟩)), (13, .bool ((!(rrightB base)) || (!(rvalidB f))))] (fun w' => Eng.St w [.blk b1 [str f.key, i64 f.value, i64 f.from_, i64 f.until_, i64 f.known] 24] w') ?_ ?_
  · refine w_region ?_
    refine ops_val 6 (vbase) rfl rfl rfl rfl (run_pv rfl) ?_
    refine ops_callIs [vbase] (.bool (rrightB base)) S rfl rfl hb16 rfl (rright_is vbase base _ (St.rd S hbase) ) ?_
    clear S; intro w2 S
    refine ops_val 8 (.bool (!(rrightB base))) rfl rfl rfl rfl (run_pv rfl) ?_
    refine ops_val 9 (.bool (!(rrightB base))) rfl rfl rfl rfl (run_pv rfl) ?_
    refine ops_case 9 (!(rrightB base)) rfl (fun h1 => ?_) (fun h1 => ?_)
    · have p1 := h1; try simp only [decide_eq_true_eq, decide_eq_false_iff_not, Bool.and_eq_true, Bool.or_eq_true, Bool.not_eq_true', Bool.or_eq_false_iff, Bool.not_eq_false', Int.not_lt, Int.not_le, gt_iff_lt, ge_iff_le, Decidable.not_not] at p1
      refine ops_skip 10 rfl rfl rfl ?_
      refine ops_skip 11 rfl rfl rfl ?_
      refine ops_skip 12 rfl rfl rfl ?_
      refine ops_val 13 (.bool true) rfl rfl rfl rfl (run_pv rfl) ?_
      refine ops_nil ?_
      refine nrm_then ?_
      exact ⟨⟨rfl, rfl, congrArg Value.bool (by simp only [h1, Bool.true_and, Bool.false_and, Bool.and_true, Bool.and_false, Bool.true_or, Bool.false_or, Bool.or_true, Bool.or_false, Bool.not_true, Bool.not_false]), trivial⟩, rfl, S⟩
    · have p1 := h1; try simp only [decide_eq_true_eq, decide_eq_false_iff_not, Bool.and_eq_true, Bool.or_eq_true, Bool.not_eq_true', Bool.or_eq_false_iff, Bool.not_eq_false', Int.not_lt, Int.not_le, gt_iff_lt, ge_iff_le, Decidable.not_not] at p1
      refine ops_val 10 (aggFact f) rfl rfl rfl rfl (run_load_agg [str f.key, i64 f.value, i64 f.from_, i64 f.until_, i64 f.known] ag24 rfl rfl (blk_each S (n := 0) rfl 0 rfl)) ?_
      refine ops_callIs [aggFact f] (.bool (rvalidB f)) S rfl rfl hb27 rfl (rvalid_is f _  ) ?_
      clear S; intro w3 S
      refine ops_val 12 (.bool (!(rvalidB f))) rfl rfl rfl rfl (run_pv rfl) ?_
      refine ops_val 13 (.bool (!(rvalidB f))) rfl rfl rfl rfl (run_pv rfl) ?_
      refine ops_nil ?_
      refine nrm_then ?_
      exact ⟨⟨rfl, rfl, congrArg Value.bool (by simp only [h1, Bool.true_and, Bool.false_and, Bool.and_true, Bool.and_false, Bool.true_or, Bool.false_or, Bool.or_true, Bool.or_false, Bool.not_true, Bool.not_false]), trivial⟩, rfl, S⟩
  · clear S; intro ρ0 w4 S
    refine nrm_then ?_
    refine w_cond ((!(rrightB base)) || (!(rvalidB f))) rfl (fun h2 => ?_) (fun h2 => ?_)
    · have p2 := h2; try simp only [decide_eq_true_eq, decide_eq_false_iff_not, Bool.and_eq_true, Bool.or_eq_true, Bool.not_eq_true', Bool.or_eq_false_iff, Bool.not_eq_false', Int.not_lt, Int.not_le, gt_iff_lt, ge_iff_le, Decidable.not_not] at p2
      refine w_seq ?_
      refine w_region ?_
      refine ops_val 4 (.slice none 0 0) rfl rfl rfl rfl (run_pv rfl) ?_
      refine ops_val 5 (i64 1) rfl rfl rfl rfl (run_pv rfl) ?_
      refine ops_nil ?_
      refine nrm_then ?_
      refine w_ret ?_
      refine ret_then ?_
      replace S := S.nilRow 24 5
      replace S : Eng.St w [.row 24 5 (.slice none 0 0) (([] : List Fact).map encFact), .blk b1 [str f.key, i64 f.value, i64 f.from_, i64 f.until_, i64 f.known] 24] w4 := S
      have hres : ([] : List Fact) = (rputOf base f).1 := by simp only [List.nil_append, rputOf, h2, if_true, if_false, Bool.false_eq_true, reduceIte]
      rw [hres] at S
      have hres2 : i64 1 = i64 ((rputOf base f).2) := by exact congrArg i64 (by simp only [List.nil_append, rputOf, h2, if_true, if_false, Bool.false_eq_true, reduceIte])
      exact fin_row2 (n := 0) rfl S rfl hres2 rfl
    · have p2 := h2; try simp only [decide_eq_true_eq, decide_eq_false_iff_not, Bool.and_eq_true, Bool.or_eq_true, Bool.not_eq_true', Bool.or_eq_false_iff, Bool.not_eq_false', Int.not_lt, Int.not_le, gt_iff_lt, ge_iff_le, Decidable.not_not] at p2
      refine w_skip ?_
      refine nrm_then ?_
      refine w_seq ?_
      refine w_seq ?_
      refine w_cut [(0, vbase), (3, .pointer (some ⟨b1, 0, none⟩)), (29, .bool ((decide ((base.length : Int) > 0)) && (decide (f.known < (base.getD (max ((base.length : Int) - 1) 0).toNat default).known))))] (fun w' => Eng.St w [.blk b1 [str f.key, i64 f.value, i64 f.from_, i64 f.until_, i64 f.known] 24] w') ?_ ?_
      · refine w_draw 1000000 (fun w' => Eng.St w [.blk b1 [str f.key, i64 f.value, i64 f.from_, i64 f.until_, i64 f.known] 24] w') Try.mixed ?_
        intro w5 hw'; replace S := Eng.St.drew S; rw [← hw'] at S
        clear hw'
        refine any_quiet 0 14 (vbase) (by kernel_rfl) rfl (by kernel_rfl) (by kernel_rfl) rfl rfl rfl rfl S (fun wq Sq => (run_pv rfl)) ?_
        refine any_quiet 1 15 (i64 (base.length : Int)) (by kernel_rfl) rfl (by kernel_rfl) (by kernel_rfl) rfl rfl rfl rfl S (fun wq Sq => (run_len_rd Try.underlying22 (St.rd Sq hbase) rfl)) ?_
        refine any_quiet 2 16 (.bool (decide ((base.length : Int) > 0))) (by kernel_rfl) rfl (by kernel_rfl) (by kernel_rfl) rfl rfl rfl rfl S (fun wq Sq => (run_pv rfl)) ?_
        refine any_quiet 3 17 (.bool (decide ((base.length : Int) > 0))) (by kernel_rfl) rfl (by kernel_rfl) (by kernel_rfl) rfl rfl rfl rfl S (fun wq Sq => (run_pv rfl)) ?_
        refine any_case 17 (decide ((base.length : Int) > 0)) rfl (fun h3 => ?_) (fun h3 => ?_)
        · have p3 := h3; try simp only [decide_eq_true_eq, decide_eq_false_iff_not, Bool.and_eq_true, Bool.or_eq_true, Bool.not_eq_true', Bool.or_eq_false_iff, Bool.not_eq_false', Int.not_lt, Int.not_le, gt_iff_lt, ge_iff_le, Decidable.not_not] at p3
          refine any_quiet 4 18 (.pointer (some ⟨b1, 4, none⟩)) (by kernel_rfl) rfl (by kernel_rfl) (by kernel_rfl) rfl rfl rfl rfl S (fun wq Sq => (run_fieldAddr_blk fd24_4 rfl rfl)) ?_
          refine any_quiet 5 19 (i64 f.known) (by kernel_rfl) rfl (by kernel_rfl) (by kernel_rfl) rfl rfl rfl rfl S (fun wq Sq => (run_load_scal sc3 rfl (St.cell Sq (n := 0) rfl rfl))) ?_
          refine any_quiet 6 20 (vbase) (by kernel_rfl) rfl (by kernel_rfl) (by kernel_rfl) rfl rfl rfl rfl S (fun wq Sq => (run_pv rfl)) ?_
          refine any_quiet 7 21 (vbase) (by kernel_rfl) rfl (by kernel_rfl) (by kernel_rfl) rfl rfl rfl rfl S (fun wq Sq => (run_pv rfl)) ?_
          refine any_quiet 8 22 (i64 (base.length : Int)) (by kernel_rfl) rfl (by kernel_rfl) (by kernel_rfl) rfl rfl rfl rfl S (fun wq Sq => (run_len_rd Try.underlying22 (St.rd Sq hbase) rfl)) ?_
          refine any_quiet 9 23 (i64 ((base.length : Int) - 1)) (by kernel_rfl) rfl (by kernel_rfl) (by kernel_rfl) rfl rfl rfl rfl S (fun wq Sq => (run_wr rfl (by omega) (by omega))) ?_
          refine any_quiet 10 24 (i64 (max ((base.length : Int) - 1) 0)) (by kernel_rfl) rfl (by kernel_rfl) (by kernel_rfl) rfl rfl rfl rfl S (fun wq Sq => (run_max2 rfl rfl)) ?_
          refine any_quiet 11 25 (.pointer (some ((adr vbase).add ((max ((base.length : Int) - 1) 0).toNat * 5)))) (by kernel_rfl) rfl (by kernel_rfl) (by kernel_rfl) rfl rfl rfl rfl S (fun wq Sq => (run_index_rdI sl22 (St.rd Sq hbase) rfl rfl (by omega) (by omega))) ?_
          refine any_quiet 12 26 (.pointer (some (((adr vbase).add ((max ((base.length : Int) - 1) 0).toNat * 5)).add 4))) (by kernel_rfl) rfl (by kernel_rfl) (by kernel_rfl) rfl rfl rfl rfl S (fun wq Sq => (run_fieldAddr fd24_4 rfl)) ?_
          refine any_quiet 13 27 (i64 ((base.getD (max ((base.length : Int) - 1) 0).toNat default).known)) (by kernel_rfl) rfl (by kernel_rfl) (by kernel_rfl) rfl rfl rfl rfl S (fun wq Sq => (run_load_scal sc3 rfl (Rd.at' (d := default) (j := 4) (St.rd Sq hbase) (by omega) rfl))) ?_
          refine any_quiet 14 28 (.bool (decide (f.known < (base.getD (max ((base.length : Int) - 1) 0).toNat default).known))) (by kernel_rfl) rfl (by kernel_rfl) (by kernel_rfl) rfl rfl rfl rfl S (fun wq Sq => (run_pv rfl)) ?_
          refine any_quiet 15 29 (.bool (decide (f.known < (base.getD (max ((base.length : Int) - 1) 0).toNat default).known))) (by kernel_rfl) rfl (by kernel_rfl) (by kernel_rfl) rfl rfl rfl rfl S (fun wq Sq => (run_pv rfl)) ?_
          refine any_done (by kernel_rfl) ?_
          refine nrm_then ?_
          exact ⟨⟨rfl, rfl, congrArg Value.bool (by simp only [h2, h3, Bool.true_and, Bool.false_and, Bool.and_true, Bool.and_false, Bool.true_or, Bool.false_or, Bool.or_true, Bool.or_false, Bool.not_true, Bool.not_false]), trivial⟩, rfl, S⟩
        · have p3 := h3; try simp only [decide_eq_true_eq, decide_eq_false_iff_not, Bool.and_eq_true, Bool.or_eq_true, Bool.not_eq_true', Bool.or_eq_false_iff, Bool.not_eq_false', Int.not_lt, Int.not_le, gt_iff_lt, ge_iff_le, Decidable.not_not] at p3
          refine any_pass 4 18 (by kernel_rfl) rfl (by kernel_rfl) rfl rfl rfl rfl (sd_of S) ?_
          refine any_pass 5 19 (by kernel_rfl) rfl (by kernel_rfl) rfl rfl rfl rfl (sd_of S) ?_
          refine any_pass 6 20 (by kernel_rfl) rfl (by kernel_rfl) rfl rfl rfl rfl (sd_of S) ?_
          refine any_pass 7 21 (by kernel_rfl) rfl (by kernel_rfl) rfl rfl rfl rfl (sd_of S) ?_
          refine any_pass 8 22 (by kernel_rfl) rfl (by kernel_rfl) rfl rfl rfl rfl (sd_of S) ?_
          refine any_pass 9 23 (by kernel_rfl) rfl (by kernel_rfl) rfl rfl rfl rfl (sd_of S) ?_
          refine any_pass 10 24 (by kernel_rfl) rfl (by kernel_rfl) rfl rfl rfl rfl (sd_of S) ?_
          refine any_pass 11 25 (by kernel_rfl) rfl (by kernel_rfl) rfl rfl rfl rfl (sd_of S) ?_
          refine any_pass 12 26 (by kernel_rfl) rfl (by kernel_rfl) rfl rfl rfl rfl (sd_of S) ?_
          refine any_pass 13 27 (by kernel_rfl) rfl (by kernel_rfl) rfl rfl rfl rfl (sd_of S) ?_
          refine any_pass 14 28 (by kernel_rfl) rfl (by kernel_rfl) rfl rfl rfl rfl (sd_of S) ?_
          refine any_quiet 15 29 (.bool false) (by kernel_rfl) rfl (by kernel_rfl) (by kernel_rfl) rfl rfl rfl rfl S (fun wq Sq => (run_pv rfl)) ?_
          refine any_done (by kernel_rfl) ?_
          refine nrm_then ?_
          exact ⟨⟨rfl, rfl, congrArg Value.bool (by simp only [h2, h3, Bool.true_and, Bool.false_and, Bool.and_true, Bool.and_false, Bool.true_or, Bool.false_or, Bool.or_true, Bool.or_false, Bool.not_true, Bool.not_false]), trivial⟩, rfl, S⟩
      · clear S; intro ρ0 w6 S
        refine nrm_then ?_
        refine w_cond ((decide ((base.length : Int) > 0)) && (decide (f.known < (base.getD (max ((base.length : Int) - 1) 0).toNat default).known))) rfl (fun h4 => ?_) (fun h4 => ?_)
        · have p4 := h4; try simp only [decide_eq_true_eq, decide_eq_false_iff_not, Bool.and_eq_true, Bool.or_eq_true, Bool.not_eq_true', Bool.or_eq_false_iff, Bool.not_eq_false', Int.not_lt, Int.not_le, gt_iff_lt, ge_iff_le, Decidable.not_not] at p4
          refine w_seq ?_
          refine w_region ?_
          refine ops_val 4 (.slice none 0 0) rfl rfl rfl rfl (run_pv rfl) ?_
          refine ops_val 5 (i64 20) rfl rfl rfl rfl (run_pv rfl) ?_
          refine ops_nil ?_
          refine nrm_then ?_
          refine w_ret ?_
          refine ret_then ?_
          replace S := S.nilRow 24 5
          replace S : Eng.St w [.row 24 5 (.slice none 0 0) (([] : List Fact).map encFact), .blk b1 [str f.key, i64 f.value, i64 f.from_, i64 f.until_, i64 f.known] 24] w6 := S
          have hres : ([] : List Fact) = (rputOf base f).1 := by simp only [List.nil_append, rputOf, h2, h4, if_true, if_false, Bool.false_eq_true, reduceIte]
          rw [hres] at S
          have hres2 : i64 20 = i64 ((rputOf base f).2) := by exact congrArg i64 (by simp only [List.nil_append, rputOf, h2, h4, if_true, if_false, Bool.false_eq_true, reduceIte])
          exact fin_row2 (n := 0) rfl S rfl hres2 rfl
        · have p4 := h4; try simp only [decide_eq_true_eq, decide_eq_false_iff_not, Bool.and_eq_true, Bool.or_eq_true, Bool.not_eq_true', Bool.or_eq_false_iff, Bool.not_eq_false', Int.not_lt, Int.not_le, gt_iff_lt, ge_iff_le, Decidable.not_not] at p4
          refine w_skip ?_
          refine nrm_then ?_
          refine w_seq ?_
          refine w_seq ?_
          refine w_region ?_
          refine ops_val 30 (vbase) rfl rfl rfl rfl (run_pv rfl) ?_
          refine ops_val 31 (i64 (base.length : Int)) rfl rfl rfl rfl (run_len_rd Try.underlying22 (St.rd S hbase) rfl) ?_
          refine ops_val 32 (.bool (decide ((base.length : Int) ≥ 5000))) rfl rfl rfl rfl (run_pv rfl) ?_
          refine ops_nil ?_
          refine nrm_then ?_
          refine w_cond (decide ((base.length : Int) ≥ 5000)) rfl (fun h5 => ?_) (fun h5 => ?_)
          · have p5 := h5; try simp only [decide_eq_true_eq, decide_eq_false_iff_not, Bool.and_eq_true, Bool.or_eq_true, Bool.not_eq_true', Bool.or_eq_false_iff, Bool.not_eq_false', Int.not_lt, Int.not_le, gt_iff_lt, ge_iff_le, Decidable.not_not] at p5
            refine w_seq ?_
            refine w_region ?_
            refine ops_val 4 (.slice none 0 0) rfl rfl rfl rfl (run_pv rfl) ?_
            refine ops_val 5 (i64 6) rfl rfl rfl rfl (run_pv rfl) ?_
            refine ops_nil ?_
            refine nrm_then ?_
            refine w_ret ?_
            refine ret_then ?_
            replace S := S.nilRow 24 5
            replace S : Eng.St w [.row 24 5 (.slice none 0 0) (([] : List Fact).map encFact), .blk b1 [str f.key, i64 f.value, i64 f.from_, i64 f.until_, i64 f.known] 24] w6 := S
            have hres : ([] : List Fact) = (rputOf base f).1 := by simp only [List.nil_append, rputOf, h2, h4, h5, if_true, if_false, Bool.false_eq_true, reduceIte]
            rw [hres] at S
            have hres2 : i64 6 = i64 ((rputOf base f).2) := by exact congrArg i64 (by simp only [List.nil_append, rputOf, h2, h4, h5, if_true, if_false, Bool.false_eq_true, reduceIte])
            exact fin_row2 (n := 0) rfl S rfl hres2 rfl
          · have p5 := h5; try simp only [decide_eq_true_eq, decide_eq_false_iff_not, Bool.and_eq_true, Bool.or_eq_true, Bool.not_eq_true', Bool.or_eq_false_iff, Bool.not_eq_false', Int.not_lt, Int.not_le, gt_iff_lt, ge_iff_le, Decidable.not_not] at p5
            refine w_skip ?_
            refine nrm_then ?_
            refine w_seq ?_
            refine w_draw 5 (fun w' => Eng.St w [.blk b1 [str f.key, i64 f.value, i64 f.from_, i64 f.until_, i64 f.known] 24] w') Try.mixed ?_
            intro w7 hw'; replace S := Eng.St.drew S; rw [← hw'] at S
            clear hw'
            refine any_quiet 1 34 (vbase) (by kernel_rfl) rfl (by kernel_rfl) (by kernel_rfl) rfl rfl rfl rfl S (fun wq Sq => (run_pv rfl)) ?_
            refine any_quiet 3 36 (aggFact f) (by kernel_rfl) rfl (by kernel_rfl) (by kernel_rfl) rfl rfl rfl rfl S (fun wq Sq => (run_load_agg [str f.key, i64 f.value, i64 f.from_, i64 f.until_, i64 f.known] ag24 rfl rfl (blk_each Sq (n := 0) rfl 0 rfl))) ?_
            refine any_loud2 0 4 (by kernel_rfl) rfl rfl ?_ ?_
            · refine ops_buildEmpty sT22 S rfl rfl ?_
              clear S; intro v1 w8 S
              replace S : Eng.St w [.row 24 5 v1 (([] : List Fact).map encFact), .blk b1 [str f.key, i64 f.value, i64 f.from_, i64 f.until_, i64 f.known] 24] w8 := S
              refine ops_nil ?_
              refine nrm_then ⟨fun _ => (Eng.St.drop S), ?_⟩
              refine any_loud2 2 4 (by kernel_rfl) rfl rfl ?_ ?_
              · refine ops_append sT22 S rfl rfl rfl rfl (St.rd S hbase) (fun _ => rfl) (fun _ => rfl) (by simp only [List.length_map, List.length_cons, List.length_nil, List.length_append]; omega) (by simp only [List.length_map, List.length_cons, List.length_nil, List.length_append]; omega) ?_
                clear S; intro v2 w9 S
                rw [← List.map_append] at S
                replace S : Eng.St w [.row 24 5 v2 ((([] : List Fact) ++ base).map encFact), .blk b1 [str f.key, i64 f.value, i64 f.from_, i64 f.until_, i64 f.known] 24] w9 := S
                refine ops_nil ?_
                refine nrm_then ⟨fun _ => (Eng.St.drop S), ?_⟩
                refine any_loud1 4 (by kernel_rfl) rfl ?_
                refine ops_buildSlice [(0, aggFact f)] [[str f.key, i64 f.value, i64 f.from_, i64 f.until_, i64 f.known]] sT22 S rfl rfl rfl (by kernel_rfl) rfl rfl rfl rfl ?_
                clear S; intro v3 w10 S
                replace S : Eng.St w [.row 24 5 v3 (([f]).map encFact), .row 24 5 v2 ((([] : List Fact) ++ base).map encFact), .blk b1 [str f.key, i64 f.value, i64 f.from_, i64 f.until_, i64 f.known] 24] w10 := S
                refine ops_nil ?_
                refine nrm_then ⟨fun _ => (Eng.St.drop (Eng.St.drop S)), ?_⟩
                refine any_loud1 5 (by kernel_rfl) rfl ?_
                replace S := S.f1
                refine ops_append sT22 S rfl rfl rfl rfl (St.rdRow (n := 1) S rfl) (fun _ => rfl) (fun _ => rfl) (by simp only [List.length_map, List.length_cons, List.length_nil, List.length_append]; omega) (by simp only [List.length_map, List.length_cons, List.length_nil, List.length_append]; omega) ?_
                clear S; intro v4 w11 S
                rw [← List.map_append] at S
                replace S : Eng.St w [.row 24 5 v4 (((([] : List Fact) ++ base) ++ [f]).map encFact), .row 24 5 v3 (([f]).map encFact), .blk b1 [str f.key, i64 f.value, i64 f.from_, i64 f.until_, i64 f.known] 24] w11 := S
                refine ops_nil ?_
                refine nrm_then ⟨fun h => (by cases h), ?_⟩
                refine any_pure 6 4 (v4) (by kernel_rfl) rfl (by kernel_rfl) rfl rfl rfl rfl (by kernel_rfl) (fun wq => (run_pv rfl)) ?_
                refine any_pure 7 5 (i64 0) (by kernel_rfl) rfl (by kernel_rfl) rfl rfl rfl rfl (by kernel_rfl) (fun wq => (run_pv rfl)) ?_
                refine any_done (by kernel_rfl) ?_
                refine nrm_then ?_
                refine w_ret ?_
                have hres : ((([] : List Fact) ++ base) ++ [f]) = (rputOf base f).1 := by simp only [List.nil_append, rputOf, h2, h4, h5, if_true, if_false, Bool.false_eq_true, reduceIte]
                rw [hres] at S
                have hres2 : i64 0 = i64 ((rputOf base f).2) := by exact congrArg i64 (by simp only [List.nil_append, rputOf, h2, h4, h5, if_true, if_false, Bool.false_eq_true, reduceIte])
                exact fin_row2 (n := 0) rfl S rfl hres2 rfl
              · refine ops_buildSlice [(0, aggFact f)] [[str f.key, i64 f.value, i64 f.from_, i64 f.until_, i64 f.known]] sT22 S rfl rfl rfl (by kernel_rfl) rfl rfl rfl rfl ?_
                clear S; intro v5 w12 S
                replace S : Eng.St w [.row 24 5 v5 (([f]).map encFact), .row 24 5 v1 (([] : List Fact).map encFact), .blk b1 [str f.key, i64 f.value, i64 f.from_, i64 f.until_, i64 f.known] 24] w12 := S
                refine ops_nil ?_
                refine nrm_then ⟨fun _ => (Eng.St.drop (Eng.St.drop S)), ?_⟩
                refine any_loud1 2 (by kernel_rfl) rfl ?_
                replace S := S.f1
                refine ops_append sT22 S rfl rfl rfl rfl (St.rd S hbase) (fun _ => rfl) (fun _ => rfl) (by simp only [List.length_map, List.length_cons, List.length_nil, List.length_append]; omega) (by simp only [List.length_map, List.length_cons, List.length_nil, List.length_append]; omega) ?_
                clear S; intro v6 w13 S
                rw [← List.map_append] at S
                replace S : Eng.St w [.row 24 5 v6 ((([] : List Fact) ++ base).map encFact), .row 24 5 v5 (([f]).map encFact), .blk b1 [str f.key, i64 f.value, i64 f.from_, i64 f.until_, i64 f.known] 24] w13 := S
                refine ops_nil ?_
                refine nrm_then ⟨fun _ => (Eng.St.drop (Eng.St.drop S)), ?_⟩
                refine any_loud1 5 (by kernel_rfl) rfl ?_
                refine ops_append sT22 S rfl rfl rfl rfl (St.rdRow (n := 1) S rfl) (fun _ => rfl) (fun _ => rfl) (by simp only [List.length_map, List.length_cons, List.length_nil, List.length_append]; omega) (by simp only [List.length_map, List.length_cons, List.length_nil, List.length_append]; omega) ?_
                clear S; intro v7 w14 S
                rw [← List.map_append] at S
                replace S : Eng.St w [.row 24 5 v7 (((([] : List Fact) ++ base) ++ [f]).map encFact), .row 24 5 v5 (([f]).map encFact), .blk b1 [str f.key, i64 f.value, i64 f.from_, i64 f.until_, i64 f.known] 24] w14 := S
                refine ops_nil ?_
                refine nrm_then ⟨fun h => (by cases h), ?_⟩
                refine any_pure 6 4 (v7) (by kernel_rfl) rfl (by kernel_rfl) rfl rfl rfl rfl (by kernel_rfl) (fun wq => (run_pv rfl)) ?_
                refine any_pure 7 5 (i64 0) (by kernel_rfl) rfl (by kernel_rfl) rfl rfl rfl rfl (by kernel_rfl) (fun wq => (run_pv rfl)) ?_
                refine any_done (by kernel_rfl) ?_
                refine nrm_then ?_
                refine w_ret ?_
                have hres : ((([] : List Fact) ++ base) ++ [f]) = (rputOf base f).1 := by simp only [List.nil_append, rputOf, h2, h4, h5, if_true, if_false, Bool.false_eq_true, reduceIte]
                rw [hres] at S
                have hres2 : i64 0 = i64 ((rputOf base f).2) := by exact congrArg i64 (by simp only [List.nil_append, rputOf, h2, h4, h5, if_true, if_false, Bool.false_eq_true, reduceIte])
                exact fin_row2 (n := 0) rfl S rfl hres2 rfl
            · refine ops_buildSlice [(0, aggFact f)] [[str f.key, i64 f.value, i64 f.from_, i64 f.until_, i64 f.known]] sT22 S rfl rfl rfl (by kernel_rfl) rfl rfl rfl rfl ?_
              clear S; intro v8 w15 S
              replace S : Eng.St w [.row 24 5 v8 (([f]).map encFact), .blk b1 [str f.key, i64 f.value, i64 f.from_, i64 f.until_, i64 f.known] 24] w15 := S
              refine ops_nil ?_
              refine nrm_then ⟨fun _ => (Eng.St.drop S), ?_⟩
              refine any_loud1 0 (by kernel_rfl) rfl ?_
              refine ops_buildEmpty sT22 S rfl rfl ?_
              clear S; intro v9 w16 S
              replace S : Eng.St w [.row 24 5 v9 (([] : List Fact).map encFact), .row 24 5 v8 (([f]).map encFact), .blk b1 [str f.key, i64 f.value, i64 f.from_, i64 f.until_, i64 f.known] 24] w16 := S
              refine ops_nil ?_
              refine nrm_then ⟨fun _ => (Eng.St.drop (Eng.St.drop S)), ?_⟩
              refine any_loud1 2 (by kernel_rfl) rfl ?_
              refine ops_append sT22 S rfl rfl rfl rfl (St.rd S hbase) (fun _ => rfl) (fun _ => rfl) (by simp only [List.length_map, List.length_cons, List.length_nil, List.length_append]; omega) (by simp only [List.length_map, List.length_cons, List.length_nil, List.length_append]; omega) ?_
              clear S; intro v10 w17 S
              rw [← List.map_append] at S
              replace S : Eng.St w [.row 24 5 v10 ((([] : List Fact) ++ base).map encFact), .row 24 5 v8 (([f]).map encFact), .blk b1 [str f.key, i64 f.value, i64 f.from_, i64 f.until_, i64 f.known] 24] w17 := S
              refine ops_nil ?_
              refine nrm_then ⟨fun _ => (Eng.St.drop (Eng.St.drop S)), ?_⟩
              refine any_loud1 5 (by kernel_rfl) rfl ?_
              refine ops_append sT22 S rfl rfl rfl rfl (St.rdRow (n := 1) S rfl) (fun _ => rfl) (fun _ => rfl) (by simp only [List.length_map, List.length_cons, List.length_nil, List.length_append]; omega) (by simp only [List.length_map, List.length_cons, List.length_nil, List.length_append]; omega) ?_
              clear S; intro v11 w18 S
              rw [← List.map_append] at S
              replace S : Eng.St w [.row 24 5 v11 (((([] : List Fact) ++ base) ++ [f]).map encFact), .row 24 5 v8 (([f]).map encFact), .blk b1 [str f.key, i64 f.value, i64 f.from_, i64 f.until_, i64 f.known] 24] w18 := S
              refine ops_nil ?_
              refine nrm_then ⟨fun h => (by cases h), ?_⟩
              refine any_pure 6 4 (v11) (by kernel_rfl) rfl (by kernel_rfl) rfl rfl rfl rfl (by kernel_rfl) (fun wq => (run_pv rfl)) ?_
              refine any_pure 7 5 (i64 0) (by kernel_rfl) rfl (by kernel_rfl) rfl rfl rfl rfl (by kernel_rfl) (fun wq => (run_pv rfl)) ?_
              refine any_done (by kernel_rfl) ?_
              refine nrm_then ?_
              refine w_ret ?_
              have hres : ((([] : List Fact) ++ base) ++ [f]) = (rputOf base f).1 := by simp only [List.nil_append, rputOf, h2, h4, h5, if_true, if_false, Bool.false_eq_true, reduceIte]
              rw [hres] at S
              have hres2 : i64 0 = i64 ((rputOf base f).2) := by exact congrArg i64 (by simp only [List.nil_append, rputOf, h2, h4, h5, if_true, if_false, Bool.false_eq_true, reduceIte])
              exact fin_row2 (n := 0) rfl S rfl hres2 rfl
theorem days_is (vbase : Value) (base : List Fact) (key : List UInt8) (w : World) (hbase : Rd w encFact 5 vbase base) (hsm : base.length ≤ 5000) : FnRow Try.prog 32 [vbase, str key] w 3 1 Eng.encI (daysOf base key) := by
  refine fn_of_wp (N := 31) Try.func32 rfl rfl rfl ?_
  intro S
  have hlen := hbase.len
  refine w_seq ?_
  refine w_region ?_
  refine ops_val 4 (.slice none 0 0) rfl rfl rfl rfl (run_pv rfl) ?_
  refine ops_nil ?_
  refine nrm_then ?_
  refine w_seq ?_
  refine w_region ?_
  refine ops_buildSlice [(0, i64 0), (1, i64 1073741825)] [[i64 0], [i64 1073741825]] sT52 S rfl rfl rfl (by kernel_rfl) rfl rfl rfl rfl ?_
  clear S; intro v1 w1 S
  replace S : Eng.St w [.row 3 1 v1 (([0, 1073741825]).map Eng.encI)] w1 := S
  refine ops_val 5 (v1) rfl rfl rfl rfl (run_pv rfl) ?_
  refine ops_nil ?_
  refine nrm_then ?_
  refine w_seq ?_
  refine w_seq ?_
  refine w_region ?_
  refine ops_val 9 (vbase) rfl rfl rfl rfl (run_pv rfl) ?_
  refine ops_val 10 (i64 (base.length : Int)) rfl rfl rfl rfl (run_len_rd Try.underlying22 (St.rd S hbase) rfl) ?_
  refine ops_val 11 (i64 0) rfl rfl rfl rfl (run_pv rfl) ?_
  refine ops_nil ?_
  refine nrm_then ?_
  refine w_block ?_
  refine w_loop (G := Nat × Value) (fun ⟨k, vd⟩ => [(1, str key), (5, vd), (9, vbase), (10, i64 (base.length : Int)), (11, i64 (k : Int))]) (fun ⟨k, vd⟩ w' => Eng.St w [.row 3 1 vd ((daysTo base key k).map Eng.encI)] w' ∧ (k ≤ base.length)) (fun ⟨k, vd⟩ => base.length - k) (0, v1) ⟨rfl, rfl, rfl, rfl, rfl, trivial⟩ ⟨S, Nat.zero_le _⟩ ?_
  clear S; rintro ⟨k, vd⟩ ρ0 w2 ⟨S, hk⟩
  have hdl := daysTo_len base key k
  refine w_seq ?_
  refine w_region ?_
  refine ops_val 12 (.bool (decide ((k : Int) < (base.length : Int)))) rfl rfl rfl rfl (run_pv rfl) ?_
  refine ops_nil ?_
  refine nrm_then ?_
  refine w_seq ?_
  refine w_cond (decide ((k : Int) < (base.length : Int))) rfl (fun h1 => ?_) (fun h1 => ?_)
  · have p1 := h1; try simp only [decide_eq_true_eq, decide_eq_false_iff_not, Bool.and_eq_true, Bool.or_eq_true, Bool.not_eq_true', Bool.or_eq_false_iff, Bool.not_eq_false', Int.not_lt, Int.not_le, gt_iff_lt, ge_iff_le, Decidable.not_not] at p1
    refine w_skip ?_
    refine nrm_then ?_
    refine w_seq ?_
    refine w_block ?_
    refine w_seq ?_
    refine w_region ?_
    refine ops_val 13 (.pointer (some ((adr vbase).add (k * 5)))) rfl rfl rfl rfl (run_index_rd (i := k) sl22 (St.rd S hbase) rfl rfl (by omega)) ?_
    refine ops_val 14 (aggFact (base.getD k default)) rfl rfl rfl rfl (run_load_agg (encFact (base.getD k default)) ag24 rfl rfl (Rd.each (d := default) (St.rd S hbase) (by omega))) ?_
    refine ops_alloc [str ([]), i64 0, i64 0, i64 0, i64 0] ze24 S rfl rfl ?_
    clear S; intro b1 w3 S
    refine ops_store (off := 0) (us := [str ((base.getD k default).key), i64 ((base.getD k default).value), i64 ((base.getD k default).from_), i64 ((base.getD k default).until_), i64 ((base.getD k default).known)]) [str ((base.getD k default).key), i64 ((base.getD k default).value), i64 ((base.getD k default).from_), i64 ((base.getD k default).until_), i64 ((base.getD k default).known)] S rfl (AggT.size ag24) rfl rfl rfl rfl (Nat.le_of_ble_eq_true rfl) rfl ?_
    clear S; intro w4 S
    refine ops_nil ?_
    refine nrm_then ?_
    refine w_seq ?_
    refine w_region ?_
    refine ops_val 15 (.pointer (some ⟨b1, 0, none⟩)) rfl rfl rfl rfl (run_fieldAddr_blk fd24_0 rfl rfl) ?_
    refine ops_val 16 (str ((base.getD k default).key)) rfl rfl rfl rfl (run_load_scal sc9 rfl (St.cell S (n := 0) rfl rfl)) ?_
    refine ops_val 17 (str key) rfl rfl rfl rfl (run_pv rfl) ?_
    refine ops_val 18 (.bool (decide ((base.getD k default).key = key))) rfl rfl rfl rfl (run_pv rfl) ?_
    refine ops_nil ?_
    refine nrm_then ?_
    refine w_cond (decide ((base.getD k default).key = key)) rfl (fun h2 => ?_) (fun h2 => ?_)
    · have p2 := h2; try simp only [decide_eq_true_eq, decide_eq_false_iff_not, Bool.and_eq_true, Bool.or_eq_true, Bool.not_eq_true', Bool.or_eq_false_iff, Bool.not_eq_false', Int.not_lt, Int.not_le, gt_iff_lt, ge_iff_le, Decidable.not_not] at p2
      refine w_draw 6 (fun w' => Eng.St w [.blk b1 [str ((base.getD k default).key), i64 ((base.getD k default).value), i64 ((base.getD k default).from_), i64 ((base.getD k default).until_), i64 ((base.getD k default).known)] 24, .row 3 1 vd ((daysTo base key k).map Eng.encI)] w') Try.mixed ?_
      intro w5 hw'; replace S := Eng.St.drew S; rw [← hw'] at S
      clear hw'
      refine any_quiet 0 19 (vd) (by kernel_rfl) rfl (by kernel_rfl) (by kernel_rfl) rfl rfl rfl rfl S (fun wq Sq => (run_pv rfl)) ?_
      refine any_quiet 1 20 (.pointer (some ⟨b1, 2, none⟩)) (by kernel_rfl) rfl (by kernel_rfl) (by kernel_rfl) rfl rfl rfl rfl S (fun wq Sq => (run_fieldAddr_blk fd24_2 rfl rfl)) ?_
      refine any_quiet 2 21 (i64 ((base.getD k default).from_)) (by kernel_rfl) rfl (by kernel_rfl) (by kernel_rfl) rfl rfl rfl rfl S (fun wq Sq => (run_load_scal sc3 rfl (St.cell Sq (n := 0) rfl rfl))) ?_
      refine any_quiet 3 22 (aggFact (base.getD k default)) (by kernel_rfl) rfl (by kernel_rfl) (by kernel_rfl) rfl rfl rfl rfl S (fun wq Sq => (run_load_agg [str ((base.getD k default).key), i64 ((base.getD k default).value), i64 ((base.getD k default).from_), i64 ((base.getD k default).until_), i64 ((base.getD k default).known)] ag24 rfl rfl (blk_each Sq (n := 0) rfl 0 rfl))) ?_
      refine any_loud1 4 (by kernel_rfl) rfl ?_
      refine ops_callIs [aggFact (base.getD k default)] (i64 (endOf (base.getD k default))) S rfl rfl hb35 rfl (end_is (base.getD k default) _  ) ?_
      clear S; intro w6 S
      refine ops_nil ?_
      refine nrm_then ⟨fun _ => S, ?_⟩
      refine any_loud1 5 (by kernel_rfl) rfl ?_
      refine ops_buildSlice [(0, i64 ((base.getD k default).from_)), (1, i64 (endOf (base.getD k default)))] [[i64 ((base.getD k default).from_)], [i64 (endOf (base.getD k default))]] sT52 S rfl rfl rfl (by kernel_rfl) rfl rfl rfl rfl ?_
      clear S; intro v2 w7 S
      replace S : Eng.St w [.row 3 1 v2 (([(base.getD k default).from_, (endOf (base.getD k default))]).map Eng.encI), .blk b1 [str ((base.getD k default).key), i64 ((base.getD k default).value), i64 ((base.getD k default).from_), i64 ((base.getD k default).until_), i64 ((base.getD k default).known)] 24, .row 3 1 vd ((daysTo base key k).map Eng.encI)] w7 := S
      refine ops_nil ?_
      refine nrm_then ⟨fun _ => (Eng.St.drop S), ?_⟩
      refine any_loud1 6 (by kernel_rfl) rfl ?_
      replace S := S.f2
      refine ops_append sT52 S rfl rfl rfl rfl (St.rdRow (n := 1) S rfl) (fun _ => rfl) (fun _ => rfl) (by simp only [List.length_map, List.length_cons, List.length_nil, List.length_append]; omega) (by simp only [List.length_map, List.length_cons, List.length_nil, List.length_append]; omega) ?_
      clear S; intro v3 w8 S
      rw [← List.map_append] at S
      replace S : Eng.St w [.row 3 1 v3 (((daysTo base key k) ++ [(base.getD k default).from_, (endOf (base.getD k default))]).map Eng.encI), .row 3 1 v2 (([(base.getD k default).from_, (endOf (base.getD k default))]).map Eng.encI), .blk b1 [str ((base.getD k default).key), i64 ((base.getD k default).value), i64 ((base.getD k default).from_), i64 ((base.getD k default).until_), i64 ((base.getD k default).known)] 24] w8 := S
      refine ops_nil ?_
      refine nrm_then ⟨fun h => (by cases h), ?_⟩
      refine any_pure 7 5 (v3) (by kernel_rfl) rfl (by kernel_rfl) rfl rfl rfl rfl (by kernel_rfl) (fun wq => (run_pv rfl)) ?_
      refine any_done (by kernel_rfl) ?_
      refine nrm_blk ?_
      refine nrm_then ?_
      refine w_region ?_
      refine ops_val 26 (i64 ((k : Int) + 1)) rfl rfl rfl rfl (run_wr rfl (by omega) (by omega)) ?_
      refine ops_val 11 (i64 ((k : Int) + 1)) rfl rfl rfl rfl (run_pv rfl) ?_
      refine ops_nil ?_
      refine nrm_then ?_
      replace S := S.f1
      replace S := S.drop
      replace S := S.f1
      replace S := S.drop
      have hst : ((daysTo base key k) ++ [(base.getD k default).from_, (endOf (base.getD k default))]) = (daysTo base key (k + 1)) := by simp only [daysTo, h1, h2, if_true, if_false, Bool.false_eq_true, reduceIte]
      rw [hst] at S
      exact ⟨rfl, (k + 1, v3), ⟨(by first | rfl | exact congrArg i64 (by omega)), (by first | rfl | exact congrArg i64 (by omega)), (by first | rfl | exact congrArg i64 (by omega)), (by first | rfl | exact congrArg i64 (by omega)), (by first | rfl | exact congrArg i64 (by omega)), trivial⟩, ⟨S, by omega⟩, by dsimp only; omega⟩
    · have p2 := h2; try simp only [decide_eq_true_eq, decide_eq_false_iff_not, Bool.and_eq_true, Bool.or_eq_true, Bool.not_eq_true', Bool.or_eq_false_iff, Bool.not_eq_false', Int.not_lt, Int.not_le, gt_iff_lt, ge_iff_le, Decidable.not_not] at p2
      refine w_skip ?_
      refine nrm_blk ?_
      refine nrm_then ?_
      refine w_region ?_
      refine ops_val 26 (i64 ((k : Int) + 1)) rfl rfl rfl rfl (run_wr rfl (by omega) (by omega)) ?_
      refine ops_val 11 (i64 ((k : Int) + 1)) rfl rfl rfl rfl (run_pv rfl) ?_
      refine ops_nil ?_
      refine nrm_then ?_
      replace S := S.drop
      have hst : (daysTo base key k) = (daysTo base key (k + 1)) := by simp only [daysTo, h1, h2, if_true, if_false, Bool.false_eq_true, reduceIte]
      rw [hst] at S
      exact ⟨rfl, (k + 1, vd), ⟨(by first | rfl | exact congrArg i64 (by omega)), (by first | rfl | exact congrArg i64 (by omega)), (by first | rfl | exact congrArg i64 (by omega)), (by first | rfl | exact congrArg i64 (by omega)), (by first | rfl | exact congrArg i64 (by omega)), trivial⟩, ⟨S, by omega⟩, by dsimp only; omega⟩
  · have p1 := h1; try simp only [decide_eq_true_eq, decide_eq_false_iff_not, Bool.and_eq_true, Bool.or_eq_true, Bool.not_eq_true', Bool.or_eq_false_iff, Bool.not_eq_false', Int.not_lt, Int.not_le, gt_iff_lt, ge_iff_le, Decidable.not_not] at p1
    refine w_exit ?_
    refine exit_then ?_
    refine exit_then ?_
    refine exit_blk ?_
    refine nrm_then ?_
    refine w_seq ?_
    refine w_region ?_
    refine ops_val 27 (vd) rfl rfl rfl rfl (run_pv rfl) ?_
    refine ops_sort (f := Value.int .i64) (l := (daysTo base key k)) ((daysTo base key k).mergeSort fun x y => decide (x ≤ y)) (List.length_mergeSort _) S rfl rfl hb38 rfl (fun blk cap hH hb => Try.slices_Sort_int blk 0 cap _ _ hH hb (by omega)) (Try.slices_Sort_int_none none 0 _) ?_
    clear S; intro w9 S
    replace S : Eng.St w [.row 3 1 vd (((daysTo base key k).mergeSort fun x y => decide (x ≤ y)).map Eng.encI)] w9 := S
    refine ops_nil ?_
    refine nrm_then ?_
    refine w_seq ?_
    refine w_region ?_
    refine ops_val 29 (vd) rfl rfl rfl rfl (run_pv rfl) ?_
    refine ops_compact (f := Value.int .i64) (l := ((daysTo base key k).mergeSort fun x y => decide (x ≤ y))) (Lib.compact ((daysTo base key k).mergeSort fun x y => decide (x ≤ y))) 0 (compact_len _) S rfl rfl hb39 rfl (fun blk cap hH hb => Try.slices_Compact_int blk 0 cap _ _ hH (by rw [List.length_mergeSort]; omega) hb) (Try.slices_Compact_int_empty none 0 _) ?_
    clear S; intro v4 w10 S
    replace S : Eng.St w [.row 3 1 v4 ((Lib.compact ((daysTo base key k).mergeSort fun x y => decide (x ≤ y))).map Eng.encI)] w10 := S
    refine ops_val 4 (v4) rfl rfl rfl rfl (run_pv rfl) ?_
    refine ops_nil ?_
    refine nrm_then ?_
    refine w_ret ?_
    have hres : (Lib.compact ((daysTo base key k).mergeSort fun x y => decide (x ≤ y))) = (daysOf base key) := by (have e : k = base.length := by omega); subst e; rfl
    rw [hres] at S
    exact fin_row (n := 0) rfl S rfl rfl
end
