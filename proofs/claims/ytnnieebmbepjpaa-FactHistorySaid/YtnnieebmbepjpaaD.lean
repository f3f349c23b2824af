/- walks, fourth part -/
import Derived.Test.YtnnieebmbepjpaaC
set_option linter.all false
namespace Go.Proofs.Ytnnieebmbepjpaa
open Go Go.Eng
section
theorem rright_len (base : List Fact) (h : rrightB base = true) : base.length ≤ 5000 := by
  unfold rrightB at h
  by_cases hh : (base.length : Int) > 5000
  · simp [hh] at h
  · omega
def keysTo (base : List Fact) : Nat → List (List UInt8)
  | 0 => []
  | k + 1 => keysTo base k ++ [(base.getD k default).key]
theorem keysTo_len (base : List Fact) : ∀ k, (keysTo base k).length = k
  | 0 => rfl
  | k + 1 => by rw [keysTo, List.length_append, keysTo_len base k]; rfl
def keysOf (base : List Fact) : List (List UInt8) := if (!rightB base) = true then [] else Lib.compact ((keysTo base base.length).mergeSort fun x y => decide (x ≤ y))
def rkIns (l : List (List UInt8)) (key : List UInt8) : List (List UInt8) :=
  if (decide (((l.takeWhile fun x => Op.bytesLess x key).length : Int) < (l.length : Int)) && decide (l.getD (l.takeWhile fun x => Op.bytesLess x key).length [] = key)) = true then l
  else l.take (l.takeWhile fun x => Op.bytesLess x key).length ++ ([key] ++ l.drop (l.takeWhile fun x => Op.bytesLess x key).length)
theorem ins_pos {l : List (List UInt8)} {key : List UInt8} : ∀ (j : Nat), j ≤ l.length → (∀ m, m < j → Op.bytesLess (l.getD m []) key = true) → (j < l.length → Op.bytesLess (l.getD j []) key = false) → (l.takeWhile fun x => Op.bytesLess x key).length = j := by
  induction l with
  | nil => intro j h _ _; simp at h; simp [h]
  | cons a l ih =>
    intro j h hall hn
    cases j with
    | zero => have := hn (by simp); simp at this; simp [this]
    | succ j =>
      have h0 := hall 0 (by omega)
      simp at h0
      have := ih j (by simpa using h) (fun m hm => by simpa using hall (m + 1) (by omega)) (fun hj => by simpa using hn (by simpa using hj))
      simp [h0, this]
theorem ins_not {l : List (List UInt8)} {key : List UInt8} {j : Nat} (h : (decide ((j : Int) < (l.length : Int)) && Op.bytesLess (l.getD j []) key) = false) (hj : j < l.length) : Op.bytesLess (l.getD j []) key = false := by
  simpa [show (j : Int) < (l.length : Int) by omega] using h
def rkTo (base : List Fact) : Nat → List (List UInt8)
  | 0 => []
  | k + 1 => rkIns (rkTo base k) (base.getD k default).key
theorem rkIns_len (l : List (List UInt8)) (key : List UInt8) : (rkIns l key).length ≤ l.length + 1 := by
  unfold rkIns
  split
  · omega
  · simp only [List.length_append, List.length_take, List.length_drop, List.length_cons, List.length_nil]; omega
theorem rkTo_len (base : List Fact) : ∀ k, (rkTo base k).length ≤ k
  | 0 => Nat.le_refl _
  | k + 1 => by have := rkTo_len base k; exact Nat.le_trans (rkIns_len ..) (by omega)
def rkeysOf (base : List Fact) : List (List UInt8) := if (!rrightB base) = true then [] else rkTo base base.length
def areaL : List UInt8 := [97, 114, 101, 97]
def sampleL : List Fact := [⟨areaL, 100, 0, 0, 5⟩, ⟨areaL, 90, 10, 20, 8⟩, ⟨areaL, 95, 15, 0, 12⟩]
theorem sT32 : SliceT Try.prog 32 9 1 16 [str ([])] := sliceT_of (z := str ([])) Try.underlying32 (by kernel_rfl) rfl rfl rfl
theorem hb30 : hasBody Try.prog 30 := body_of (by kernel_rfl)
theorem hb31 : hasBody Try.prog 31 := body_of (by kernel_rfl)
theorem sl32 : IsSliceT Try.prog 32 9 1 := slice_of (by kernel_rfl)
theorem keys_is (vbase : Value) (base : List Fact) (w : World) (hbase : Rd w encFact 5 vbase base) : FnRow Try.prog 13 [vbase] w 9 1 Eng.encS (keysOf base) := by
  refine fn_of_wp (N := 25) Try.func13 rfl rfl rfl ?_
  intro S
  have hlen := hbase.len
  refine w_seq ?_
  refine w_region ?_
  refine ops_val 2 (.slice none 0 0) rfl rfl rfl rfl (run_pv rfl) ?_
  refine ops_nil ?_
  refine nrm_then ?_
  refine w_seq ?_
  refine w_seq ?_
  refine w_region ?_
  refine ops_val 6 (vbase) rfl rfl rfl rfl (run_pv rfl) ?_
  refine ops_callIs [vbase] (.bool (rightB base)) S rfl rfl hb15 rfl (right_is vbase base _ (St.rd S hbase) ) ?_
  clear S; intro w1 S
  refine ops_val 8 (.bool (!(rightB base))) rfl rfl rfl rfl (run_pv rfl) ?_
  refine ops_nil ?_
  refine nrm_then ?_
  refine w_cond (!(rightB base)) rfl (fun h1 => ?_) (fun h1 => ?_)
  · have p1 := h1; try simp only [decide_eq_true_eq, decide_eq_false_iff_not, Bool.and_eq_true, Bool.or_eq_true, Bool.not_eq_true', Bool.or_eq_false_iff, Bool.not_eq_false', Int.not_lt, Int.not_le, gt_iff_lt, ge_iff_le, Decidable.not_not] at p1
    refine w_seq ?_
    refine w_region ?_
    refine ops_val 2 (.slice none 0 0) rfl rfl rfl rfl (run_pv rfl) ?_
    refine ops_nil ?_
    refine nrm_then ?_
    refine w_ret ?_
    refine ret_then ?_
    replace S := S.nilRow 9 1
    replace S : Eng.St w [.row 9 1 (.slice none 0 0) (([] : List (List UInt8)).map Eng.encS)] w1 := S
    have hres : ([] : List (List UInt8)) = (keysOf base) := by simp only [keysOf, h1, if_true, if_false, Bool.false_eq_true, reduceIte, Bool.true_and, Bool.and_true, Bool.false_and, Bool.and_false, Bool.not_true, Bool.not_false, Bool.true_or, Bool.false_or, Bool.or_true, Bool.or_false]
    rw [hres] at S
    exact fin_row (n := 0) rfl S rfl rfl
  · have p1 := h1; try simp only [decide_eq_true_eq, decide_eq_false_iff_not, Bool.and_eq_true, Bool.or_eq_true, Bool.not_eq_true', Bool.or_eq_false_iff, Bool.not_eq_false', Int.not_lt, Int.not_le, gt_iff_lt, ge_iff_le, Decidable.not_not] at p1
    have hr5 := right_len base p1
    refine w_skip ?_
    refine nrm_then ?_
    refine w_seq ?_
    refine w_region ?_
    refine ops_val 3 (.slice none 0 0) rfl rfl rfl rfl (run_pv rfl) ?_
    refine ops_nil ?_
    refine nrm_then ?_
    refine w_seq ?_
    refine w_seq ?_
    refine w_region ?_
    refine ops_val 9 (vbase) rfl rfl rfl rfl (run_pv rfl) ?_
    refine ops_val 10 (i64 (base.length : Int)) rfl rfl rfl rfl (run_len_rd Try.underlying22 (St.rd S hbase) rfl) ?_
    refine ops_val 11 (i64 0) rfl rfl rfl rfl (run_pv rfl) ?_
    refine ops_nil ?_
    refine nrm_then ?_
    refine w_block ?_
    replace S := S.nilRow 9 1
    replace S : Eng.St w [.row 9 1 (.slice none 0 0) (([] : List (List UInt8)).map Eng.encS)] w1 := S
    refine w_loop (G := Nat × Value) (fun ⟨k, vo⟩ => [(3, vo), (9, vbase), (10, i64 (base.length : Int)), (11, i64 (k : Int))]) (fun ⟨k, vo⟩ w' => Eng.St w [.row 9 1 vo ((keysTo base k).map Eng.encS)] w' ∧ (k ≤ base.length)) (fun ⟨k, vo⟩ => base.length - k) (0, .slice none 0 0) ⟨rfl, rfl, rfl, rfl, trivial⟩ ⟨S, Nat.zero_le _⟩ ?_
    clear S; rintro ⟨k, vo⟩ ρ0 w2 ⟨S, hk⟩
    have hl := keysTo_len base k
    refine w_seq ?_
    refine w_region ?_
    refine ops_val 12 (.bool (decide ((k : Int) < (base.length : Int)))) rfl rfl rfl rfl (run_pv rfl) ?_
    refine ops_nil ?_
    refine nrm_then ?_
    refine w_seq ?_
    refine w_cond (decide ((k : Int) < (base.length : Int))) rfl (fun h2 => ?_) (fun h2 => ?_)
    · have p2 := h2; try simp only [decide_eq_true_eq, decide_eq_false_iff_not, Bool.and_eq_true, Bool.or_eq_true, Bool.not_eq_true', Bool.or_eq_false_iff, Bool.not_eq_false', Int.not_lt, Int.not_le, gt_iff_lt, ge_iff_le, Decidable.not_not] at p2
      refine w_skip ?_
      refine nrm_then ?_
      refine w_seq ?_
      refine w_block ?_
      refine w_seq ?_
      refine w_region ?_
      refine ops_val 13 (.pointer (some ((adr vbase).add (k * 5)))) rfl rfl rfl rfl (run_index_rd (i := k) sl22 (St.rd S hbase) rfl rfl (by omega)) ?_
      refine ops_val 14 (aggFact (base.getD k default)) rfl rfl rfl rfl (run_load_agg (encFact (base.getD k default)) ag24 rfl rfl (Rd.each (d := default) (St.rd S hbase) (by omega))) ?_
      refine ops_alloc [str ([]), i64 0, i64 0, i64 0, i64 0] ze24 S rfl rfl ?_
      clear S; intro b1 w3 S
      refine ops_store (off := 0) (us := [str ((base.getD k default).key), i64 ((base.getD k default).value), i64 ((base.getD k default).from_), i64 ((base.getD k default).until_), i64 ((base.getD k default).known)]) [str ((base.getD k default).key), i64 ((base.getD k default).value), i64 ((base.getD k default).from_), i64 ((base.getD k default).until_), i64 ((base.getD k default).known)] S rfl (AggT.size ag24) rfl rfl rfl rfl (Nat.le_of_ble_eq_true rfl) rfl ?_
      clear S; intro w4 S
      refine ops_nil ?_
      refine nrm_then ?_
      refine w_region ?_
      refine ops_val 15 (vo) rfl rfl rfl rfl (run_pv rfl) ?_
      refine ops_val 16 (.pointer (some ⟨b1, 0, none⟩)) rfl rfl rfl rfl (run_fieldAddr_blk fd24_0 rfl rfl) ?_
      refine ops_val 17 (str ((base.getD k default).key)) rfl rfl rfl rfl (run_load_scal sc9 rfl (St.cell S (n := 0) rfl rfl)) ?_
      refine ops_buildSlice [(0, str ((base.getD k default).key))] [[str ((base.getD k default).key)]] sT32 S rfl rfl rfl (by kernel_rfl) rfl rfl rfl rfl ?_
      clear S; intro v1 w5 S
      replace S : Eng.St w [.row 9 1 v1 (([(base.getD k default).key]).map Eng.encS), .blk b1 [str ((base.getD k default).key), i64 ((base.getD k default).value), i64 ((base.getD k default).from_), i64 ((base.getD k default).until_), i64 ((base.getD k default).known)] 24, .row 9 1 vo ((keysTo base k).map Eng.encS)] w5 := S
      replace S := S.f2
      refine ops_append sT32 S rfl rfl rfl rfl (St.rdRow (n := 1) S rfl) (fun _ => rfl) (fun _ => rfl) (by first | omega | (simp only [List.length_map, List.length_cons, List.length_nil, List.length_append, List.length_drop, List.length_take]; omega)) (by first | omega | (simp only [List.length_map, List.length_cons, List.length_nil, List.length_append, List.length_drop, List.length_take]; omega)) ?_
      clear S; intro v2 w6 S
      rw [← List.map_append] at S
      replace S : Eng.St w [.row 9 1 v2 (((keysTo base k) ++ [(base.getD k default).key]).map Eng.encS), .row 9 1 v1 (([(base.getD k default).key]).map Eng.encS), .blk b1 [str ((base.getD k default).key), i64 ((base.getD k default).value), i64 ((base.getD k default).from_), i64 ((base.getD k default).until_), i64 ((base.getD k default).known)] 24] w6 := S
      refine ops_val 3 (v2) rfl rfl rfl rfl (run_pv rfl) ?_
      refine ops_nil ?_
      refine nrm_blk ?_
      refine nrm_then ?_
      refine w_region ?_
      refine ops_val 20 (i64 ((k : Int) + 1)) rfl rfl rfl rfl (run_wr rfl (by omega) (by omega)) ?_
      refine ops_val 11 (i64 ((k : Int) + 1)) rfl rfl rfl rfl (run_pv rfl) ?_
      refine ops_nil ?_
      refine nrm_then ?_
      replace S := S.f1
      replace S := S.drop
      replace S := S.f1
      replace S := S.drop
      have hst : ((keysTo base k) ++ [(base.getD k default).key]) = (keysTo base (k + 1)) := by rfl
      rw [hst] at S
      exact ⟨rfl, (k + 1, v2), ⟨(by first | rfl | exact congrArg i64 (by omega)), (by first | rfl | exact congrArg i64 (by omega)), (by first | rfl | exact congrArg i64 (by omega)), (by first | rfl | exact congrArg i64 (by omega)), trivial⟩, ⟨S, by omega⟩, by dsimp only; omega⟩
    · have p2 := h2; try simp only [decide_eq_true_eq, decide_eq_false_iff_not, Bool.and_eq_true, Bool.or_eq_true, Bool.not_eq_true', Bool.or_eq_false_iff, Bool.not_eq_false', Int.not_lt, Int.not_le, gt_iff_lt, ge_iff_le, Decidable.not_not] at p2
      refine w_exit ?_
      refine exit_then ?_
      refine exit_then ?_
      refine exit_blk ?_
      refine nrm_then ?_
      refine w_seq ?_
      refine w_region ?_
      refine ops_val 21 (vo) rfl rfl rfl rfl (run_pv rfl) ?_
      refine ops_sort (f := encStr) (l := (keysTo base k)) ((keysTo base k).mergeSort fun x y => decide (x ≤ y)) (List.length_mergeSort _) S rfl rfl hb30 rfl (fun blk cap hH hb => Try.slices_Sort_string blk 0 cap _ _ hH hb (by (rw [show (keysTo base k).length = k from keysTo_len base k]; omega))) (Try.slices_Sort_string_none none 0 _) ?_
      clear S; intro w7 S
      replace S : Eng.St w [.row 9 1 vo (((keysTo base k).mergeSort fun x y => decide (x ≤ y)).map Eng.encS)] w7 := S
      refine ops_nil ?_
      refine nrm_then ?_
      refine w_seq ?_
      refine w_region ?_
      refine ops_val 23 (vo) rfl rfl rfl rfl (run_pv rfl) ?_
      refine ops_compact (f := encStr) (l := ((keysTo base k).mergeSort fun x y => decide (x ≤ y))) (Lib.compact ((keysTo base k).mergeSort fun x y => decide (x ≤ y))) [] (compact_len _) S rfl rfl hb31 rfl (fun blk cap hH hb => Try.slices_Compact_string blk 0 cap _ _ hH (by rw [List.length_mergeSort]; (rw [show (keysTo base k).length = k from keysTo_len base k]; omega)) hb) (Try.slices_Compact_string_empty none 0 _) ?_
      clear S; intro v3 w8 S
      replace S : Eng.St w [.row 9 1 v3 ((Lib.compact ((keysTo base k).mergeSort fun x y => decide (x ≤ y))).map Eng.encS)] w8 := S
      refine ops_val 2 (v3) rfl rfl rfl rfl (run_pv rfl) ?_
      refine ops_nil ?_
      refine nrm_then ?_
      refine w_ret ?_
      have hres : (Lib.compact ((keysTo base k).mergeSort fun x y => decide (x ≤ y))) = (keysOf base) := by (have e : k = base.length := by omega); subst e; simp only [keysOf, h1, h2, if_true, if_false, Bool.false_eq_true, reduceIte, Bool.true_and, Bool.and_true, Bool.false_and, Bool.and_false, Bool.not_true, Bool.not_false, Bool.true_or, Bool.false_or, Bool.or_true, Bool.or_false]
      rw [hres] at S
      exact fin_row (n := 0) rfl S rfl rfl
theorem rkeys_is (vbase : Value) (base : List Fact) (w : World) (hbase : Rd w encFact 5 vbase base) : FnRow Try.prog 14 [vbase] w 9 1 Eng.encS (rkeysOf base) := by
  refine fn_of_wp (N := 66) Try.func14 rfl rfl rfl ?_
  intro S
  have hlen := hbase.len
  refine w_seq ?_
  refine w_region ?_
  refine ops_val 2 (.slice none 0 0) rfl rfl rfl rfl (run_pv rfl) ?_
  refine ops_nil ?_
  refine nrm_then ?_
  refine w_seq ?_
  refine w_seq ?_
  refine w_region ?_
  refine ops_val 7 (vbase) rfl rfl rfl rfl (run_pv rfl) ?_
  refine ops_callIs [vbase] (.bool (rrightB base)) S rfl rfl hb16 rfl (rright_is vbase base _ (St.rd S hbase) ) ?_
  clear S; intro w1 S
  refine ops_val 9 (.bool (!(rrightB base))) rfl rfl rfl rfl (run_pv rfl) ?_
  refine ops_nil ?_
  refine nrm_then ?_
  refine w_cond (!(rrightB base)) rfl (fun h1 => ?_) (fun h1 => ?_)
  · have p1 := h1; try simp only [decide_eq_true_eq, decide_eq_false_iff_not, Bool.and_eq_true, Bool.or_eq_true, Bool.not_eq_true', Bool.or_eq_false_iff, Bool.not_eq_false', Int.not_lt, Int.not_le, gt_iff_lt, ge_iff_le, Decidable.not_not] at p1
    have k1 : (rrightB base) = false := (by simpa only [Bool.not_eq_true', Bool.not_eq_false'] using h1)
    have pk1 := k1; try simp only [decide_eq_true_eq, decide_eq_false_iff_not, Bool.and_eq_true, Bool.or_eq_true, Bool.not_eq_true', Bool.or_eq_false_iff, Bool.not_eq_false', Int.not_lt, Int.not_le, gt_iff_lt, ge_iff_le, Decidable.not_not] at pk1
    refine w_seq ?_
    refine w_region ?_
    refine ops_val 2 (.slice none 0 0) rfl rfl rfl rfl (run_pv rfl) ?_
    refine ops_nil ?_
    refine nrm_then ?_
    refine w_ret ?_
    refine ret_then ?_
    replace S := S.nilRow 9 1
    replace S : Eng.St w [.row 9 1 (.slice none 0 0) (([] : List (List UInt8)).map Eng.encS)] w1 := S
    have hres : ([] : List (List UInt8)) = (rkeysOf base) := by simp only [rkeysOf, h1, k1, if_true, if_false, Bool.false_eq_true, reduceIte, Bool.true_and, Bool.and_true, Bool.false_and, Bool.and_false, Bool.not_true, Bool.not_false, Bool.true_or, Bool.false_or, Bool.or_true, Bool.or_false]
    rw [hres] at S
    exact fin_row (n := 0) rfl S rfl rfl
  · have p1 := h1; try simp only [decide_eq_true_eq, decide_eq_false_iff_not, Bool.and_eq_true, Bool.or_eq_true, Bool.not_eq_true', Bool.or_eq_false_iff, Bool.not_eq_false', Int.not_lt, Int.not_le, gt_iff_lt, ge_iff_le, Decidable.not_not] at p1
    have k2 : (rrightB base) = true := (by simpa only [Bool.not_eq_true', Bool.not_eq_false'] using h1)
    have pk2 := k2; try simp only [decide_eq_true_eq, decide_eq_false_iff_not, Bool.and_eq_true, Bool.or_eq_true, Bool.not_eq_true', Bool.or_eq_false_iff, Bool.not_eq_false', Int.not_lt, Int.not_le, gt_iff_lt, ge_iff_le, Decidable.not_not] at pk2
    have hr5 := rright_len base p1
    refine w_skip ?_
    refine nrm_then ?_
    refine w_seq ?_
    refine w_region ?_
    refine ops_val 3 (.slice none 0 0) rfl rfl rfl rfl (run_pv rfl) ?_
    refine ops_nil ?_
    refine nrm_then ?_
    refine w_seq ?_
    refine w_seq ?_
    refine w_region ?_
    refine ops_val 4 (i64 0) rfl rfl rfl rfl (run_pv rfl) ?_
    refine ops_nil ?_
    refine nrm_then ?_
    refine w_block ?_
    replace S := S.nilRow 9 1
    replace S : Eng.St w [.row 9 1 (.slice none 0 0) (([] : List (List UInt8)).map Eng.encS)] w1 := S
    refine w_loop (G := Nat × Value) (fun ⟨k, vo⟩ => [(0, vbase), (3, vo), (4, i64 (k : Int))]) (fun ⟨k, vo⟩ w' => Eng.St w [.row 9 1 vo ((rkTo base k).map Eng.encS)] w' ∧ (k ≤ base.length)) (fun ⟨k, vo⟩ => base.length - k) (0, .slice none 0 0) ⟨rfl, rfl, rfl, trivial⟩ ⟨S, Nat.zero_le _⟩ ?_
    clear S; rintro ⟨k, vo⟩ ρ0 w2 ⟨S, hk⟩
    have hl := rkTo_len base k
    refine w_seq ?_
    refine w_seq ?_
    refine w_region ?_
    refine ops_val 10 (i64 (k : Int)) rfl rfl rfl rfl (run_pv rfl) ?_
    refine ops_val 11 (vbase) rfl rfl rfl rfl (run_pv rfl) ?_
    refine ops_val 12 (i64 (base.length : Int)) rfl rfl rfl rfl (run_len_rd Try.underlying22 (St.rd S hbase) rfl) ?_
    refine ops_val 13 (.bool (decide ((k : Int) < (base.length : Int)))) rfl rfl rfl rfl (run_pv rfl) ?_
    refine ops_nil ?_
    refine nrm_then ?_
    refine w_cond (decide ((k : Int) < (base.length : Int))) rfl (fun h2 => ?_) (fun h2 => ?_)
    · have p2 := h2; try simp only [decide_eq_true_eq, decide_eq_false_iff_not, Bool.and_eq_true, Bool.or_eq_true, Bool.not_eq_true', Bool.or_eq_false_iff, Bool.not_eq_false', Int.not_lt, Int.not_le, gt_iff_lt, ge_iff_le, Decidable.not_not] at p2
      refine w_skip ?_
      refine nrm_then ?_
      refine w_seq ?_
      refine w_block ?_
      refine w_seq ?_
      refine w_region ?_
      refine ops_val 5 (i64 0) rfl rfl rfl rfl (run_pv rfl) ?_
      refine ops_nil ?_
      refine nrm_then ?_
      refine w_seq ?_
      refine w_block ?_
      refine w_loop (G := Nat) (fun j => [(0, vbase), (3, vo), (4, i64 (k : Int)), (5, i64 (j : Int))]) (fun j w' => Eng.St w [.row 9 1 vo ((rkTo base k).map Eng.encS)] w' ∧ (j ≤ (rkTo base k).length ∧ ∀ m, m < j → Op.bytesLess ((rkTo base k).getD m []) (base.getD k default).key = true)) (fun j => (rkTo base k).length - j) (0) ⟨rfl, rfl, rfl, rfl, trivial⟩ ⟨S, Nat.zero_le _, (fun _ h => absurd h (Nat.not_lt_zero _))⟩ ?_
      clear S; rintro j ρ0 w3 ⟨S, hj, hall⟩
      refine w_seq ?_
      refine w_seq ?_
      refine w_cut [(0, vbase), (3, vo), (4, i64 (k : Int)), (5, i64 (j : Int)), (31, .bool ((decide ((j : Int) < ((rkTo base k).length : Int))) && (Op.bytesLess ((rkTo base k).getD j []) ((base.getD k default).key))))] (fun w' => Eng.St w [.row 9 1 vo ((rkTo base k).map Eng.encS)] w') ?_ ?_
      · refine w_draw 1000000 (fun w' => Eng.St w [.row 9 1 vo ((rkTo base k).map Eng.encS)] w') Try.mixed ?_
        intro w4 hw'; replace S := Eng.St.drew S; rw [← hw'] at S
        clear hw'
        refine any_quiet 0 16 (i64 (j : Int)) (by kernel_rfl) rfl (by kernel_rfl) (by kernel_rfl) rfl rfl rfl rfl S (fun wq Sq => (run_pv rfl)) ?_
        refine any_quiet 1 17 (vo) (by kernel_rfl) rfl (by kernel_rfl) (by kernel_rfl) rfl rfl rfl rfl S (fun wq Sq => (run_pv rfl)) ?_
        refine any_quiet 2 18 (i64 ((rkTo base k).length : Int)) (by kernel_rfl) rfl (by kernel_rfl) (by kernel_rfl) rfl rfl rfl rfl S (fun wq Sq => (run_len_rd Try.underlying32 (St.rdRow (n := 0) Sq rfl) rfl)) ?_
        refine any_quiet 3 19 (.bool (decide ((j : Int) < ((rkTo base k).length : Int)))) (by kernel_rfl) rfl (by kernel_rfl) (by kernel_rfl) rfl rfl rfl rfl S (fun wq Sq => (run_pv rfl)) ?_
        refine any_quiet 4 20 (.bool (decide ((j : Int) < ((rkTo base k).length : Int)))) (by kernel_rfl) rfl (by kernel_rfl) (by kernel_rfl) rfl rfl rfl rfl S (fun wq Sq => (run_pv rfl)) ?_
        refine any_case 20 (decide ((j : Int) < ((rkTo base k).length : Int))) rfl (fun h3 => ?_) (fun h3 => ?_)
        · have p3 := h3; try simp only [decide_eq_true_eq, decide_eq_false_iff_not, Bool.and_eq_true, Bool.or_eq_true, Bool.not_eq_true', Bool.or_eq_false_iff, Bool.not_eq_false', Int.not_lt, Int.not_le, gt_iff_lt, ge_iff_le, Decidable.not_not] at p3
          refine any_quiet 5 21 (vo) (by kernel_rfl) rfl (by kernel_rfl) (by kernel_rfl) rfl rfl rfl rfl S (fun wq Sq => (run_pv rfl)) ?_
          refine any_quiet 6 22 (i64 (j : Int)) (by kernel_rfl) rfl (by kernel_rfl) (by kernel_rfl) rfl rfl rfl rfl S (fun wq Sq => (run_pv rfl)) ?_
          refine any_quiet 7 23 (.pointer (some ((adr vo).add (j * 1)))) (by kernel_rfl) rfl (by kernel_rfl) (by kernel_rfl) rfl rfl rfl rfl S (fun wq Sq => (run_index_rd (i := j) sl32 (St.rdRow (n := 0) Sq rfl) rfl rfl (by omega))) ?_
          refine any_quiet 8 24 (str ((rkTo base k).getD j [])) (by kernel_rfl) rfl (by kernel_rfl) (by kernel_rfl) rfl rfl rfl rfl S (fun wq Sq => (run_load_scal sc9 rfl (cell0 (Rd.at' (d := []) (j := 0) (St.rdRow (n := 0) Sq rfl) (by omega) rfl)))) ?_
          refine any_quiet 9 25 (vbase) (by kernel_rfl) rfl (by kernel_rfl) (by kernel_rfl) rfl rfl rfl rfl S (fun wq Sq => (run_pv rfl)) ?_
          refine any_quiet 10 26 (i64 (k : Int)) (by kernel_rfl) rfl (by kernel_rfl) (by kernel_rfl) rfl rfl rfl rfl S (fun wq Sq => (run_pv rfl)) ?_
          refine any_quiet 11 27 (.pointer (some ((adr vbase).add (k * 5)))) (by kernel_rfl) rfl (by kernel_rfl) (by kernel_rfl) rfl rfl rfl rfl S (fun wq Sq => (run_index_rd (i := k) sl22 (St.rd Sq hbase) rfl rfl (by omega))) ?_
          refine any_quiet 12 28 (.pointer (some (((adr vbase).add (k * 5)).add 0))) (by kernel_rfl) rfl (by kernel_rfl) (by kernel_rfl) rfl rfl rfl rfl S (fun wq Sq => (run_fieldAddr fd24_0 rfl)) ?_
          refine any_quiet 13 29 (str ((base.getD k default).key)) (by kernel_rfl) rfl (by kernel_rfl) (by kernel_rfl) rfl rfl rfl rfl S (fun wq Sq => (run_load_scal sc9 rfl (Rd.at' (d := default) (j := 0) (St.rd Sq hbase) (by omega) rfl))) ?_
          refine any_quiet 14 30 (.bool (Op.bytesLess ((rkTo base k).getD j []) ((base.getD k default).key))) (by kernel_rfl) rfl (by kernel_rfl) (by kernel_rfl) rfl rfl rfl rfl S (fun wq Sq => (run_pv rfl)) ?_
          refine any_quiet 15 31 (.bool (Op.bytesLess ((rkTo base k).getD j []) ((base.getD k default).key))) (by kernel_rfl) rfl (by kernel_rfl) (by kernel_rfl) rfl rfl rfl rfl S (fun wq Sq => (run_pv rfl)) ?_
          refine any_done (by kernel_rfl) ?_
          refine nrm_then ?_
          exact ⟨⟨rfl, rfl, rfl, rfl, congrArg Value.bool (by simp only [h1, k2, h2, h3, Bool.true_and, Bool.false_and, Bool.and_true, Bool.and_false, Bool.true_or, Bool.false_or, Bool.or_true, Bool.or_false, Bool.not_true, Bool.not_false]), trivial⟩, rfl, S⟩
        · have p3 := h3; try simp only [decide_eq_true_eq, decide_eq_false_iff_not, Bool.and_eq_true, Bool.or_eq_true, Bool.not_eq_true', Bool.or_eq_false_iff, Bool.not_eq_false', Int.not_lt, Int.not_le, gt_iff_lt, ge_iff_le, Decidable.not_not] at p3
          refine any_pass 5 21 (by kernel_rfl) rfl (by kernel_rfl) rfl rfl rfl rfl (sd_of S) ?_
          refine any_pass 6 22 (by kernel_rfl) rfl (by kernel_rfl) rfl rfl rfl rfl (sd_of S) ?_
          refine any_pass 7 23 (by kernel_rfl) rfl (by kernel_rfl) rfl rfl rfl rfl (sd_of S) ?_
          refine any_pass 8 24 (by kernel_rfl) rfl (by kernel_rfl) rfl rfl rfl rfl (sd_of S) ?_
          refine any_pass 9 25 (by kernel_rfl) rfl (by kernel_rfl) rfl rfl rfl rfl (sd_of S) ?_
          refine any_pass 10 26 (by kernel_rfl) rfl (by kernel_rfl) rfl rfl rfl rfl (sd_of S) ?_
          refine any_pass 11 27 (by kernel_rfl) rfl (by kernel_rfl) rfl rfl rfl rfl (sd_of S) ?_
          refine any_pass 12 28 (by kernel_rfl) rfl (by kernel_rfl) rfl rfl rfl rfl (sd_of S) ?_
          refine any_pass 13 29 (by kernel_rfl) rfl (by kernel_rfl) rfl rfl rfl rfl (sd_of S) ?_
          refine any_pass 14 30 (by kernel_rfl) rfl (by kernel_rfl) rfl rfl rfl rfl (sd_of S) ?_
          refine any_quiet 15 31 (.bool false) (by kernel_rfl) rfl (by kernel_rfl) (by kernel_rfl) rfl rfl rfl rfl S (fun wq Sq => (run_pv rfl)) ?_
          refine any_done (by kernel_rfl) ?_
          refine nrm_then ?_
          exact ⟨⟨rfl, rfl, rfl, rfl, congrArg Value.bool (by simp only [h1, k2, h2, h3, Bool.true_and, Bool.false_and, Bool.and_true, Bool.and_false, Bool.true_or, Bool.false_or, Bool.or_true, Bool.or_false, Bool.not_true, Bool.not_false]), trivial⟩, rfl, S⟩
      · clear S; intro ρ0 w5 S
        refine nrm_then ?_
        refine w_cond ((decide ((j : Int) < ((rkTo base k).length : Int))) && (Op.bytesLess ((rkTo base k).getD j []) ((base.getD k default).key))) rfl (fun h4 => ?_) (fun h4 => ?_)
        · have p4 := h4; try simp only [decide_eq_true_eq, decide_eq_false_iff_not, Bool.and_eq_true, Bool.or_eq_true, Bool.not_eq_true', Bool.or_eq_false_iff, Bool.not_eq_false', Int.not_lt, Int.not_le, gt_iff_lt, ge_iff_le, Decidable.not_not] at p4
          have k3 : (decide ((j : Int) < ((rkTo base k).length : Int))) = true := (Bool.and_eq_true_iff.1 h4).1
          have pk3 := k3; try simp only [decide_eq_true_eq, decide_eq_false_iff_not, Bool.and_eq_true, Bool.or_eq_true, Bool.not_eq_true', Bool.or_eq_false_iff, Bool.not_eq_false', Int.not_lt, Int.not_le, gt_iff_lt, ge_iff_le, Decidable.not_not] at pk3
          have k4 : (Op.bytesLess ((rkTo base k).getD j []) ((base.getD k default).key)) = true := (Bool.and_eq_true_iff.1 h4).2
          have pk4 := k4; try simp only [decide_eq_true_eq, decide_eq_false_iff_not, Bool.and_eq_true, Bool.or_eq_true, Bool.not_eq_true', Bool.or_eq_false_iff, Bool.not_eq_false', Int.not_lt, Int.not_le, gt_iff_lt, ge_iff_le, Decidable.not_not] at pk4
          refine w_skip ?_
          refine nrm_then ?_
          refine w_block ?_
          refine w_region ?_
          refine ops_val 32 (i64 (j : Int)) rfl rfl rfl rfl (run_pv rfl) ?_
          refine ops_val 33 (i64 ((j : Int) + 1)) rfl rfl rfl rfl (run_wr rfl (by omega) (by omega)) ?_
          refine ops_val 5 (i64 ((j : Int) + 1)) rfl rfl rfl rfl (run_pv rfl) ?_
          refine ops_nil ?_
          refine nrm_blk ?_
          refine nrm_then ?_
          exact ⟨rfl, (j + 1), ⟨(by first | rfl | exact congrArg i64 (by omega)), (by first | rfl | exact congrArg i64 (by omega)), (by first | rfl | exact congrArg i64 (by omega)), (by first | rfl | exact congrArg i64 (by omega)), trivial⟩, ⟨S, by omega, fun m hm => (Nat.lt_succ_iff_lt_or_eq.1 hm).elim (hall m) (fun e => by subst e; assumption)⟩, by omega⟩
        · have p4 := h4; try simp only [decide_eq_true_eq, decide_eq_false_iff_not, Bool.and_eq_true, Bool.or_eq_true, Bool.not_eq_true', Bool.or_eq_false_iff, Bool.not_eq_false', Int.not_lt, Int.not_le, gt_iff_lt, ge_iff_le, Decidable.not_not] at p4
          refine w_exit ?_
          refine exit_then ?_
          refine exit_then ?_
          refine exit_blk ?_
          refine nrm_then ?_
          refine w_seq ?_
          refine w_seq ?_
          refine w_cut [(0, vbase), (3, vo), (4, i64 (k : Int)), (5, i64 (j : Int)), (49, .bool ((decide ((j : Int) < ((rkTo base k).length : Int))) && (decide (((rkTo base k).getD j []) = (base.getD k default).key))))] (fun w' => Eng.St w [.row 9 1 vo ((rkTo base k).map Eng.encS)] w') ?_ ?_
          · refine w_draw 1000000 (fun w' => Eng.St w [.row 9 1 vo ((rkTo base k).map Eng.encS)] w') Try.mixed ?_
            intro w6 hw'; replace S := Eng.St.drew S; rw [← hw'] at S
            clear hw'
            refine any_quiet 0 34 (i64 (j : Int)) (by kernel_rfl) rfl (by kernel_rfl) (by kernel_rfl) rfl rfl rfl rfl S (fun wq Sq => (run_pv rfl)) ?_
            refine any_quiet 1 35 (vo) (by kernel_rfl) rfl (by kernel_rfl) (by kernel_rfl) rfl rfl rfl rfl S (fun wq Sq => (run_pv rfl)) ?_
            refine any_quiet 2 36 (i64 ((rkTo base k).length : Int)) (by kernel_rfl) rfl (by kernel_rfl) (by kernel_rfl) rfl rfl rfl rfl S (fun wq Sq => (run_len_rd Try.underlying32 (St.rdRow (n := 0) Sq rfl) rfl)) ?_
            refine any_quiet 3 37 (.bool (decide ((j : Int) < ((rkTo base k).length : Int)))) (by kernel_rfl) rfl (by kernel_rfl) (by kernel_rfl) rfl rfl rfl rfl S (fun wq Sq => (run_pv rfl)) ?_
            refine any_quiet 4 38 (.bool (decide ((j : Int) < ((rkTo base k).length : Int)))) (by kernel_rfl) rfl (by kernel_rfl) (by kernel_rfl) rfl rfl rfl rfl S (fun wq Sq => (run_pv rfl)) ?_
            refine any_case 38 (decide ((j : Int) < ((rkTo base k).length : Int))) rfl (fun h5 => ?_) (fun h5 => ?_)
            · have p5 := h5; try simp only [decide_eq_true_eq, decide_eq_false_iff_not, Bool.and_eq_true, Bool.or_eq_true, Bool.not_eq_true', Bool.or_eq_false_iff, Bool.not_eq_false', Int.not_lt, Int.not_le, gt_iff_lt, ge_iff_le, Decidable.not_not] at p5
              have k5 : (Op.bytesLess ((rkTo base k).getD j []) ((base.getD k default).key)) = false := (by simpa only [h5, Bool.true_and] using h4)
              have pk5 := k5; try simp only [decide_eq_true_eq, decide_eq_false_iff_not, Bool.and_eq_true, Bool.or_eq_true, Bool.not_eq_true', Bool.or_eq_false_iff, Bool.not_eq_false', Int.not_lt, Int.not_le, gt_iff_lt, ge_iff_le, Decidable.not_not] at pk5
              refine any_quiet 5 39 (vo) (by kernel_rfl) rfl (by kernel_rfl) (by kernel_rfl) rfl rfl rfl rfl S (fun wq Sq => (run_pv rfl)) ?_
              refine any_quiet 6 40 (i64 (j : Int)) (by kernel_rfl) rfl (by kernel_rfl) (by kernel_rfl) rfl rfl rfl rfl S (fun wq Sq => (run_pv rfl)) ?_
              refine any_quiet 7 41 (.pointer (some ((adr vo).add (j * 1)))) (by kernel_rfl) rfl (by kernel_rfl) (by kernel_rfl) rfl rfl rfl rfl S (fun wq Sq => (run_index_rd (i := j) sl32 (St.rdRow (n := 0) Sq rfl) rfl rfl (by omega))) ?_
              refine any_quiet 8 42 (str ((rkTo base k).getD j [])) (by kernel_rfl) rfl (by kernel_rfl) (by kernel_rfl) rfl rfl rfl rfl S (fun wq Sq => (run_load_scal sc9 rfl (cell0 (Rd.at' (d := []) (j := 0) (St.rdRow (n := 0) Sq rfl) (by omega) rfl)))) ?_
              refine any_quiet 9 43 (vbase) (by kernel_rfl) rfl (by kernel_rfl) (by kernel_rfl) rfl rfl rfl rfl S (fun wq Sq => (run_pv rfl)) ?_
              refine any_quiet 10 44 (i64 (k : Int)) (by kernel_rfl) rfl (by kernel_rfl) (by kernel_rfl) rfl rfl rfl rfl S (fun wq Sq => (run_pv rfl)) ?_
              refine any_quiet 11 45 (.pointer (some ((adr vbase).add (k * 5)))) (by kernel_rfl) rfl (by kernel_rfl) (by kernel_rfl) rfl rfl rfl rfl S (fun wq Sq => (run_index_rd (i := k) sl22 (St.rd Sq hbase) rfl rfl (by omega))) ?_
              refine any_quiet 12 46 (.pointer (some (((adr vbase).add (k * 5)).add 0))) (by kernel_rfl) rfl (by kernel_rfl) (by kernel_rfl) rfl rfl rfl rfl S (fun wq Sq => (run_fieldAddr fd24_0 rfl)) ?_
              refine any_quiet 13 47 (str ((base.getD k default).key)) (by kernel_rfl) rfl (by kernel_rfl) (by kernel_rfl) rfl rfl rfl rfl S (fun wq Sq => (run_load_scal sc9 rfl (Rd.at' (d := default) (j := 0) (St.rd Sq hbase) (by omega) rfl))) ?_
              refine any_quiet 14 48 (.bool (decide (((rkTo base k).getD j []) = (base.getD k default).key))) (by kernel_rfl) rfl (by kernel_rfl) (by kernel_rfl) rfl rfl rfl rfl S (fun wq Sq => (run_pv rfl)) ?_
              refine any_quiet 15 49 (.bool (decide (((rkTo base k).getD j []) = (base.getD k default).key))) (by kernel_rfl) rfl (by kernel_rfl) (by kernel_rfl) rfl rfl rfl rfl S (fun wq Sq => (run_pv rfl)) ?_
              refine any_done (by kernel_rfl) ?_
              refine nrm_then ?_
              exact ⟨⟨rfl, rfl, rfl, rfl, congrArg Value.bool (by simp only [h1, k2, h2, h4, h5, k5, Bool.true_and, Bool.false_and, Bool.and_true, Bool.and_false, Bool.true_or, Bool.false_or, Bool.or_true, Bool.or_false, Bool.not_true, Bool.not_false]), trivial⟩, rfl, S⟩
            · have p5 := h5; try simp only [decide_eq_true_eq, decide_eq_false_iff_not, Bool.and_eq_true, Bool.or_eq_true, Bool.not_eq_true', Bool.or_eq_false_iff, Bool.not_eq_false', Int.not_lt, Int.not_le, gt_iff_lt, ge_iff_le, Decidable.not_not] at p5
              refine any_pass 5 39 (by kernel_rfl) rfl (by kernel_rfl) rfl rfl rfl rfl (sd_of S) ?_
              refine any_pass 6 40 (by kernel_rfl) rfl (by kernel_rfl) rfl rfl rfl rfl (sd_of S) ?_
              refine any_pass 7 41 (by kernel_rfl) rfl (by kernel_rfl) rfl rfl rfl rfl (sd_of S) ?_
              refine any_pass 8 42 (by kernel_rfl) rfl (by kernel_rfl) rfl rfl rfl rfl (sd_of S) ?_
              refine any_pass 9 43 (by kernel_rfl) rfl (by kernel_rfl) rfl rfl rfl rfl (sd_of S) ?_
              refine any_pass 10 44 (by kernel_rfl) rfl (by kernel_rfl) rfl rfl rfl rfl (sd_of S) ?_
              refine any_pass 11 45 (by kernel_rfl) rfl (by kernel_rfl) rfl rfl rfl rfl (sd_of S) ?_
              refine any_pass 12 46 (by kernel_rfl) rfl (by kernel_rfl) rfl rfl rfl rfl (sd_of S) ?_
              refine any_pass 13 47 (by kernel_rfl) rfl (by kernel_rfl) rfl rfl rfl rfl (sd_of S) ?_
              refine any_pass 14 48 (by kernel_rfl) rfl (by kernel_rfl) rfl rfl rfl rfl (sd_of S) ?_
              refine any_quiet 15 49 (.bool false) (by kernel_rfl) rfl (by kernel_rfl) (by kernel_rfl) rfl rfl rfl rfl S (fun wq Sq => (run_pv rfl)) ?_
              refine any_done (by kernel_rfl) ?_
              refine nrm_then ?_
              exact ⟨⟨rfl, rfl, rfl, rfl, congrArg Value.bool (by simp only [h1, k2, h2, h4, h5, Bool.true_and, Bool.false_and, Bool.and_true, Bool.and_false, Bool.true_or, Bool.false_or, Bool.or_true, Bool.or_false, Bool.not_true, Bool.not_false]), trivial⟩, rfl, S⟩
          · clear S; intro ρ0 w7 S
            refine nrm_then ?_
            refine w_cond ((decide ((j : Int) < ((rkTo base k).length : Int))) && (decide (((rkTo base k).getD j []) = (base.getD k default).key))) rfl (fun h6 => ?_) (fun h6 => ?_)
            · have p6 := h6; try simp only [decide_eq_true_eq, decide_eq_false_iff_not, Bool.and_eq_true, Bool.or_eq_true, Bool.not_eq_true', Bool.or_eq_false_iff, Bool.not_eq_false', Int.not_lt, Int.not_le, gt_iff_lt, ge_iff_le, Decidable.not_not] at p6
              have k6 : (decide ((j : Int) < ((rkTo base k).length : Int))) = true := (Bool.and_eq_true_iff.1 h6).1
              have pk6 := k6; try simp only [decide_eq_true_eq, decide_eq_false_iff_not, Bool.and_eq_true, Bool.or_eq_true, Bool.not_eq_true', Bool.or_eq_false_iff, Bool.not_eq_false', Int.not_lt, Int.not_le, gt_iff_lt, ge_iff_le, Decidable.not_not] at pk6
              have k7 : (decide (((rkTo base k).getD j []) = (base.getD k default).key)) = true := (Bool.and_eq_true_iff.1 h6).2
              have pk7 := k7; try simp only [decide_eq_true_eq, decide_eq_false_iff_not, Bool.and_eq_true, Bool.or_eq_true, Bool.not_eq_true', Bool.or_eq_false_iff, Bool.not_eq_false', Int.not_lt, Int.not_le, gt_iff_lt, ge_iff_le, Decidable.not_not] at pk7
              have k8 : (Op.bytesLess ((rkTo base k).getD j []) ((base.getD k default).key)) = false := (by simpa only [k6, Bool.true_and] using h4)
              have pk8 := k8; try simp only [decide_eq_true_eq, decide_eq_false_iff_not, Bool.and_eq_true, Bool.or_eq_true, Bool.not_eq_true', Bool.or_eq_false_iff, Bool.not_eq_false', Int.not_lt, Int.not_le, gt_iff_lt, ge_iff_le, Decidable.not_not] at pk8
              refine w_exit ?_
              refine exit_then ?_
              refine exit_blk ?_
              refine nrm_then ?_
              refine w_region ?_
              refine ops_val 14 (i64 (k : Int)) rfl rfl rfl rfl (run_pv rfl) ?_
              refine ops_val 15 (i64 ((k : Int) + 1)) rfl rfl rfl rfl (run_wr rfl (by omega) (by omega)) ?_
              refine ops_val 4 (i64 ((k : Int) + 1)) rfl rfl rfl rfl (run_pv rfl) ?_
              refine ops_nil ?_
              refine nrm_then ?_
              have hpj := ins_pos (l := rkTo base k) (key := (base.getD k default).key) j hj hall (ins_not h4)
              have hst : (rkTo base k) = (rkTo base (k + 1)) := by simp only [rkTo, rkIns, hpj, h1, k2, h2, h4, h6, k6, k7, k8, List.cons_append, List.nil_append, if_true, if_false, Bool.false_eq_true, reduceIte, Bool.true_and, Bool.and_true, Bool.false_and, Bool.and_false, Bool.not_true, Bool.not_false, Bool.true_or, Bool.false_or, Bool.or_true, Bool.or_false]
              rw [hst] at S
              exact ⟨rfl, (k + 1, vo), ⟨(by first | rfl | exact congrArg i64 (by omega)), (by first | rfl | exact congrArg i64 (by omega)), (by first | rfl | exact congrArg i64 (by omega)), trivial⟩, ⟨S, by omega⟩, by dsimp only; omega⟩
            · have p6 := h6; try simp only [decide_eq_true_eq, decide_eq_false_iff_not, Bool.and_eq_true, Bool.or_eq_true, Bool.not_eq_true', Bool.or_eq_false_iff, Bool.not_eq_false', Int.not_lt, Int.not_le, gt_iff_lt, ge_iff_le, Decidable.not_not] at p6
              refine w_skip ?_
              refine nrm_then ?_
              refine w_seq ?_
              refine w_draw 9 (fun w' => Eng.St w [.row 9 1 vo ((rkTo base k).map Eng.encS)] w') Try.mixed ?_
              intro w8 hw'; replace S := Eng.St.drew S; rw [← hw'] at S
              clear hw'
              refine any_quiet 0 50 (vbase) (by kernel_rfl) rfl (by kernel_rfl) (by kernel_rfl) rfl rfl rfl rfl S (fun wq Sq => (run_pv rfl)) ?_
              refine any_quiet 1 51 (i64 (k : Int)) (by kernel_rfl) rfl (by kernel_rfl) (by kernel_rfl) rfl rfl rfl rfl S (fun wq Sq => (run_pv rfl)) ?_
              refine any_quiet 2 52 (.pointer (some ((adr vbase).add (k * 5)))) (by kernel_rfl) rfl (by kernel_rfl) (by kernel_rfl) rfl rfl rfl rfl S (fun wq Sq => (run_index_rd (i := k) sl22 (St.rd Sq hbase) rfl rfl (by omega))) ?_
              refine any_quiet 3 53 (.pointer (some (((adr vbase).add (k * 5)).add 0))) (by kernel_rfl) rfl (by kernel_rfl) (by kernel_rfl) rfl rfl rfl rfl S (fun wq Sq => (run_fieldAddr fd24_0 rfl)) ?_
              refine any_quiet 4 54 (str ((base.getD k default).key)) (by kernel_rfl) rfl (by kernel_rfl) (by kernel_rfl) rfl rfl rfl rfl S (fun wq Sq => (run_load_scal sc9 rfl (Rd.at' (d := default) (j := 0) (St.rd Sq hbase) (by omega) rfl))) ?_
              refine any_quiet 6 56 (vo) (by kernel_rfl) rfl (by kernel_rfl) (by kernel_rfl) rfl rfl rfl rfl S (fun wq Sq => (run_pv rfl)) ?_
              refine any_quiet 7 57 (i64 (j : Int)) (by kernel_rfl) rfl (by kernel_rfl) (by kernel_rfl) rfl rfl rfl rfl S (fun wq Sq => (run_pv rfl)) ?_
              refine any_quiet 8 58 ((Eng.sub 1 vo j (rkTo base k).length)) (by kernel_rfl) rfl (by kernel_rfl) (by kernel_rfl) rfl rfl rfl rfl S (fun wq Sq => (run_sub_l (i := (j : Int)) sl32 (St.rdRow (n := 0) Sq rfl) rfl rfl (by omega) (by omega))) ?_
              refine any_loud1 5 (by kernel_rfl) rfl ?_
              refine ops_buildSlice [(0, str ((base.getD k default).key))] [[str ((base.getD k default).key)]] sT32 S rfl rfl rfl (by kernel_rfl) rfl rfl rfl rfl ?_
              clear S; intro v1 w9 S
              replace S : Eng.St w [.row 9 1 v1 (([(base.getD k default).key]).map Eng.encS), .row 9 1 vo ((rkTo base k).map Eng.encS)] w9 := S
              refine ops_nil ?_
              refine nrm_then ⟨fun _ => (Eng.St.drop S), ?_⟩
              refine any_loud1 9 (by kernel_rfl) rfl ?_
              refine ops_append sT32 S rfl rfl rfl rfl (Rd.subl (St.rdRow (n := 1) S rfl) (by omega)) (fun _ => rfl) (fun _ => rfl) (by first | omega | (simp only [List.length_map, List.length_cons, List.length_nil, List.length_append, List.length_drop, List.length_take]; omega)) (by first | omega | (simp only [List.length_map, List.length_cons, List.length_nil, List.length_append, List.length_drop, List.length_take]; omega)) ?_
              clear S; intro v2 w10 S
              rw [← List.map_append] at S
              replace S : Eng.St w [.row 9 1 v2 (([(base.getD k default).key] ++ ((rkTo base k).drop j)).map Eng.encS), .row 9 1 vo ((rkTo base k).map Eng.encS)] w10 := S
              refine ops_nil ?_
              refine nrm_then ⟨fun h => (by cases h), ?_⟩
              refine any_pure 10 6 (v2) (by kernel_rfl) rfl (by kernel_rfl) rfl rfl rfl rfl (by kernel_rfl) (fun wq => (run_pv rfl)) ?_
              refine any_done (by kernel_rfl) ?_
              refine nrm_then ?_
              refine w_region ?_
              refine ops_val 60 (vo) rfl rfl rfl rfl (run_pv rfl) ?_
              refine ops_val 61 (i64 (j : Int)) rfl rfl rfl rfl (run_pv rfl) ?_
              refine ops_val 62 ((Eng.sub 1 vo 0 j)) rfl rfl rfl rfl (run_sub_h (i := (j : Int)) sl32 (St.rdRow (n := 1) S rfl) rfl rfl (by omega) (by omega)) ?_
              refine ops_val 63 (v2) rfl rfl rfl rfl (run_pv rfl) ?_
              replace S := S.f1
              replace S := S.trunc j (by simp only [List.length_map]; omega)
              rw [← List.map_take] at S
              replace S : Eng.St w [.row 9 1 (Eng.sub 1 vo 0 j) (((rkTo base k).take j).map Eng.encS), .row 9 1 v2 (([(base.getD k default).key] ++ ((rkTo base k).drop j)).map Eng.encS)] w10 := S
              refine ops_append sT32 S rfl rfl rfl rfl (St.rdRow (n := 1) S rfl) (fun _ => rfl) (fun _ => rfl) (by first | omega | (simp only [List.length_map, List.length_cons, List.length_nil, List.length_append, List.length_drop, List.length_take]; omega)) (by first | omega | (simp only [List.length_map, List.length_cons, List.length_nil, List.length_append, List.length_drop, List.length_take]; omega)) ?_
              clear S; intro v3 w11 S
              rw [← List.map_append] at S
              replace S : Eng.St w [.row 9 1 v3 ((((rkTo base k).take j) ++ ([(base.getD k default).key] ++ ((rkTo base k).drop j))).map Eng.encS), .row 9 1 v2 (([(base.getD k default).key] ++ ((rkTo base k).drop j)).map Eng.encS)] w11 := S
              refine ops_val 3 (v3) rfl rfl rfl rfl (run_pv rfl) ?_
              refine ops_nil ?_
              refine nrm_blk ?_
              refine nrm_then ?_
              refine w_region ?_
              refine ops_val 14 (i64 (k : Int)) rfl rfl rfl rfl (run_pv rfl) ?_
              refine ops_val 15 (i64 ((k : Int) + 1)) rfl rfl rfl rfl (run_wr rfl (by omega) (by omega)) ?_
              refine ops_val 4 (i64 ((k : Int) + 1)) rfl rfl rfl rfl (run_pv rfl) ?_
              refine ops_nil ?_
              refine nrm_then ?_
              replace S := S.f1
              replace S := S.drop
              have hpj := ins_pos (l := rkTo base k) (key := (base.getD k default).key) j hj hall (ins_not h4)
              have hst : (((rkTo base k).take j) ++ ([(base.getD k default).key] ++ ((rkTo base k).drop j))) = (rkTo base (k + 1)) := by simp only [rkTo, rkIns, hpj, h1, k2, h2, h4, h6, List.cons_append, List.nil_append, if_true, if_false, Bool.false_eq_true, reduceIte, Bool.true_and, Bool.and_true, Bool.false_and, Bool.and_false, Bool.not_true, Bool.not_false, Bool.true_or, Bool.false_or, Bool.or_true, Bool.or_false]
              rw [hst] at S
              exact ⟨rfl, (k + 1, v3), ⟨(by first | rfl | exact congrArg i64 (by omega)), (by first | rfl | exact congrArg i64 (by omega)), (by first | rfl | exact congrArg i64 (by omega)), trivial⟩, ⟨S, by omega⟩, by dsimp only; omega⟩
    · have p2 := h2; try simp only [decide_eq_true_eq, decide_eq_false_iff_not, Bool.and_eq_true, Bool.or_eq_true, Bool.not_eq_true', Bool.or_eq_false_iff, Bool.not_eq_false', Int.not_lt, Int.not_le, gt_iff_lt, ge_iff_le, Decidable.not_not] at p2
      refine w_exit ?_
      refine exit_then ?_
      refine exit_then ?_
      refine exit_blk ?_
      refine nrm_then ?_
      refine w_seq ?_
      refine w_region ?_
      refine ops_val 65 (vo) rfl rfl rfl rfl (run_pv rfl) ?_
      refine ops_val 2 (vo) rfl rfl rfl rfl (run_pv rfl) ?_
      refine ops_nil ?_
      refine nrm_then ?_
      refine w_ret ?_
      have hres : (rkTo base k) = (rkeysOf base) := by (have e : k = base.length := by omega); subst e; simp only [rkeysOf, h1, k2, h2, if_true, if_false, Bool.false_eq_true, reduceIte, Bool.true_and, Bool.and_true, Bool.false_and, Bool.and_false, Bool.not_true, Bool.not_false, Bool.true_or, Bool.false_or, Bool.or_true, Bool.or_false]
      rw [hres] at S
      exact fin_row (n := 0) rfl S rfl rfl
theorem sample_is  (w : World)  : FnRow Try.prog 24 [] w 24 5 encFact sampleL := by
  refine fn_of_wp (N := 5) Try.func24 rfl rfl rfl ?_
  intro S
  refine w_seq ?_
  refine w_region ?_
  refine ops_val 0 (.slice none 0 0) rfl rfl rfl rfl (run_pv rfl) ?_
  refine ops_nil ?_
  refine nrm_then ?_
  refine w_seq ?_
  refine w_region ?_
  refine ops_val 1 (.agg #[str ([97, 114, 101, 97]), i64 100, i64 0, i64 0, i64 5]) rfl rfl rfl rfl (run_buildS [(0, str ([97, 114, 101, 97])), (1, i64 100), (4, i64 5)] [str ([97, 114, 101, 97]), i64 100, i64 0, i64 0, i64 5] rfl (by kernel_rfl)) ?_
  refine ops_val 2 (.agg #[str ([97, 114, 101, 97]), i64 90, i64 10, i64 20, i64 8]) rfl rfl rfl rfl (run_buildS [(0, str ([97, 114, 101, 97])), (1, i64 90), (2, i64 10), (3, i64 20), (4, i64 8)] [str ([97, 114, 101, 97]), i64 90, i64 10, i64 20, i64 8] rfl (by kernel_rfl)) ?_
  refine ops_val 3 (.agg #[str ([97, 114, 101, 97]), i64 95, i64 15, i64 0, i64 12]) rfl rfl rfl rfl (run_buildS [(0, str ([97, 114, 101, 97])), (1, i64 95), (2, i64 15), (4, i64 12)] [str ([97, 114, 101, 97]), i64 95, i64 15, i64 0, i64 12] rfl (by kernel_rfl)) ?_
  refine ops_buildSlice [(0, .agg #[str ([97, 114, 101, 97]), i64 100, i64 0, i64 0, i64 5]), (1, .agg #[str ([97, 114, 101, 97]), i64 90, i64 10, i64 20, i64 8]), (2, .agg #[str ([97, 114, 101, 97]), i64 95, i64 15, i64 0, i64 12])] [[str ([97, 114, 101, 97]), i64 100, i64 0, i64 0, i64 5], [str ([97, 114, 101, 97]), i64 90, i64 10, i64 20, i64 8], [str ([97, 114, 101, 97]), i64 95, i64 15, i64 0, i64 12]] sT22 S rfl rfl rfl (by kernel_rfl) rfl rfl rfl rfl ?_
  clear S; intro v1 w1 S
  replace S : Eng.St w [.row 24 5 v1 (([({ key := [97, 114, 101, 97], value := 100, from_ := 0, until_ := 0, known := 5 } : Fact), ({ key := [97, 114, 101, 97], value := 90, from_ := 10, until_ := 20, known := 8 } : Fact), ({ key := [97, 114, 101, 97], value := 95, from_ := 15, until_ := 0, known := 12 } : Fact)]).map encFact)] w1 := S
  refine ops_val 0 (v1) rfl rfl rfl rfl (run_pv rfl) ?_
  refine ops_nil ?_
  refine nrm_then ?_
  refine w_ret ?_
  have hres : [({ key := [97, 114, 101, 97], value := 100, from_ := 0, until_ := 0, known := 5 } : Fact), ({ key := [97, 114, 101, 97], value := 90, from_ := 10, until_ := 20, known := 8 } : Fact), ({ key := [97, 114, 101, 97], value := 95, from_ := 15, until_ := 0, known := 12 } : Fact)] = sampleL := by rfl
  rw [hres] at S
  exact fin_row (n := 0) rfl S rfl rfl
end
