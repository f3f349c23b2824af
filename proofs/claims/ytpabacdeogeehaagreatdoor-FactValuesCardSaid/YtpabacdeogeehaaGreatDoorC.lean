/- The iterator of the facts of a key; its walk is that of the old engine, turned. -/
import Derived.Test.YtpabacdeogeehaaGreatDoorB
import Derived.Test.YtpabacdeogeehaaGreatDoorEvTwo
set_option linter.all false
set_option maxRecDepth 100000
namespace Go.Proofs.YtpabacdeogeehaaGreatDoor
open Go Go.RowKit Go.Eng Go.EV
def condB (base : List Fact) (key : List UInt8) (known : Int) (i : Int) : Bool := decide ((base.getD i.toNat default).Key = key) && decide ((base.getD i.toNat default).Known ≤ known)
def lastFrom (base : List Fact) (key : List UInt8) (known : Int) : Nat → List Int
 | 0 => []
 | n + 1 => if condB base key known n then (n : Int) :: lastFrom base key known n else lastFrom base key known n
def lastIdx (base : List Fact) (key : List UInt8) (known : Int) : List Int := lastFrom base key known base.length
theorem lastFrom_step (base : List Fact) (key : List UInt8) (known : Int) (n : Nat) (h : 1 ≤ n) : lastFrom base key known n = if condB base key known ((n : Int) - 1) then ((n : Int) - 1) :: lastFrom base key known (n - 1) else lastFrom base key known (n - 1) := by
 obtain ⟨m, rfl⟩ : ∃ m, n = m + 1 := ⟨n - 1, by omega⟩
 have e : ((m + 1 : Nat) : Int) - 1 = (m : Int) := by omega
 rw [e]; rfl
theorem last_prefix (base : List Fact) (key : List UInt8) (known : Int) (n : Nat) (pre : List Int) (h : 1 ≤ n) (hp : pre ++ lastFrom base key known n = lastIdx base key known) (hc : condB base key known ((n : Int) - 1) = true) :
  pre ++ [(n : Int) - 1] <+: lastIdx base key known := by
 rw [← hp, lastFrom_step base key known n h, hc]
 exact ⟨lastFrom base key known (n - 1), by simp⟩
def encF (f : Fact) : List Value := [.string ⟨f.Key.toArray⟩, .int .i64 f.Value, .int .i64 f.From, .int .i64 f.Until, .int .i64 f.Known]
theorem encF_of {Z : ZM} (a : Fact) (xs : List Value) (h : RepL none Z (enc_Fact a) xs) : xs = encF a := by
 obtain ⟨x1, y1, rfl, rfl, x2, y2, rfl, rfl, x3, y3, rfl, rfl, x4, y4, rfl, rfl, x5, y5, rfl, rfl, rfl⟩ := h
 rfl
theorem sc3 : Scal Tryz.prog 3 := scal_of (by kernel_rfl)
theorem fd51_0 : FieldT Tryz.prog 48 0 0 := field_of (by kernel_rfl)
theorem fd51_4 : FieldT Tryz.prog 48 4 4 := field_of (by kernel_rfl)
theorem sc9 : Scal Tryz.prog 9 := scal_of (by kernel_rfl)
theorem sl22 : IsSliceT Tryz.prog 22 48 5 := slice_of (by kernel_rfl)
theorem sc22 : Scal Tryz.prog 22 := scal_of (by kernel_rfl)
theorem mixed46 : Tryz.prog.follows .mixedOrders = true := by kernel_rfl
def ival (n : Int) : Value := .int .i64 n
def NeedLast (b1 b2 b3 : Nat) (vb : Value) (base : List Fact) (key : List UInt8) (known : Int) (W : World) : Prop :=
 W.cell? ⟨b1, 0, none⟩ = some vb ∧ W.cell? ⟨b2, 0, none⟩ = some (str key) ∧ W.cell? ⟨b3, 0, none⟩ = some (i64 known) ∧ Rd W encF 5 vb base
theorem iter_last (k1 k2 k3 : Nat) (base : List Fact) (key : List UInt8) (known : Int) : IterV Tryz.prog 59 [.ptr k1 0 0, .ptr k2 0 0, .ptr k3 0 0] [(k1, .box 22 [.vs 5 (List.map enc_Fact base)]), (k2, .box 9 [.str key]), (k3, .box 3 [.int .i64 known])] ival (lastIdx base key known) := by
 intro lb l J Jx w D hneed hJs hJxs hY h0
 obtain ⟨m0, _, hr0⟩ := hneed [] D w h0
 obtain ⟨x1, xs1, rfl, ⟨f1, ⟨b1, c1⟩, e1, hl1, rfl⟩, x2, xs2, rfl, ⟨f2, ⟨b2, c2⟩, e2, hl2, rfl⟩, x3, xs3, rfl, ⟨f3, ⟨b3, c3⟩, e3, hl3, rfl⟩, rfl⟩ := hr0
 have need : ∀ pre D1 w, J pre D1 w → ∃ vb, NeedLast b1 b2 b3 vb base key known w := fun pre D1 w j => by
  obtain ⟨m, hs, hr⟩ := hneed pre D1 w j
  obtain ⟨x1, xs1, q1, ⟨f1, p1, e1, hl1, r1⟩, x2, xs2, q2, ⟨f2, p2, e2, hl2, r2⟩, x3, xs3, q3, ⟨f3, p3, e3, hl3, r3⟩, q4⟩ := hr
  cases e1; cases e2; cases e3; cases q1; cases q2; cases q3; cases q4
  simp only [Value.pointer.injEq, Option.some.injEq, Addr.mk.injEq, and_true] at r1 r2 r3
  obtain ⟨g1, cur1, d1, d2, d3, _⟩ := hs.holds _ (List.mem_cons_self ..)
  obtain ⟨g2, cur2, d4, d5, d6, _⟩ := hs.holds _ (List.mem_cons_of_mem _ (List.mem_cons_self ..))
  obtain ⟨g3, cur3, d7, d8, d9, _⟩ := hs.holds _ (List.mem_cons_of_mem _ (List.mem_cons_of_mem _ (List.mem_cons_self ..)))
  rw [d1] at hl1; cases hl1
  rw [d4] at hl2; cases hl2
  rw [d7] at hl3; cases hl3
  simp only at r1 r2 r3
  obtain ⟨v1, t1, h1, h2, h3⟩ := d3
  obtain ⟨v2, t2, h4, h5, h6⟩ := d6
  obtain ⟨v3, t3, h7, h8, h9⟩ := d9
  refine ⟨v1, ?_, ?_, ?_, rd_of (fun _ => rfl) encF_of hs.frozen (Rep.flat _ _ rfl h2)⟩
  ·rw [r1, cell_of_row w g1 0 cur1 _ _ d2]; rw [← Array.getElem?_toList, h1]; rfl
  ·rw [r2, cell_of_row w g2 0 cur2 _ _ d5]; rw [← Array.getElem?_toList, h4]; exact congrArg some h5
  ·rw [r3, cell_of_row w g3 0 cur3 _ _ d8]; rw [← Array.getElem?_toList, h7]; exact congrArg some h8
 obtain ⟨R, hR⟩ : ∃ R : Value → World → Prop, R = fun _ w' => ∃ D', Only D w w' ∧ Grows D D' w ∧ (J (lastIdx base key known) D' w' ∨ ∃ pre, pre <+: lastIdx base key known ∧ Jx pre D' w') := ⟨_, rfl⟩
 refine Calls.mono (calls_of_wpM (N := 35) (R := R) Tryz.func59 rfl rfl rfl ?_) (fun _ _ ⟨v, he, hr⟩ => ⟨⟨v, he⟩, by rw [hR] at hr; exact hr⟩)
 have finX : ∀ {fn : Func} {own pre D1 w2 ds ρ}, fn.results = #[] → NSt w D Jx own pre D1 w2 ds → pre <+: lastIdx base key known → finM Tryz.prog fn R .ret ρ ds w2 := fun {fn own pre D1 w2 ds ρ} hr S hp => S.fin (hJxs pre) hr fun w' h1 h2 h3 => by rw [hR]; exact ⟨D1, h2, h3, .inr ⟨pre, hp, h1⟩⟩
 have finJ : ∀ {fn : Func} {own D1 w2 ds ρ}, fn.results = #[] → NSt w D J own (lastIdx base key known) D1 w2 ds → finM Tryz.prog fn R .ret ρ ds w2 := fun {fn own D1 w2 ds ρ} hr S => S.fin (hJs _) hr fun w' h1 h2 h3 => by rw [hR]; exact ⟨D1, h2, h3, .inl h1⟩
 have S := Eng.St.start w
 obtain ⟨vbase, hn1, hn2, hn3, hb⟩ := need [] D w h0
 have hlen := hb.len
 refine w_seq ?_
 refine w_region ?_
 refine ops_val 6 (vbase) rfl rfl rfl rfl (run_load_scal sc22 rfl (Eng.St.ro S hn1)) ?_
 refine ops_val 7 (i64 (base.length : Int)) rfl rfl rfl rfl (run_len_rd Tryz.underlying22 (St.rd S hb) rfl) ?_
 refine ops_val 8 (i64 ((base.length : Int) - 1)) rfl rfl rfl rfl (run_wr rfl (by omega) (by omega)) ?_
 refine ops_val 5 (i64 ((base.length : Int) - 1)) rfl rfl rfl rfl (run_pv rfl) ?_
 refine ops_nil ?_
 refine nrm_then ?_
 refine w_block ?_
 refine w_loop (G := Nat × (List Int)) (fun ⟨n, pre⟩ => [(0, .func (.yield l) #[] #[]), (1, .pointer (some ⟨b1, 0, none⟩)), (2, .pointer (some ⟨b2, 0, none⟩)), (3, .pointer (some ⟨b3, 0, none⟩)), (5, i64 ((n : Int) - 1))]) (fun ⟨n, pre⟩ w' => n ≤ base.length ∧ (∃ D1, NSt w D J [] pre D1 w' []) ∧ pre ++ lastFrom base key known n = lastIdx base key known) (fun ⟨n, pre⟩ => n) (base.length, []) ⟨rfl, rfl, rfl, rfl, rfl, trivial⟩ ⟨Nat.le_refl _, ⟨D, NSt.begin h0 (by simp)⟩, rfl⟩ ?_
 clear S; rintro ⟨n, pre⟩ ρ0 w1 ⟨hnl, ⟨D1, hJ⟩, hpre⟩
 have S := St.start w1
 clear hn1 hn2 hn3 hb
 obtain ⟨vbase, hn1, hn2, hn3, hb⟩ := need _ _ _ hJ.j
 refine w_seq ?_
 refine w_seq ?_
 refine w_region ?_
 refine ops_val 9 (i64 ((n : Int) - 1)) rfl rfl rfl rfl (run_pv rfl) ?_
 refine ops_val 10 (.bool (decide (((n : Int) - 1) ≥ 0))) rfl rfl rfl rfl (run_pv rfl) ?_
 refine ops_nil ?_
 refine nrm_then ?_
 refine w_cond (decide (((n : Int) - 1) ≥ 0)) rfl (fun h1 => ?_) (fun h1 => ?_)
 ·have p1 := h1; try simp only [decide_eq_true_eq, decide_eq_false_iff_not, Bool.and_eq_true, Bool.or_eq_true, Bool.not_eq_true', Bool.or_eq_false_iff, Bool.not_eq_false', Int.not_lt, Int.not_le, gt_iff_lt, ge_iff_le, Decidable.not_not] at p1
  refine w_skip ?_
  refine nrm_then ?_
  refine w_seq ?_
  refine w_block ?_
  refine w_seq ?_
  refine w_draw 19 (fun w' => Eng.St w1 [] w') mixed46 ?_
  intro w2 hw'; replace S := Eng.St.drew S; rw [← hw'] at S
  replace hJ : NSt w D J [] pre D1 (Go.World.drew w1) [] := hJ.turn (hJs pre) (row := none) ⟨rfl, rfl, rfl, Nat.le_refl _, fun _ _ _ => rfl⟩ (fun b e => (by cases e)); rw [← hw'] at hJ
  clear hw'
  refine any_quiet 0 13 (vbase) (by kernel_rfl) rfl (by kernel_rfl) (by kernel_rfl) rfl rfl rfl rfl S (fun wq Sq => (run_load_scal sc22 rfl (Eng.St.ro Sq hn1))) ?_
  refine any_quiet 1 14 (i64 ((n : Int) - 1)) (by kernel_rfl) rfl (by kernel_rfl) (by kernel_rfl) rfl rfl rfl rfl S (fun wq Sq => (run_pv rfl)) ?_
  refine any_quiet 2 15 (.pointer (some ((adr vbase).add (((n : Int) - 1).toNat * 5)))) (by kernel_rfl) rfl (by kernel_rfl) (by kernel_rfl) rfl rfl rfl rfl S (fun wq Sq => (run_index_rdI sl22 (St.rd Sq hb) rfl rfl (by omega) (by omega))) ?_
  refine any_quiet 3 16 (.pointer (some (((adr vbase).add (((n : Int) - 1).toNat * 5)).add 0))) (by kernel_rfl) rfl (by kernel_rfl) (by kernel_rfl) rfl rfl rfl rfl S (fun wq Sq => (run_fieldAddr fd51_0 rfl)) ?_
  refine any_quiet 4 17 (str ((base.getD ((n : Int) - 1).toNat default).Key)) (by kernel_rfl) rfl (by kernel_rfl) (by kernel_rfl) rfl rfl rfl rfl S (fun wq Sq => (run_load_scal sc9 rfl (Rd.at' (d := default) (j := 0) (St.rd Sq hb) (by omega) rfl))) ?_
  refine any_quiet 5 18 (str key) (by kernel_rfl) rfl (by kernel_rfl) (by kernel_rfl) rfl rfl rfl rfl S (fun wq Sq => (run_load_scal sc9 rfl (Eng.St.ro Sq hn2))) ?_
  refine any_quiet 6 19 (.bool (decide ((base.getD ((n : Int) - 1).toNat default).Key = key))) (by kernel_rfl) rfl (by kernel_rfl) (by kernel_rfl) rfl rfl rfl rfl S (fun wq Sq => (run_pv rfl)) ?_
  refine any_quiet 7 20 (.bool (decide ((base.getD ((n : Int) - 1).toNat default).Key = key))) (by kernel_rfl) rfl (by kernel_rfl) (by kernel_rfl) rfl rfl rfl rfl S (fun wq Sq => (run_pv rfl)) ?_
  refine any_case 20 (decide ((base.getD ((n : Int) - 1).toNat default).Key = key)) rfl (fun h2 => ?_) (fun h2 => ?_)
  ·have p2 := h2; try simp only [decide_eq_true_eq, decide_eq_false_iff_not, Bool.and_eq_true, Bool.or_eq_true, Bool.not_eq_true', Bool.or_eq_false_iff, Bool.not_eq_false', Int.not_lt, Int.not_le, gt_iff_lt, ge_iff_le, Decidable.not_not] at p2
   refine any_quiet 8 21 (vbase) (by kernel_rfl) rfl (by kernel_rfl) (by kernel_rfl) rfl rfl rfl rfl S (fun wq Sq => (run_load_scal sc22 rfl (Eng.St.ro Sq hn1))) ?_
   refine any_quiet 9 22 (i64 ((n : Int) - 1)) (by kernel_rfl) rfl (by kernel_rfl) (by kernel_rfl) rfl rfl rfl rfl S (fun wq Sq => (run_pv rfl)) ?_
   refine any_quiet 10 23 (.pointer (some ((adr vbase).add (((n : Int) - 1).toNat * 5)))) (by kernel_rfl) rfl (by kernel_rfl) (by kernel_rfl) rfl rfl rfl rfl S (fun wq Sq => (run_index_rdI sl22 (St.rd Sq hb) rfl rfl (by omega) (by omega))) ?_
   refine any_quiet 11 24 (.pointer (some (((adr vbase).add (((n : Int) - 1).toNat * 5)).add 4))) (by kernel_rfl) rfl (by kernel_rfl) (by kernel_rfl) rfl rfl rfl rfl S (fun wq Sq => (run_fieldAddr fd51_4 rfl)) ?_
   refine any_quiet 12 25 (i64 ((base.getD ((n : Int) - 1).toNat default).Known)) (by kernel_rfl) rfl (by kernel_rfl) (by kernel_rfl) rfl rfl rfl rfl S (fun wq Sq => (run_load_scal sc3 rfl (Rd.at' (d := default) (j := 4) (St.rd Sq hb) (by omega) rfl))) ?_
   refine any_quiet 13 26 (i64 known) (by kernel_rfl) rfl (by kernel_rfl) (by kernel_rfl) rfl rfl rfl rfl S (fun wq Sq => (run_load_scal sc3 rfl (Eng.St.ro Sq hn3))) ?_
   refine any_quiet 14 27 (.bool (decide ((base.getD ((n : Int) - 1).toNat default).Known ≤ known))) (by kernel_rfl) rfl (by kernel_rfl) (by kernel_rfl) rfl rfl rfl rfl S (fun wq Sq => (run_pv rfl)) ?_
   refine any_quiet 15 28 (.bool (decide ((base.getD ((n : Int) - 1).toNat default).Known ≤ known))) (by kernel_rfl) rfl (by kernel_rfl) (by kernel_rfl) rfl rfl rfl rfl S (fun wq Sq => (run_pv rfl)) ?_
   refine any_quiet 16 29 (.bool (decide ((base.getD ((n : Int) - 1).toNat default).Known ≤ known))) (by kernel_rfl) rfl (by kernel_rfl) (by kernel_rfl) rfl rfl rfl rfl S (fun wq Sq => (run_pv rfl)) ?_
   refine any_case 29 (decide ((base.getD ((n : Int) - 1).toNat default).Known ≤ known)) rfl (fun h3 => ?_) (fun h3 => ?_)
   ·have p3 := h3; try simp only [decide_eq_true_eq, decide_eq_false_iff_not, Bool.and_eq_true, Bool.or_eq_true, Bool.not_eq_true', Bool.or_eq_false_iff, Bool.not_eq_false', Int.not_lt, Int.not_le, gt_iff_lt, ge_iff_le, Decidable.not_not] at p3
    refine any_quiet 17 30 (.func (.yield l) #[] #[]) (by kernel_rfl) rfl (by kernel_rfl) (by kernel_rfl) rfl rfl rfl rfl S (fun wq Sq => (run_pv rfl)) ?_
    refine any_quiet 18 31 (i64 ((n : Int) - 1)) (by kernel_rfl) rfl (by kernel_rfl) (by kernel_rfl) rfl rfl rfl rfl S (fun wq Sq => (run_pv rfl)) ?_
    refine any_loud1 19 (by kernel_rfl) rfl ?_
    refine ops_yield [i64 ((n : Int) - 1)] rfl rfl rfl rfl (hY pre ((n : Int) - 1) _ _ hJ.j (last_prefix base key known n pre (by omega) hpre (by unfold condB; simp only [h2, h3, Bool.true_and]))) ?_
    clear S; rintro e w3 ⟨D3, ho, hg, (⟨rfl, hJ'⟩ | ⟨rfl, hJ'⟩)⟩
    ·refine ⟨_, rfl, ?_⟩
     refine ops_nil ?_
     refine nrm_then ⟨fun h => (by cases h), ?_⟩
     refine any_pure 20 33 (.bool false) (by kernel_rfl) rfl (by kernel_rfl) rfl rfl rfl rfl (by kernel_rfl) (fun wq => (run_pv rfl)) ?_
     refine any_pure 21 34 (.bool false) (by kernel_rfl) rfl (by kernel_rfl) rfl rfl rfl rfl (by kernel_rfl) (fun wq => (run_pv rfl)) ?_
     refine any_done (by kernel_rfl) ?_
     refine nrm_then ?_
     refine w_cond_f rfl ?_
     refine w_skip ?_
     refine nrm_blk ?_
     refine nrm_then ?_
     refine w_region ?_
     refine ops_val 11 (i64 ((n : Int) - 1)) rfl rfl rfl rfl (run_pv rfl) ?_
     refine ops_val 12 (i64 (((n : Int) - 1) - 1)) rfl rfl rfl rfl (run_wr rfl (by omega) (by omega)) ?_
     refine ops_val 5 (i64 (((n : Int) - 1) - 1)) rfl rfl rfl rfl (run_pv rfl) ?_
     refine ops_nil ?_
     refine nrm_then ?_
     exact ⟨rfl, (n - 1, pre ++ [((n : Int) - 1)]), ⟨(by first | rfl | exact congrArg i64 (by omega)), (by first | rfl | exact congrArg i64 (by omega)), (by first | rfl | exact congrArg i64 (by omega)), (by first | rfl | exact congrArg i64 (by omega)), (by first | rfl | exact congrArg i64 (by omega)), trivial⟩, ⟨by omega, ⟨D3, hJ.yield ho hg hJ'⟩, (by rw [← hpre, lastFrom_step base key known n (by omega), show condB base key known ((n : Int) - 1) = true from by unfold condB; simp only [h2, h3, Bool.true_and, Bool.false_and]]; simp)⟩, by dsimp only; omega⟩
    ·refine ⟨_, rfl, ?_⟩
     refine ops_nil ?_
     refine nrm_then ⟨fun h => (by cases h), ?_⟩
     refine any_pure 20 33 (.bool true) (by kernel_rfl) rfl (by kernel_rfl) rfl rfl rfl rfl (by kernel_rfl) (fun wq => (run_pv rfl)) ?_
     refine any_pure 21 34 (.bool true) (by kernel_rfl) rfl (by kernel_rfl) rfl rfl rfl rfl (by kernel_rfl) (fun wq => (run_pv rfl)) ?_
     refine any_done (by kernel_rfl) ?_
     refine nrm_then ?_
     refine w_cond_t rfl ?_
     refine w_ret ?_
     refine ret_blk ?_
     refine ret_then ?_
     refine ret_then ?_
     refine ret_blk ?_
     exact finX rfl (hJ.yield ho hg hJ') (last_prefix base key known n pre (by omega) hpre (by unfold condB; simp only [h2, h3, Bool.true_and]))
   ·have p3 := h3; try simp only [decide_eq_true_eq, decide_eq_false_iff_not, Bool.and_eq_true, Bool.or_eq_true, Bool.not_eq_true', Bool.or_eq_false_iff, Bool.not_eq_false', Int.not_lt, Int.not_le, gt_iff_lt, ge_iff_le, Decidable.not_not] at p3
    refine any_pass 17 30 (by kernel_rfl) rfl (by kernel_rfl) rfl rfl rfl rfl (sd_of S) ?_
    refine any_pass 18 31 (by kernel_rfl) rfl (by kernel_rfl) rfl rfl rfl rfl (sd_of S) ?_
    refine any_loud1 19 (by kernel_rfl) rfl ?_
    refine ops_skip 32 rfl rfl rfl ?_
    refine ops_nil ?_
    refine nrm_then ⟨fun _ => S, ?_⟩
    refine any_pass 20 33 (by kernel_rfl) rfl (by kernel_rfl) rfl rfl rfl rfl (sd_done (by kernel_rfl)) ?_
    refine any_pure 21 34 (.bool false) (by kernel_rfl) rfl (by kernel_rfl) rfl rfl rfl rfl (by kernel_rfl) (fun wq => (run_pv rfl)) ?_
    refine any_done (by kernel_rfl) ?_
    refine nrm_then ?_
    refine w_cond_f rfl ?_
    refine w_skip ?_
    refine nrm_blk ?_
    refine nrm_then ?_
    refine w_region ?_
    refine ops_val 11 (i64 ((n : Int) - 1)) rfl rfl rfl rfl (run_pv rfl) ?_
    refine ops_val 12 (i64 (((n : Int) - 1) - 1)) rfl rfl rfl rfl (run_wr rfl (by omega) (by omega)) ?_
    refine ops_val 5 (i64 (((n : Int) - 1) - 1)) rfl rfl rfl rfl (run_pv rfl) ?_
    refine ops_nil ?_
    refine nrm_then ?_
    exact ⟨rfl, (n - 1, pre), ⟨(by first | rfl | exact congrArg i64 (by omega)), (by first | rfl | exact congrArg i64 (by omega)), (by first | rfl | exact congrArg i64 (by omega)), (by first | rfl | exact congrArg i64 (by omega)), (by first | rfl | exact congrArg i64 (by omega)), trivial⟩, ⟨by omega, ⟨_, hJ⟩, (by rw [← hpre, lastFrom_step base key known n (by omega), show condB base key known ((n : Int) - 1) = false from by unfold condB; simp only [h2, h3, Bool.true_and, Bool.false_and]]; simp)⟩, by dsimp only; omega⟩
  ·have p2 := h2; try simp only [decide_eq_true_eq, decide_eq_false_iff_not, Bool.and_eq_true, Bool.or_eq_true, Bool.not_eq_true', Bool.or_eq_false_iff, Bool.not_eq_false', Int.not_lt, Int.not_le, gt_iff_lt, ge_iff_le, Decidable.not_not] at p2
   refine any_pass 8 21 (by kernel_rfl) rfl (by kernel_rfl) rfl rfl rfl rfl (sd_of S) ?_
   refine any_pass 9 22 (by kernel_rfl) rfl (by kernel_rfl) rfl rfl rfl rfl (sd_of S) ?_
   refine any_pass 10 23 (by kernel_rfl) rfl (by kernel_rfl) rfl rfl rfl rfl (sd_of S) ?_
   refine any_pass 11 24 (by kernel_rfl) rfl (by kernel_rfl) rfl rfl rfl rfl (sd_of S) ?_
   refine any_pass 12 25 (by kernel_rfl) rfl (by kernel_rfl) rfl rfl rfl rfl (sd_of S) ?_
   refine any_pass 13 26 (by kernel_rfl) rfl (by kernel_rfl) rfl rfl rfl rfl (sd_of S) ?_
   refine any_pass 14 27 (by kernel_rfl) rfl (by kernel_rfl) rfl rfl rfl rfl (sd_of S) ?_
   refine any_quiet 15 28 (.bool false) (by kernel_rfl) rfl (by kernel_rfl) (by kernel_rfl) rfl rfl rfl rfl S (fun wq Sq => (run_pv rfl)) ?_
   refine any_quiet 16 29 (.bool false) (by kernel_rfl) rfl (by kernel_rfl) (by kernel_rfl) rfl rfl rfl rfl S (fun wq Sq => (run_pv rfl)) ?_
   refine any_pass 17 30 (by kernel_rfl) rfl (by kernel_rfl) rfl rfl rfl rfl (sd_of S) ?_
   refine any_pass 18 31 (by kernel_rfl) rfl (by kernel_rfl) rfl rfl rfl rfl (sd_of S) ?_
   refine any_loud1 19 (by kernel_rfl) rfl ?_
   refine ops_skip 32 rfl rfl rfl ?_
   refine ops_nil ?_
   refine nrm_then ⟨fun _ => S, ?_⟩
   refine any_pass 20 33 (by kernel_rfl) rfl (by kernel_rfl) rfl rfl rfl rfl (sd_done (by kernel_rfl)) ?_
   refine any_pure 21 34 (.bool false) (by kernel_rfl) rfl (by kernel_rfl) rfl rfl rfl rfl (by kernel_rfl) (fun wq => (run_pv rfl)) ?_
   refine any_done (by kernel_rfl) ?_
   refine nrm_then ?_
   refine w_cond_f rfl ?_
   refine w_skip ?_
   refine nrm_blk ?_
   refine nrm_then ?_
   refine w_region ?_
   refine ops_val 11 (i64 ((n : Int) - 1)) rfl rfl rfl rfl (run_pv rfl) ?_
   refine ops_val 12 (i64 (((n : Int) - 1) - 1)) rfl rfl rfl rfl (run_wr rfl (by omega) (by omega)) ?_
   refine ops_val 5 (i64 (((n : Int) - 1) - 1)) rfl rfl rfl rfl (run_pv rfl) ?_
   refine ops_nil ?_
   refine nrm_then ?_
   exact ⟨rfl, (n - 1, pre), ⟨(by first | rfl | exact congrArg i64 (by omega)), (by first | rfl | exact congrArg i64 (by omega)), (by first | rfl | exact congrArg i64 (by omega)), (by first | rfl | exact congrArg i64 (by omega)), (by first | rfl | exact congrArg i64 (by omega)), trivial⟩, ⟨by omega, ⟨_, hJ⟩, (by rw [← hpre, lastFrom_step base key known n (by omega), show condB base key known ((n : Int) - 1) = false from by unfold condB; simp only [h2, Bool.true_and, Bool.false_and]]; simp)⟩, by dsimp only; omega⟩
 ·have p1 := h1; try simp only [decide_eq_true_eq, decide_eq_false_iff_not, Bool.and_eq_true, Bool.or_eq_true, Bool.not_eq_true', Bool.or_eq_false_iff, Bool.not_eq_false', Int.not_lt, Int.not_le, gt_iff_lt, ge_iff_le, Decidable.not_not] at p1
  refine w_exit ?_
  refine exit_then ?_
  refine exit_then ?_
  refine exit_blk ?_
  refine finM_nrm ?_
  have hn0 : n = 0 := by omega
  subst hn0
  have hp0 : pre = lastIdx base key known := by simpa [lastFrom] using hpre
  rw [hp0] at hJ
  exact finJ rfl hJ
end Go.Proofs.YtpabacdeogeehaaGreatDoor
