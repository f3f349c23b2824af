/- The iterator of the names of an expression. -/
import Derived.Test.YtconjkgifdfhdaaA
import Derived.Test.YtconjkgifdfhdaaEwOne
set_option linter.all false
set_option maxRecDepth 100000
namespace Go.Proofs.Ytconjkgifdfhdaa
open Go Go.RowKit Go.Eng Go.EV
mutual
def namesL : Expr → List (List UInt8)
 | ⟨op, n, s, key, args⟩ => (if op = 1 then [s] else []) ++ namesLs args
def namesLs : List Expr → List (List UInt8)
 | [] => []
 | x :: r => namesL x ++ namesLs r
end
theorem namesL_eq (e : Expr) : namesL e = (if e.Op = 1 then [e.S] else []) ++ namesLs e.Args := by cases e; rw [namesL]
def sortKeys {β : Type} (l : List (List UInt8 × β)) : List (List UInt8) := (l.map (·.1)).mergeSort fun x y => decide (x ≤ y)
def sval (s : List UInt8) : Value := .string ⟨s.toArray⟩
abbrev yld (l : Nat) : Value := .func (.yield l) #[] #[]
theorem w64_id {n : Int} (h0 : -9223372036854775808 ≤ n) (h1 : n ≤ 9223372036854775807) : EV.w64 n = n := by
 rw [show EV.w64 n = IntKind.i64.wrap n from rfl, IntKind.wrap_i64]; omega
theorem hasBody47 : hasBody Try.prog 59 := ⟨_, Try.func59, by kernel_rfl, by kernel_rfl⟩
theorem hasBody40 : hasBody Try.prog 42 := ⟨_, Try.func42, by kernel_rfl, by kernel_rfl⟩
theorem names_call (vs : List Value) (w : World) : Calls Try.prog 42 [Value.agg vs.toArray].toArray w fun en w' => ∃ v, en = .returned v ∧ v = .func (.func 59) #[] #[.pointer (some ⟨w.heap.size, 0, none⟩)] ∧ w' = w.alloc (.cells vs.toArray 44) := by
 refine calls_of_wpM (N := 4) (R := fun v w' => v = .func (.func 59) #[] #[.pointer (some ⟨w.heap.size, 0, none⟩)] ∧ w' = w.alloc (.cells vs.toArray 44)) Try.func42 rfl rfl rfl ?_
 refine w_seq ?_
 refine w_region ?_
 refine ops_val 1 (.pointer (some ⟨w.heap.size, 0, none⟩)) (w' := w.alloc (.cells vs.toArray 44)) rfl rfl rfl rfl (by simp [execOp, Instr.box, newVar, newRow, newObj, ev, argSlots, Value.cells]; rfl) ?_
 refine ops_val 2 .nilFunc rfl rfl rfl rfl (run_pv rfl) ?_
 refine ops_nil ?_
 refine nrm_then ?_
 refine w_seq ?_
 refine w_region ?_
 refine ops_val 3 (.func (.func 59) #[] #[.pointer (some ⟨w.heap.size, 0, none⟩)]) rfl rfl rfl rfl (run_pv rfl) ?_
 refine ops_val 2 (.func (.func 59) #[] #[.pointer (some ⟨w.heap.size, 0, none⟩)]) rfl rfl rfl rfl (run_pv rfl) ?_
 refine ops_nil ?_
 refine nrm_then ?_
 refine w_ret ?_
 exact ⟨_, _, rfl, fun tmps hg => by simp [results, hg]; rfl, rfl, rfl⟩
theorem is_after {ρ7 : Slots} {b : Bool} {d d' : Nat} (hd : d' ≠ d) (h9 : ρ7 d' = .bool true) (w3 : World) : IS (fun _ _ => none) (fun _ => none) [] [(d, .bool b), (d', .bool true)] (upd ρ7 d (.bool b)) w3 := ⟨sim_nil _ _, repS_of fun p hp' => by
 simp only [List.mem_cons, List.mem_nil_iff, or_false] at hp'
 rcases hp' with rfl | rfl
 ·exact upd_eq
 ·exact (upd_ne hd).trans h9⟩
theorem names_iter (e : Expr) (k : Nat) (ih : ∀ a ∈ e.Args, ∀ k, IterV Try.prog 59 [.ptr k 0 0] [(k, .box 44 (enc_Expr a))] sval (namesL a)) : IterV Try.prog 59 [.ptr k 0 0] [(k, .box 44 (enc_Expr e))] sval (namesL e) := by
 intro lb l J Jx W D hneed hJ hJx hY h0
 obtain ⟨m0, hs0, hr0⟩ := hneed [] D W h0
 obtain ⟨x, xs, rfl, ⟨f, loc, e1, hloc, rfl⟩, hx2⟩ := hr0
 cases e1; cases hx2
 have need : ∀ pre D1 w, J pre D1 w → ∃ m, SimH m D1.z [(k, .box 44 (enc_Expr e))] w ∧ Rep (some m) D1.z (.ptr k 0 0) (.pointer (some ⟨loc.1, 0, none⟩)) := fun pre D1 w j => by
  obtain ⟨m, h1, x, xs, h2, h3, h4⟩ := hneed pre D1 w j
  cases h2
  exact ⟨m, h1, h3⟩
 obtain ⟨R, hR⟩ : ∃ R : Value → World → Prop, R = fun _ w' => ∃ D', Only D W w' ∧ Grows D D' W ∧ (J (namesL e) D' w' ∨ ∃ pre, pre <+: namesL e ∧ Jx pre D' w') := ⟨_, rfl⟩
 refine Calls.mono (calls_of_wpM (N := 31) (R := R) Try.func59 rfl rfl rfl ?_) (fun _ _ ⟨v, he, hr⟩ => ⟨⟨v, he⟩, by rw [hR] at hr; exact hr⟩)
 have finX : ∀ {fn : Func} {own pre D1 w ds ρ}, fn.results = #[] → NSt W D Jx own pre D1 w ds → pre <+: namesL e → finM Try.prog fn R .ret ρ ds w := fun {fn own pre D1 w ds ρ} hr S hp => S.fin (hJx pre) hr fun w' h1 h2 h3 => by rw [hR]; exact ⟨D1, h2, h3, .inr ⟨pre, hp, h1⟩⟩
 have finJ : ∀ {fn : Func} {own D1 w ds ρ}, fn.results = #[] → NSt W D J own (namesL e) D1 w ds → finM Try.prog fn R .ret ρ ds w := fun {fn own D1 w ds ρ} hr S => S.fin (hJ _) hr fun w' h1 h2 h3 => by rw [hR]; exact ⟨D1, h2, h3, .inl h1⟩
 obtain ⟨b2, hb2⟩ : ∃ b2, W.heap.size = b2 := ⟨_, rfl⟩
 refine w_seq ?_
 refine w_region ?_
 refine ops_val 2 (.pointer (some ⟨b2, 0, none⟩)) (w' := W.alloc (.cells #[yld l] 106)) rfl rfl rfl rfl (by subst hb2; simp [execOp, Instr.box, newVar, newRow, newObj, ev, argSlots, Value.cells]; rfl) ?_
 refine ops_nil ?_
 refine nrm_then ?_
 have S0 : NSt W D J [(b2, .cells #[yld l] 106)] [] D (W.alloc (.cells #[yld l] 106)) [] := by subst hb2; exact (NSt.begin (own := []) h0 (by simp)).new (hJ []) _
 have r1 : upd (argSlots [yld l, .pointer (some ⟨loc.1, 0, none⟩)]) 2 (.pointer (some ⟨b2, 0, none⟩)) 1 = .pointer (some ⟨loc.1, 0, none⟩) := rfl
 have r2 : upd (argSlots [yld l, .pointer (some ⟨loc.1, 0, none⟩)]) 2 (.pointer (some ⟨b2, 0, none⟩)) 2 = .pointer (some ⟨b2, 0, none⟩) := rfl
 generalize upd (argSlots [yld l, .pointer (some ⟨loc.1, 0, none⟩)]) 2 (.pointer (some ⟨b2, 0, none⟩)) = ρ0 at r1 r2
 generalize W.alloc (.cells #[yld l] 106) = w1 at S0
 refine w_seq ?_
 refine w_mono (Q := fun e' ρ ds w => match e' with
  | .normal => ∃ D1, NSt W D J [(b2, .cells #[yld l] 106)] (if e.Op = 1 then [e.S] else []) D1 w ds ∧ ρ 1 = .pointer (some ⟨loc.1, 0, none⟩) ∧ ρ 2 = .pointer (some ⟨b2, 0, none⟩)
  | .ret => ∃ D1, e.Op = 1 ∧ NSt W D Jx [(b2, .cells #[yld l] 106)] [e.S] D1 w ds
  | _ => False) ?_ ?_
 ·obtain ⟨m, hs, hp⟩ := need _ _ _ S0.j
  have hI : IS m D.z [(k, .box 44 (enc_Expr e))] [(1, .ptr k 0 0)] ρ0 w1 := ⟨hs, repS_of fun p hp' => by simp only [List.mem_singleton] at hp'; subst hp'; rw [r1]; exact hp⟩
  refine w_seq ?_
  refine w_region ?_
  refine i_pure (v := .ptr k 0 0) hI rfl rfl (by kernel_rfl) fun ρ1 hI q1 => ?_
  refine i_load (off := 0) (v := .int .i64 e.Op) hI rfl rfl (by kernel_rfl) (List.mem_singleton.2 rfl) (by kernel_rfl) fun ρ2 hI q2 => ?_
  refine i_pure (v := .bool (decide (e.Op = 1))) hI rfl rfl (by kernel_rfl) fun ρ3 hI q3 => ?_
  refine i_pure (v := .bool (decide (e.Op = 1))) hI rfl rfl (by kernel_rfl) fun ρ4 hI q4 => ?_
  have t1 : ρ4 1 = .pointer (some ⟨loc.1, 0, none⟩) := by rw [q4 1 (by decide), q3 1 (by decide), q2 1 (by decide), q1 1 (by decide)]; exact r1
  have t2 : ρ4 2 = .pointer (some ⟨b2, 0, none⟩) := by rw [q4 2 (by decide), q3 2 (by decide), q2 2 (by decide), q1 2 (by decide)]; exact r2
  clear q1 q2 q3 q4
  cases hop : decide (e.Op = 1) with
  | false =>
   rw [hop] at hI
   refine i_skip hI rfl (by kernel_rfl) fun ρ5 hI q5 => ?_
   refine i_skip hI rfl (by kernel_rfl) fun ρ6 hI q6 => ?_
   refine i_skip hI rfl (by kernel_rfl) fun ρ7 hI q7 => ?_
   refine i_skip hI rfl (by kernel_rfl) fun ρ8 hI q8 => ?_
   refine i_skip hI rfl (by kernel_rfl) fun ρ9 hI q9 => ?_
   refine i_pure (v := .bool false) hI rfl rfl (by kernel_rfl) fun ρ10 hI q10 => ?_
   refine ops_nil ?_
   refine nrm_then ?_
   have h15 : ρ10 15 = .bool false := hI.rep 15
   refine w_cond_f h15 ?_
   refine w_skip ?_
   have hne : ¬ e.Op = 1 := of_decide_eq_false hop
   refine ⟨D, by rw [if_neg hne]; exact S0, ?_, ?_⟩
   ·rw [q10 1 (by decide), q9 1 (by decide), q8 1 (by decide), q7 1 (by decide), q6 1 (by decide), q5 1 (by decide)]; exact t1
   ·rw [q10 2 (by decide), q9 2 (by decide), q8 2 (by decide), q7 2 (by decide), q6 2 (by decide), q5 2 (by decide)]; exact t2
  | true =>
   rw [hop] at hI
   have heq : e.Op = 1 := of_decide_eq_true hop
   obtain ⟨hcell, hnb, hle⟩ := S0.own _ (List.mem_singleton.2 rfl)
   refine i_val (u := yld l) hI hI.sim rfl rfl rfl (run_load_scal (shape_scal (by kernel_rfl)) t2 (by rw [cell_of_row w1 b2 0 _ _ _ hcell]; rfl)) .undef trivial fun ρ5 hI q5 y5 => ?_
   refine i_pure (v := .ptr k 0 2) hI rfl rfl (by kernel_rfl) fun ρ6 hI q6 => ?_
   refine i_load (off := 2) (v := .str e.S) hI rfl rfl (by kernel_rfl) (List.mem_singleton.2 rfl) (by kernel_rfl) fun ρ7 hI q7 => ?_
   have y7 : ρ7 10 = yld l := by rw [q7 10 (by decide), q6 10 (by decide)]; exact y5
   have y12 : ρ7 12 = sval e.S := hI.rep 12
   refine ops_yield [sval e.S] rfl (wanted_of hI.rep (by kernel_rfl)) y7 (by simp [ev, y12]) (hY [] e.S _ _ S0.j (by rw [namesL_eq, if_pos heq]; exact ⟨_, rfl⟩)) ?_
   rintro en w3 ⟨D3, ho, hg, hh⟩
   have u1 : ρ7 1 = .pointer (some ⟨loc.1, 0, none⟩) := by rw [q7 1 (by decide), q6 1 (by decide), q5 1 (by decide)]; exact t1
   have u2 : ρ7 2 = .pointer (some ⟨b2, 0, none⟩) := by rw [q7 2 (by decide), q6 2 (by decide), q5 2 (by decide)]; exact t2
   rcases hh with ⟨rfl, hj⟩ | ⟨rfl, hj⟩
   ·refine ⟨_, rfl, ?_⟩
    have hI' := is_after (b := true) (d := 13) (d' := 9) (by decide) (hI.rep 9) w3
    have p1 : upd ρ7 13 (.bool true) 1 = ρ7 1 := upd_ne (by decide)
    have p2 : upd ρ7 13 (.bool true) 2 = ρ7 2 := upd_ne (by decide)
    generalize upd ρ7 13 (.bool true) = ρ8 at hI' p1 p2
    refine i_pure (v := .bool false) hI' rfl rfl (by kernel_rfl) fun ρ9 hI' q9 => ?_
    refine i_pure (v := .bool false) hI' rfl rfl (by kernel_rfl) fun ρ10 hI' q10 => ?_
    refine ops_nil ?_
    refine nrm_then ?_
    have p15 : ρ10 15 = .bool false := hI'.rep 15
    refine w_cond_f p15 ?_
    refine w_skip ?_
    exact ⟨D3, by rw [if_pos heq]; exact S0.yield ho hg hj, by rw [q10 1 (by decide), q9 1 (by decide), p1]; exact u1, by rw [q10 2 (by decide), q9 2 (by decide), p2]; exact u2⟩
   ·refine ⟨_, rfl, ?_⟩
    have hI' := is_after (b := false) (d := 13) (d' := 9) (by decide) (hI.rep 9) w3
    have p1 : upd ρ7 13 (.bool false) 1 = ρ7 1 := upd_ne (by decide)
    have p2 : upd ρ7 13 (.bool false) 2 = ρ7 2 := upd_ne (by decide)
    generalize upd ρ7 13 (.bool false) = ρ8 at hI' p1 p2
    refine i_pure (v := .bool true) hI' rfl rfl (by kernel_rfl) fun ρ9 hI' q9 => ?_
    refine i_pure (v := .bool true) hI' rfl rfl (by kernel_rfl) fun ρ10 hI' q10 => ?_
    refine ops_nil ?_
    refine nrm_then ?_
    have p15 : ρ10 15 = .bool true := hI'.rep 15
    refine w_cond_t p15 ?_
    refine w_ret ?_
    exact ⟨D3, heq, S0.yield ho hg hj⟩
 ·intro e' ρ ds w hq
  cases e' with
  | panic c => exact hq.elim
  | exit id => exact hq.elim
  | goto l => exact hq.elim
  | outgrown => exact hq.elim
  | ret =>
   obtain ⟨D1, heq, S⟩ := hq
   exact ret_then (finX rfl S (by rw [namesL_eq, if_pos heq]; exact ⟨_, rfl⟩))
  | normal =>
   obtain ⟨D1, S1, t1, t2⟩ := hq
   refine nrm_then ?_
   have hpre : (if e.Op = 1 then [e.S] else []) ++ namesLs e.Args = namesL e := (namesL_eq e).symm
   generalize (if e.Op = 1 then [e.S] else [] : List (List UInt8)) = pre at S1 hpre
   refine w_seq ?_
   refine w_region ?_
   obtain ⟨m, hs, hp⟩ := need _ _ _ S1.j
   have hI : IS m D1.z [(k, .box 44 (enc_Expr e))] [(1, .ptr k 0 0)] ρ w := ⟨hs, repS_of fun p hp' => by simp only [List.mem_singleton] at hp'; subst hp'; rw [t1]; exact hp⟩
   refine i_pure (v := .ptr k 0 4) hI rfl rfl (by kernel_rfl) fun ρ1 hI q1 => ?_
   refine i_load (off := 4) (v := .vs 5 (encs_Expr e.Args)) hI rfl rfl (by kernel_rfl) (List.mem_singleton.2 rfl) (by kernel_rfl) fun ρ2 hI q2 => ?_
   refine i_pure (v := .int .i64 ((encs_Expr e.Args).length : Nat)) hI rfl rfl (by kernel_rfl) fun ρ3 hI q3 => ?_
   refine i_pure (v := .int .i64 (0 : Nat)) hI rfl rfl (by kernel_rfl) fun ρ4 hI q4 => ?_
   refine ops_nil ?_
   refine nrm_then ?_
   have v2 : ρ4 2 = .pointer (some ⟨b2, 0, none⟩) := by rw [q4 2 (by decide), q3 2 (by decide), q2 2 (by decide), q1 2 (by decide)]; exact t2
   have v17 : Rep none D1.z (.vs 5 (encs_Expr e.Args)) (ρ4 17) := Rep.flat _ _ rfl (hI.rep 17)
   have v18 : ρ4 18 = .int .i64 ((encs_Expr e.Args).length : Nat) := hI.rep 18
   have v19 : ρ4 19 = .int .i64 (0 : Nat) := hI.rep 19
   refine w_block ?_
   refine w_loopG (G := List Expr) (fun rem ρ ds w => ∃ (don : List Expr) (pre : List (List UInt8)) (D1 : Foot), e.Args = don ++ rem ∧ pre ++ namesLs rem = namesL e ∧ NSt W D J [(b2, .cells #[yld l] 106)] pre D1 w ds ∧ ρ 2 = .pointer (some ⟨b2, 0, none⟩) ∧ ρ 19 = .int .i64 (don.length : Nat) ∧ ρ 18 = .int .i64 ((encs_Expr e.Args).length : Nat) ∧ Rep none D1.z (.vs 5 (encs_Expr e.Args)) (ρ 17)) List.length e.Args ⟨[], pre, D1, rfl, hpre, S1, v2, v19, v18, v17⟩ ?_
   rintro rem ρ ds w ⟨don, pre, D1, hargs, hpre, S, v2, v19, v18, v17⟩
   have hlen : (encs_Expr e.Args).length = don.length + rem.length := by rw [encs_Expr_eq, List.length_map, hargs, List.length_append]
   refine w_seq ?_
   refine w_region ?_
   have hI : IS (fun _ _ => none) (fun _ => none) [] [(19, .int .i64 (don.length : Nat)), (18, .int .i64 ((encs_Expr e.Args).length : Nat))] ρ w := ⟨sim_nil _ _, repS_of fun p hp' => by
    simp only [List.mem_cons, List.mem_nil_iff, or_false] at hp'
    rcases hp' with rfl | rfl
    ·exact v19
    ·exact v18⟩
   refine i_pure (v := .bool (decide ((don.length : Int) < ((encs_Expr e.Args).length : Nat)))) hI rfl rfl (by kernel_rfl) fun ρ1 hI q1 => ?_
   refine ops_nil ?_
   refine nrm_then ?_
   have h20 : ρ1 20 = .bool (decide ((don.length : Int) < ((encs_Expr e.Args).length : Nat))) := hI.rep 20
   rw [hlen] at h20
   refine w_seq ?_
   cases rem with
   | nil =>
    refine w_cond_f (by show ρ1 20 = _; rw [h20]; simp) ?_
    refine w_exit ?_
    refine exit_then ?_
    refine exit_then ?_
    refine exit_blk ?_
    have S' : NSt W D J [(b2, .cells #[yld l] 106)] (namesL e) D1 w ds := by rw [← hpre, namesLs, List.append_nil]; exact S
    exact finM_nrm (finJ rfl S')
   | cons a rem =>
    have hlt : (don.length : Int) < ((don.length + (a :: rem).length : Nat) : Int) := by simp only [List.length_cons]; omega
    refine w_cond_t (by show ρ1 20 = _; rw [h20, decide_eq_true hlt]) ?_
    refine w_skip ?_
    refine nrm_then ?_
    refine w_seq ?_
    refine w_block ?_
    refine w_seq ?_
    refine w_region ?_
    obtain ⟨m, hs, hp⟩ := need _ _ _ S.j
    have w2 : ρ1 2 = .pointer (some ⟨b2, 0, none⟩) := by rw [q1 2 (by decide)]; exact v2
    have w17 : ρ1 17 = ρ 17 := q1 17 (by decide)
    have w18 : ρ1 18 = .int .i64 ((encs_Expr e.Args).length : Nat) := by rw [q1 18 (by decide)]; exact v18
    have w19 : ρ1 19 = .int .i64 (don.length : Nat) := by rw [q1 19 (by decide)]; exact v19
    have hI : IS m D1.z [(k, .box 44 (enc_Expr e))] [(17, .vs 5 (encs_Expr e.Args)), (19, .int .i64 (don.length : Nat))] ρ1 w := ⟨hs, repS_of fun p hp' => by
     simp only [List.mem_cons, List.mem_nil_iff, or_false] at hp'
     rcases hp' with rfl | rfl
     ·show Rep _ _ _ (ρ1 17)
      rw [w17]; exact v17.up (fun _ _ h => h) fun _ h => by cases h
     ·exact w19⟩
    refine i_indexVs (e := 44) (sz := 5) (k := .i64) (i := (don.length : Nat)) (els := encs_Expr e.Args) (cs := enc_Expr a) hI rfl rfl (by kernel_rfl) rfl rfl (by omega) (by rw [encs_Expr_eq, hargs]; simp) fun ρ2 hI q2 => ?_
    refine i_pure (v := .agg (enc_Expr a)) hI rfl rfl (by kernel_rfl) fun ρ3 hI q3 => ?_
    obtain ⟨lv, y22, hlv⟩ := hI.rep 22
    have hlv0 : RepL none D1.z (enc_Expr a) lv := RepL.flat _ _ rfl hlv
    have x2 : ρ3 2 = .pointer (some ⟨b2, 0, none⟩) := by rw [q3 2 (by decide), q2 2 (by decide)]; exact w2
    have x17 : ρ3 17 = ρ 17 := by rw [q3 17 (by decide), q2 17 (by decide)]; exact w17
    have x18 : ρ3 18 = .int .i64 ((encs_Expr e.Args).length : Nat) := by rw [q3 18 (by decide), q2 18 (by decide)]; exact w18
    have x19 : ρ3 19 = .int .i64 (don.length : Nat) := by rw [q3 19 (by decide), q2 19 (by decide)]; exact w19
    clear q1 q2 q3
    refine ops_var (l := lv) (cs0 := [.int .i64 0, .int .i64 0, .str [], .str [], .nils]) rfl (by kernel_rfl) hlv0.length.symm (by kernel_rfl) (ones_of hlv0 rfl) ((upd_ne (by decide)).trans y22) ?_
    refine ops_nil ?_
    refine nrm_then ?_
    obtain ⟨b3, hb3⟩ : ∃ b3, w.heap.size = b3 := ⟨_, rfl⟩
    have S3 : NSt W D J [(b3, .cells lv.toArray 44), (b2, .cells #[yld l] 106)] pre D1 (w.alloc (.cells lv.toArray 44)) ds := by rw [← hb3]; exact S.new (hJ _) _
    rw [hb3]
    generalize w.alloc (.cells lv.toArray 44) = w3 at S3
    refine w_seq ?_
    refine w_region ?_
    have hcell3 := (S3.own _ (List.mem_cons_self ..)).1
    refine ops_val 23 (.agg lv.toArray) rfl rfl rfl rfl (run_load_agg lv (shape_agg (k := 5) (by kernel_rfl)) (p := ⟨b3, 0, none⟩) upd_eq hlv0.length fun j u hj => by rw [Addr.add_lit, cell_of_row w3 b3 _ _ _ _ hcell3]; simpa using hj) ?_
    refine ops_enter 24 rfl rfl rfl rfl (run_call [.agg lv.toArray] hasBody40 rfl) (names_call lv w3) ?_
    rintro en w4 ⟨v, rfl, rfl, rfl⟩
    refine ⟨_, rfl, ?_⟩
    refine ops_nil ?_
    refine nrm_then ?_
    obtain ⟨b4, hb4⟩ : ∃ b4, w3.heap.size = b4 := ⟨_, rfl⟩
    have S4 : NSt W D J [(b4, .cells lv.toArray 44), (b3, .cells lv.toArray 44), (b2, .cells #[yld l] 106)] pre D1 (w3.alloc (.cells lv.toArray 44)) ds := by rw [← hb4]; exact S3.new (hJ _) _
    rw [hb4]
    generalize w3.alloc (.cells lv.toArray 44) = w4 at S4
    refine w_block ?_
    have z2 : ∀ (x : Value) (v : Value), upd (upd (upd ρ3 4 (.pointer (some ⟨b3, 0, none⟩))) 23 x) 24 v 2 = .pointer (some ⟨b2, 0, none⟩) := fun x v => (upd_ne (by decide)).trans ((upd_ne (by decide)).trans ((upd_ne (by decide)).trans x2))
    have z17 : ∀ (x : Value) (v : Value), upd (upd (upd ρ3 4 (.pointer (some ⟨b3, 0, none⟩))) 23 x) 24 v 17 = ρ 17 := fun x v => (upd_ne (by decide)).trans ((upd_ne (by decide)).trans ((upd_ne (by decide)).trans x17))
    have z18 : ∀ (x : Value) (v : Value), upd (upd (upd ρ3 4 (.pointer (some ⟨b3, 0, none⟩))) 23 x) 24 v 18 = .int .i64 ((encs_Expr e.Args).length : Nat) := fun x v => (upd_ne (by decide)).trans ((upd_ne (by decide)).trans ((upd_ne (by decide)).trans x18))
    have z19 : ∀ (x : Value) (v : Value), upd (upd (upd ρ3 4 (.pointer (some ⟨b3, 0, none⟩))) 23 x) 24 v 19 = .int .i64 (don.length : Nat) := fun x v => (upd_ne (by decide)).trans ((upd_ne (by decide)).trans ((upd_ne (by decide)).trans x19))
    have z24 : ∀ (x : Value) (v : Value), upd (upd (upd ρ3 4 (.pointer (some ⟨b3, 0, none⟩))) 23 x) 24 v 24 = v := fun x v => upd_eq
    have y2 := z2 (.agg lv.toArray) (.func (.func 59) #[] #[.pointer (some ⟨b4, 0, none⟩)])
    have y17 := z17 (.agg lv.toArray) (.func (.func 59) #[] #[.pointer (some ⟨b4, 0, none⟩)])
    have y18 := z18 (.agg lv.toArray) (.func (.func 59) #[] #[.pointer (some ⟨b4, 0, none⟩)])
    have y19 := z19 (.agg lv.toArray) (.func (.func 59) #[] #[.pointer (some ⟨b4, 0, none⟩)])
    have y24 := z24 (.agg lv.toArray) (.func (.func 59) #[] #[.pointer (some ⟨b4, 0, none⟩)])
    generalize upd (upd (upd ρ3 4 (.pointer (some ⟨b3, 0, none⟩))) 23 (.agg lv.toArray)) 24 (.func (.func 59) #[] #[.pointer (some ⟨b4, 0, none⟩)]) = ρ5 at y2 y17 y18 y19 y24
    clear z2 z17 z18 z19 z24
    have hb := S4.below
    have hW4 : W.heap.size ≤ w4.heap.size := S4.only.size
    have hown : ∀ q ∈ ([(b4, .cells lv.toArray 44), (b3, .cells lv.toArray 44), (b2, .cells #[yld l] 106)] : List (Nat × Go.Obj)), q.1 < w4.heap.size := hb.1
    have hpx : ∀ pre' x, pre' ++ [x] <+: namesL a → (pre ++ pre') ++ [x] <+: namesL e := fun pre' x hp => by
     obtain ⟨suf, hsuf⟩ := hp
     rw [← hpre, namesLs, ← hsuf]
     exact ⟨suf ++ namesLs rem, by simp⟩
    have stJ : ∀ pre', Stab fun Df w => ∃ D1', NSt W D J [(b4, .cells lv.toArray 44), (b3, .cells lv.toArray 44), (b2, .cells #[yld l] 106)] (pre ++ pre') D1' w ds ∧ Df = footN w4 D1' ∧ (∀ a x, D1.z a = some x → D1'.z a = some x) ∧ w4.heap.size ≤ w.heap.size := fun pre' => NSt.stab (hJ _) hW4 hown hb.2
    have stX : ∀ (co : Code) pre', Stab fun Df w => ∃ D1', NSt W D Jx [(b4, .cells lv.toArray 44), (b3, .cells lv.toArray 44), (b2, .cells #[yld l] 106)] (pre ++ pre') D1' w ds ∧ Df = footN w4 D1' ∧ (co = .ret) ∧ w4.heap.size ≤ w.heap.size := fun co pre' => NSt.stab (p := fun _ => co = .ret) (hJx _) hW4 hown hb.2
    refine w_rangeF (ps := [25]) (gf := 59) (lb := [.pointer (some ⟨b4, 0, none⟩)]) (encs := fun x => [sval x]) (xs := namesL a) y24 hasBody47 (ih a (by rw [hargs]; simp) k [.pointer (some ⟨b4, 0, none⟩)]) (fun _ => rfl) rfl _ _ stJ stX ?_ (footN w4 D1) ⟨D1, by rw [List.append_nil]; exact S4, rfl, fun _ _ h => h, Nat.le_refl _⟩ (fun x => upd (upd ρ5 25 (sval x)) 5 (sval x)) ?_ ?_ ?_ ?_ ?_
    ·rintro pre' Df w5 ⟨D1', S5, rfl, hz, hs5⟩
     obtain ⟨m5, hs5', _⟩ := need _ _ _ S5.j
     obtain ⟨hc4, hn4, hl4⟩ := S5.own _ (List.mem_cons_self ..)
     refine ⟨fun k' L => if k' = k ∧ L = 0 then some (b4, 1) else none, ⟨hs5'.frozen, fun p hp => ?_, by simp [keys], fun p hp q hq _ _ _ => ?_⟩, _, [], rfl, ⟨_, (b4, 1), rfl, by simp, rfl⟩, rfl⟩
     ·simp only [List.mem_singleton] at hp
      subst hp
      refine ⟨b4, lv.toArray, by simp, hc4, ?_, fun a x ha he => hn4 (he ▸ (hJ _).2.2 _ _ S5.j a x ha), fun L loc h => ?_⟩
      ·exact RepL.up (m := none) hz (fun _ h => by cases h) hlv0
      ·simp only at h
       split at h
       ·rename_i h'; omega
       ·cases h
     ·simp only [List.mem_singleton] at hp hq
      subst hp; subst hq; rfl
    ·intro lR x w5
     refine w_region (l := [_]) ?_
     refine ops_val 5 (sval x) rfl rfl rfl rfl (w' := w5) (by simp [execOp, ev, updL, upd]) ?_
     exact ops_nil ⟨rfl, rfl, rfl⟩
    ·rintro lR pre' x Df w5 ⟨D1', S5, rfl, hz, hs5⟩ hp5
     obtain ⟨hc2, hn2, hl2⟩ := S5.own _ (List.mem_cons_of_mem _ (List.mem_cons_of_mem _ (List.mem_cons_self ..)))
     have u2 : upd (upd ρ5 25 (sval x)) 5 (sval x) 2 = .pointer (some ⟨b2, 0, none⟩) := (upd_ne (by decide)).trans ((upd_ne (by decide)).trans y2)
     have u5 : upd (upd ρ5 25 (sval x)) 5 (sval x) 5 = sval x := upd_eq
     generalize upd (upd ρ5 25 (sval x)) 5 (sval x) = ρ6 at u2 u5
     refine w_block ?_
     refine w_seq ?_
     refine w_region ?_
     refine ops_val 26 (yld l) rfl rfl rfl rfl (run_load_scal (shape_scal (by kernel_rfl)) u2 (by rw [cell_of_row w5 b2 0 _ _ _ hc2]; rfl)) ?_
     refine ops_val 27 (sval x) rfl rfl rfl rfl (run_pv (show pv _ _ = _ from congrArg some ((upd_ne (by decide)).trans u5))) ?_
     refine ops_yield [sval x] rfl rfl ((upd_ne (by decide)).trans upd_eq) (congrArg (fun v => [v]) upd_eq) (hY (pre ++ pre') x _ _ S5.j (hpx _ _ hp5)) ?_
     rintro en w6 ⟨D3, ho, hg, hh⟩
     have ho' : Only (footN w4 D1') w5 w6 := ho.sub fun b h => Or.inr h
     have hg' : Grows (footN w4 D1') (footN w4 D3) w5 := ⟨fun b h => by
      rcases h with h | h
      ·exact .inl (Or.inl h)
      ·exact (hg.f b h).imp (fun h => Or.inr h) id, hg.z⟩
     have hs6 : w4.heap.size ≤ w6.heap.size := Nat.le_trans hs5 ho.size
     rcases hh with ⟨rfl, hj⟩ | ⟨rfl, hj⟩
     ·refine ⟨_, rfl, ?_⟩
      refine ops_val 29 (.bool false) rfl rfl rfl rfl (run_pv rfl) ?_
      refine ops_nil ?_
      refine nrm_then ?_
      refine w_cond_f rfl ?_
      refine w_skip ?_
      refine nrm_blk ?_
      exact ⟨_, ho', hg', D3, by rw [← List.append_assoc]; exact S5.yield ho hg hj, rfl, fun a x h => hg.z a x (hz a x h), hs6⟩
     ·refine ⟨_, rfl, ?_⟩
      refine ops_val 29 (.bool true) rfl rfl rfl rfl (run_pv rfl) ?_
      refine ops_nil ?_
      refine nrm_then ?_
      refine w_cond_t rfl ?_
      refine w_ret ?_
      refine ret_blk ?_
      exact ⟨_, ho', hg', D3, by rw [← List.append_assoc]; exact S5.yield ho hg hj, rfl, rfl, hs6⟩
    ·rintro K Df w5 hK ⟨D1', S5, rfl, hz, hs5⟩ hnK _ _ hKw
     refine nrm_blk ?_
     refine nrm_blk ?_
     refine nrm_then ?_
     have hmaxl : don.length + 1 ≤ 9223372036854775807 := by
      obtain ⟨A, c, _, h1, h2, _⟩ := v17
      rw [hlen] at h1
      simp only [List.length_cons, maxLen] at h1 h2
      omega
     have S6 := (S5.drop.drop.mark hKw (fun h => hnK (Or.inr h)) (Nat.le_trans hW4 hK) (fun K' hK' => by have := hb.2 K' hK'; omega))
     refine w_region ?_
     have hI5 : IS (fun _ _ => none) (fun _ => none) [] [(19, .int .i64 (don.length : Nat))] ρ5 w5 := ⟨sim_nil _ _, repS_of fun p hp' => by
      simp only [List.mem_singleton] at hp'
      subst hp'; exact y19⟩
     refine i_pure (v := .int .i64 (EV.w64 ((don.length : Nat) + 1))) hI5 rfl rfl (by kernel_rfl) fun ρ6 hI5 q6 => ?_
     refine i_pure (v := .int .i64 (EV.w64 ((don.length : Nat) + 1))) hI5 rfl rfl (by kernel_rfl) fun ρ7 hI5 q7 => ?_
     refine ops_nil ?_
     refine nrm_then ⟨rem, ⟨don ++ [a], pre ++ namesL a, D1', by rw [hargs]; simp, by rw [← hpre, namesLs]; simp, S6, ?_, ?_, ?_, ?_⟩, by simp⟩
     ·rw [q7 2 (by decide), q6 2 (by decide)]; exact y2
     ·have h19 : ρ7 19 = .int .i64 (EV.w64 ((don.length : Nat) + 1)) := hI5.rep 19
      rw [h19]
      congr 1
      rw [w64_id (by omega) (by omega)]
      simp
     ·rw [q7 18 (by decide), q6 18 (by decide)]; exact y18
     ·rw [q7 17 (by decide), q6 17 (by decide), y17]; exact v17.up hz fun _ h => by cases h
    ·rintro K Df pre' w5 hK hp5 ⟨D1', S5, rfl, _, hs5⟩ hnK _ _ hKw
     refine ret_blk ?_
     refine ret_blk ?_
     refine ret_then ?_
     refine ret_then ?_
     refine ret_blk ?_
     have S6 := (S5.mark hKw (fun h => hnK (Or.inr h)) (Nat.le_trans hW4 hK) (fun K' hK' => by have := hb.2 K' hK'; omega))
     refine finX rfl S6 ?_
     obtain ⟨suf, hsuf⟩ := hp5
     rw [← hpre, namesLs, ← hsuf]
     exact ⟨suf ++ namesLs rem, by simp⟩
    ·rintro id K Df pre' w5 hK hp5 ⟨D1', S5, rfl, h, hs5⟩
     cases h
theorem iter_names (k : Nat) (e : Expr) : IterV Try.prog 59 [.ptr k 0 0] [(k, .box 44 (enc_Expr e))] sval (namesL e) := by
 have key : ∀ (n : Nat) (e : Expr), SizeOf.sizeOf e < n → ∀ k, IterV Try.prog 59 [.ptr k 0 0] [(k, .box 44 (enc_Expr e))] sval (namesL e) := fun n => by
  induction n with
  | zero => intro e h; omega
  | succ n ih =>
   intro e h k
   refine names_iter e k fun a ha k => ih a ?_ k
   have h1 := List.sizeOf_lt_of_mem ha
   cases e
   simp at h h1
   omega
 exact key _ e (Nat.lt_succ_self _) k
end Go.Proofs.Ytconjkgifdfhdaa
