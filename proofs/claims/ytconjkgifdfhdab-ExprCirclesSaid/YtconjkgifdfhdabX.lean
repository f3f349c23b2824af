/- ExprCircles in plain Lean. -/
import Derived.Test.YtconjkgifdfhdabO
set_option linter.all false
set_option maxRecDepth 100000
namespace Go.Proofs.Ytconjkgifdfhdab
open Go Go.RowKit Go.Eng Go.EV Go.Grf
variable [Fuel]
structure In (p : Plan) (ms : List Entry) (zs : List (List UInt8)) : Prop where
 defs : p.Defs.length ≤ 20
 ok : okD p.Defs
 tabs : smallT p.Tables
 ms : ms.length ≤ 1000
 zs : zs.length ≤ 1000
def zoneV (zs : List (List UInt8)) (s : List UInt8) : Bool := decide (s ∈ zs)
theorem sol_ex {p : Plan} {ms : List Entry} {zs : List (List UInt8)} (h : In p ms zs) (hO : Okay p.Defs) : ∃ V, Sol p ms zs V := by
 obtain ⟨o, out, known, V, h1, h2, h3, h4, h5, h6, h7⟩ := (prepare_is h.defs h.ok h.tabs h.ms h.zs).1 hO
 exact ⟨V, h6⟩
theorem eval_wrong {p : Plan} {ms : List Entry} {zs : List (List UInt8)} {e : Expr} (hr : ¬ exRight e) : s_expr_Eval_2 p ms zs e = some 0 := by
 unfold s_expr_Eval_2
 rw [s_exRight, Option.bind_some, decide_eq_false hr]; rfl
theorem eval_bad {p : Plan} {ms : List Entry} {zs : List (List UInt8)} {e : Expr} (h : In p ms zs) (hr : exRight e) (hO : ¬ Okay p.Defs) : s_expr_Eval_2 p ms zs e = some (valV (fun s => (measV ms s).getD 0) (rowV p.Tables) (fun s => decide (s ∈ zs)) 12 e) := by
 obtain ⟨known, h3, h7⟩ := (prepare_is h.defs h.ok h.tabs h.ms h.zs).2 hO
 unfold s_expr_Eval_2
 rw [s_exRight, Option.bind_some, decide_eq_true hr, Bool.not_true, cond_false, h3, Option.bind_some]
 dsimp only
 rw [value_is h.tabs h.zs 12 e KK (by omega) (by have := KK_big; omega) hr, Option.bind_some]
 exact congrArg some (valV_congr 12 e fun s _ => congrArg (fun o => Option.getD o 0) (h7 s))
theorem all_ok {p : Plan} {ms : List Entry} {zs : List (List UInt8)} (h : In p ms zs) (hO : Okay p.Defs) {V : Nat → Int} (hV : Sol p ms zs V) : ∃ out, s_expr_All p ms zs = some out ∧ out.length = p.Defs.length ∧ ∀ k, k < p.Defs.length → out.getD k default = V k := by
 obtain ⟨o, out, known, V0, h1, h2, h3, h4, h5, h6, h7⟩ := (prepare_is h.defs h.ok h.tabs h.ms h.zs).1 hO
 refine ⟨out, ?_, h4, fun k hk => by rw [h5 k hk]; exact sol_unique h1 h2 h6 hV k hk⟩
 unfold s_expr_All
 rw [h3]; rfl
theorem all_bad {p : Plan} {ms : List Entry} {zs : List (List UInt8)} (h : In p ms zs) (hO : ¬ Okay p.Defs) : s_expr_All p ms zs = some (List.replicate p.Defs.length 0) := by
 obtain ⟨known, h3, h7⟩ := (prepare_is h.defs h.ok h.tabs h.ms h.zs).2 hO
 unfold s_expr_All
 rw [h3]; rfl
theorem foldl_mem {f g : Expr → Int} : ∀ (l : List Expr) (m : Int), (∀ x ∈ l, f x = g x) → l.foldl (fun m x => max m (f x)) m = l.foldl (fun m x => max m (g x)) m
 | [], m, _ => rfl
 | x :: l, m, h => by
  rw [List.foldl_cons, List.foldl_cons, h x (List.mem_cons_self ..)]
  exact foldl_mem l _ fun y hy => h y (List.mem_cons_of_mem _ hy)
theorem lev_mono : ∀ (n : Nat) (e : Expr), n ≤ 11 → levV n e ≤ n → levV (n + 1) e = levV n e
 | 0, e, _, h => by simp [levV] at h
 | n + 1, e, hn, h => by
  obtain ⟨h1, h2, h3⟩ := lev_args (by omega) h
  rw [levV, levV, foldl_mem e.Args 0 fun x hx => lev_mono n x (by omega) (h3 x hx)]
theorem not_right {e : Expr} (h : ¬ exRight e) : ¬ exRight (Expr.mk 15 0 [] [] [e]) := fun h2 => by
 obtain ⟨_, _, h3⟩ := lev_args (n := 11) (by omega) h2
 have h4 := h3 e (List.mem_cons_self ..)
 apply h
 show levV 12 e ≤ 12
 rw [lev_mono 11 e (by omega) h4]; omega
theorem name_right (s : List UInt8) : exRight (Expr.mk 1 0 s [] []) := by
 show levV 12 (Expr.mk 1 0 s [] []) ≤ 12
 rw [levV]
 have h : arV 1 = (0, true) := rfl
 simp [h]
theorem few_In {p : Plan} {ms : List Entry} {zs : List (List UInt8)} (hf : Few p) (hg : ∀ d ∈ p.Defs, ∀ k ∈ namesL d.Body, k.length ≤ 9223372036854775807) (hm : ms.length ≤ 1000) (hz : zs.length ≤ 1000) : In p ms zs := by
 refine ⟨by have := hf.defs; omega, fun d hd => ⟨?_, hg d hd⟩, ⟨by have := hf.tabs; omega, fun t ht => by have := hf.rows t ht; omega⟩, hm, hz⟩
 obtain ⟨h1, h2⟩ := hf.light d hd
 have := names_cnt 20 _ h1; omega
theorem few_lvl {p : Plan} (hf : Few p) : ∀ d ∈ p.Defs, ∃ n, n ≤ 1000 ∧ lvl n d.Body ∧ cnt d.Body ≤ 1000 := fun d hd => by
 obtain ⟨h1, h2⟩ := hf.light d hd
 exact ⟨20, by omega, h1, by omega⟩
theorem measV_nil (s : List UInt8) : measV [] s = none := rfl
theorem circles_true (p : Plan) (ms : List Entry) (zs : List (List UInt8)) (e : Expr) (hg : ∀ d ∈ p.Defs, ∀ k ∈ namesL d.Body, k.length ≤ 9223372036854775807) : s_greenbeltlaw17_ExprCircles p ms zs e = some true := by
 obtain ⟨b, hb, hbs⟩ := few_is p
 unfold s_greenbeltlaw17_ExprCircles
 rw [small_true, Option.bind_some, hb, Option.bind_some]
 cases b with
 | false => rfl
 | true =>
  have hf := hbs rfl
  rw [Bool.not_true, cond_false]
  by_cases hm : (ms.length : Int) > 20
  ·rw [decide_eq_true hm]; rfl
  rw [decide_eq_false hm, cond_false]
  by_cases hz : (zs.length : Int) > 20
  ·rw [decide_eq_true hz]; rfl
  rw [decide_eq_false hz, cond_false]
  obtain ⟨lt, hlt, _⟩ := light_is e
  rw [hlt, Option.bind_some]
  cases lt with
  | false => rfl
  | true =>
   rw [Bool.not_true, Option.bind_some, cond_false]
   have hI : In p ms zs := few_In hf hg (by omega) (by omega)
   have hI0 : In p [] zs := few_In hf hg (by simp) (by omega)
   have hv2 : ((s_expr_Right e).bind fun y4 => (bif (!y4) then (s_expr_Eval_2 p ms zs e).bind fun y5 => (bif (!(decide (y5 = 0))) then some true else (s_expr_Check_2 p [] e).bind fun y6 => (bif (!(decide (y6 = 1))) then some true else (s_greenbeltlaw17_op 15 [e]).bind fun y7 => (s_expr_Right y7).bind fun y8 => some y8)) else some false)) = some false := by
    rw [s_exRight, Option.bind_some]
    by_cases hr : exRight e
    ·rw [decide_eq_true hr]; rfl
    ·have hck : s_expr_Check_2 p [] e = some 1 := by
      unfold s_expr_Check_2
      rw [s_exRight, Option.bind_some, decide_eq_false hr]; rfl
     rw [decide_eq_false hr, Bool.not_false, cond_true, eval_wrong hr, Option.bind_some, decide_eq_true rfl, Bool.not_true, cond_false, hck, Option.bind_some, decide_eq_true rfl, Bool.not_true, cond_false]
     show ((s_expr_Right (Expr.mk 15 0 [] [] [e])).bind fun y8 => some y8) = some false
     rw [s_exRight, decide_eq_false (not_right hr)]; rfl
   rw [hv2, Option.bind_some, cond_false]
   obtain ⟨r, hr, hrs, _⟩ := refOrder_is hI.defs hI.ok (few_lvl hf)
   rw [hr, Option.bind_some]
   have hall : ∃ out, s_expr_All p ms zs = some out ∧ out.length = p.Defs.length ∧ (¬ Okay p.Defs → ∀ k, k < p.Defs.length → out.getD k default = 0) := by
    by_cases hO : Okay p.Defs
    ·obtain ⟨V, hV⟩ := sol_ex hI hO
     obtain ⟨out, h1, h2, _⟩ := all_ok hI hO hV
     exact ⟨out, h1, h2, fun h => absurd hO h⟩
    ·exact ⟨_, all_bad hI hO, by simp, fun _ k hk => getD_rep hk⟩
   obtain ⟨out, ho, hol, hoz⟩ := hall
   rw [ho, Option.bind_some, decide_eq_true (by omega), Bool.not_true, cond_false]
   have key := for_all (L := s_greenbeltlaw17_ExprCircles_L1 p zs r out) (s := (0 : Int)) (fun i a => a = (i : Int)) (fun t => t = .inr ()) out.length (by have := hf.defs; omega) rfl (fun K i a h hi => .inr ?_) (fun K a h => ?_)
   ·obtain ⟨t, h1, rfl⟩ := key
    rw [h1]; rfl
   ·subst h
    have hiN : i < p.Defs.length := by omega
    refine ⟨_, rfl, ?_⟩
    rw [s_greenbeltlaw17_ExprCircles_L1, decide_eq_true (by omega), cond_true, w64_succ hi (by have := hf.defs; omega)]
    by_cases hO : r.2.2 = 0
    ·rw [decide_eq_true hO, Bool.not_true, cond_false, Option.bind_some, cond_false]
    ·have hnO : ¬ Okay p.Defs := fun h => hO (hrs.2 h)
     rw [decide_eq_false hO, Bool.not_false, cond_true, idx_of hi, Option.bind_some, hoz hnO i hiN, decide_eq_true rfl, Bool.not_true, cond_false, idx_of hiN, Option.bind_some]
     show ((s_expr_Eval_2 p [] zs (Expr.mk 1 0 (p.Defs.getD i default).Name [] [])).bind fun y12 => some (!(decide (y12 = 0)))).bind _ = _
     rw [eval_bad hI0 (name_right _) hnO, Option.bind_some]
     have : valV (fun s => (measV [] s).getD 0) (rowV p.Tables) (fun s => decide (s ∈ zs)) 12 (Expr.mk 1 0 (p.Defs.getD i default).Name [] []) = 0 := by
      rw [valV]; simp [measV_nil]
     rw [this, decide_eq_true rfl, Bool.not_true, Option.bind_some, cond_false]
   ·subst h
    exact ⟨.inr (), by rw [s_greenbeltlaw17_ExprCircles_L1, decide_eq_false (by omega), cond_false], rfl⟩
end Go.Proofs.Ytconjkgifdfhdab
