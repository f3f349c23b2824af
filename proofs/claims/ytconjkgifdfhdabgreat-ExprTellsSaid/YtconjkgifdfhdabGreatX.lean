/- Eval and All in plain Lean. -/
import Derived.Test.YtconjkgifdfhdabGreatO
set_option linter.all false
set_option maxRecDepth 100000
namespace Go.Proofs.YtconjkgifdfhdabGreat
open Go Go.RowKit Go.Eng Go.EV Go.Grf
variable [Fuel]
structure In (p : Plan) (ms : List Entry) (zs : List (List UInt8)) : Prop where
 defs : p.Defs.length ≤ 20
 ok : okD p.Defs
 tabs : smallT p.Tables
 ms : ms.length ≤ 1000
 zs : zs.length ≤ 1000
def zoneV (zs : List (List UInt8)) (s : List UInt8) : Bool := decide (s ∈ zs)
theorem sol_ex {p : Plan} {ms : List Entry} {zs : List (List UInt8)} (h : In p ms zs) (hO : Okay p.Defs) : ∃ V, Sol p ms zs V := by
 obtain ⟨o, out, known, V, h1, h2, h3, h4, h5, h6, h7⟩ := (prepare_is h.defs h.ok h.tabs h.ms h.zs).1 hO
 exact ⟨V, h6⟩
theorem lookV_congr {l : List Def} {ms : List Entry} {V V' : Nat → Int} (h : ∀ k, k < l.length → V k = V' k) (s : List UInt8) : lookV l ms V s = lookV l ms V' s := by
 unfold lookV
 cases measV ms s with
 | some v => rfl
 | none =>
  cases hx : defIx l s with
  | none => rfl
  | some k => exact h k (defIx_some hx).1
theorem eval_wrong {p : Plan} {ms : List Entry} {zs : List (List UInt8)} {e : Expr} (hr : ¬ exRight e) : s_expr_Eval_2 p ms zs e = some 0 := by
 unfold s_expr_Eval_2
 rw [s_exRight, oB, dF hr]; rfl
theorem eval_ok {p : Plan} {ms : List Entry} {zs : List (List UInt8)} {e : Expr} (h : In p ms zs) (hr : exRight e) (hO : Okay p.Defs) {V : Nat → Int} (hV : Sol p ms zs V) : s_expr_Eval_2 p ms zs e = some (valV (lookV p.Defs ms V) (rowV p.Tables) (fun s => decide (s ∈ zs)) 12 e) := by
 obtain ⟨o, out, known, V0, h1, h2, h3, h4, h5, h6, h7⟩ := (prepare_is h.defs h.ok h.tabs h.ms h.zs).1 hO
 unfold s_expr_Eval_2
 rw [s_exRight, oB, dT hr, Bool.not_true, cF, h3, oB]
 dsimp only
 rw [value_is h.tabs h.zs 12 e KK (by omega) (by have := KK_big; omega) hr, oB]
 exact congrArg some (valV_congr 12 e fun s _ => (h7 s).trans (lookV_congr (sol_unique h1 h2 h6 hV) s))
theorem eval_bad {p : Plan} {ms : List Entry} {zs : List (List UInt8)} {e : Expr} (h : In p ms zs) (hr : exRight e) (hO : ¬ Okay p.Defs) : s_expr_Eval_2 p ms zs e = some (valV (fun s => (measV ms s).getD 0) (rowV p.Tables) (fun s => decide (s ∈ zs)) 12 e) := by
 obtain ⟨known, h3, h7⟩ := (prepare_is h.defs h.ok h.tabs h.ms h.zs).2 hO
 unfold s_expr_Eval_2
 rw [s_exRight, oB, dT hr, Bool.not_true, cF, h3, oB]
 dsimp only
 rw [value_is h.tabs h.zs 12 e KK (by omega) (by have := KK_big; omega) hr, oB]
 exact congrArg some (valV_congr 12 e fun s _ => congrArg (fun o => Option.getD o 0) (h7 s))
theorem all_ok {p : Plan} {ms : List Entry} {zs : List (List UInt8)} (h : In p ms zs) (hO : Okay p.Defs) {V : Nat → Int} (hV : Sol p ms zs V) : ∃ out, s_expr_All p ms zs = some out ∧ out.length = p.Defs.length ∧ ∀ k, k < p.Defs.length → out.getD k default = V k := by
 obtain ⟨o, out, known, V0, h1, h2, h3, h4, h5, h6, h7⟩ := (prepare_is h.defs h.ok h.tabs h.ms h.zs).1 hO
 refine ⟨out, ?_, h4, fun k hk => by rw [h5 k hk]; exact sol_unique h1 h2 h6 hV k hk⟩
 unfold s_expr_All
 rw [h3]; rfl
theorem all_bad {p : Plan} {ms : List Entry} {zs : List (List UInt8)} (h : In p ms zs) (hO : ¬ Okay p.Defs) : s_expr_All p ms zs = some (List.replicate p.Defs.length 0) := by
 obtain ⟨known, h3, h7⟩ := (prepare_is h.defs h.ok h.tabs h.ms h.zs).2 hO
 unfold s_expr_All
 rw [h3]; rfl
theorem few_In {p : Plan} {ms : List Entry} {zs : List (List UInt8)} (hf : Few p) (hg : ∀ d ∈ p.Defs, ∀ k ∈ namesL d.Body, k.length ≤ 9223372036854775807) (hm : ms.length ≤ 1000) (hz : zs.length ≤ 1000) : In p ms zs := by
 refine ⟨by have := hf.defs; omega, fun d hd => ⟨?_, hg d hd⟩, ⟨by have := hf.tabs; omega, fun t ht => by have := hf.rows t ht; omega⟩, hm, hz⟩
 obtain ⟨h1, h2⟩ := hf.light d hd
 have := names_cnt 20 _ h1; omega
theorem few_lvl {p : Plan} (hf : Few p) : ∀ d ∈ p.Defs, ∃ n, n ≤ 1000 ∧ lvl n d.Body ∧ cnt d.Body ≤ 1000 := fun d hd => by
 obtain ⟨h1, h2⟩ := hf.light d hd
 exact ⟨20, by omega, h1, by omega⟩
end Go.Proofs.YtconjkgifdfhdabGreat
