/- DefineTells and DefineOrders in plain Lean. -/
import Derived.Test.YtconjkgifdfhdaaDn
set_option linter.all false
set_option maxRecDepth 100000
namespace Go.Proofs.Ytconjkgifdfhdaa
open Go Go.RowKit Go.Eng Go.EV Go.Grf
theorem ord_len {l : List Def} {r : List Int × List Nm × Int} (h : OrdS l r) : r.1.length ≤ l.length := by
 rcases h with ⟨_, rfl⟩ | ⟨_, c, _, _, rfl⟩ | ⟨_, _, o, _, h4, rfl⟩
 ·simp
 ·simp
 ·simp [nInts, h4]
variable [Fuel]
theorem tells_true (p : Plan) (s : Nm) (hb : Bnd p) : s_greenbeltlaw16_DefineTells p s = some true := by
 obtain ⟨b, hf, hs⟩ := few_is hb
 unfold s_greenbeltlaw16_DefineTells
 rw [small_true, Option.bind_some, hf, Option.bind_some]
 cases b with
 | false => rfl
 | true =>
  have hp := hs rfl
  have hN := hp.defs
  obtain ⟨r, h1, h2, h3⟩ := Order_gen2 (p := p) (by omega) hp.okD
  obtain ⟨r', k1, k2⟩ := refOrder_gen hp
  have e := h2.unique k2
  subst e
  have hl := ord_len h2
  rw [Bool.not_true, cond_false, h1, Option.bind_some, k1, Option.bind_some, decide_eq_true rfl, Bool.not_true, cond_false, sameNums_is (by omega), Option.bind_some, decide_eq_true rfl, Bool.not_true, cond_false, sameTexts_is (by omega), Option.bind_some, decide_eq_true rfl, Bool.not_true, cond_false, show s_define_Measures = some measL from rfl, Option.bind_some, show s_greenbeltref16_Measures = some () from rfl, Option.bind_some]
  have t1 : s_greenbeltref01_SameTexts measL measL = some true := by rw [sameTexts_is (by decide), decide_eq_true rfl]
  show ((s_greenbeltref01_SameTexts measL measL).bind fun y9 => some (!y9)).bind _ = _
  rw [t1, Option.bind_some, Option.bind_some, Bool.not_true, cond_false]
  have key := for_all (L := s_greenbeltlaw16_DefineTells_L1 p) (s := (0 : Int)) (fun i a => a = (i : Int)) (fun t => t = .inr ()) p.Defs.length (by omega) rfl (fun K i a h hi => .inr ?_) (fun K a h => ?_)
  ·obtain ⟨t, g1, rfl⟩ := key
   rw [g1, Option.bind_some]
   dsimp only
   obtain ⟨q, q1, q2, q3⟩ := reaches_same hp s
   obtain ⟨u, u1, u2, u3⟩ := unknown_same hp
   rw [cond_true, q1, Option.bind_some, q2, Option.bind_some, sameTexts_is (by omega), Option.bind_some, decide_eq_true rfl, cond_true, u1, Option.bind_some, u2, Option.bind_some, sameTexts_is (by omega), Option.bind_some, decide_eq_true rfl]
   rfl
  ·subst h
   obtain ⟨q, q1, q2, q3⟩ := reaches_same hp (p.Defs.getD i default).Name
   have hc := hp.body _ (getD_mem hi)
   have hnl := len_namesV (p.Defs.getD i default).Body
   have hnl2 := names_le (p.Defs.getD i default).Body
   rw [s_greenbeltlaw16_DefineTells_L1, decide_eq_true (by omega), cond_true, idx_of hi, Option.bind_some, sNames hp hi, Option.bind_some, Option.bind_some, rnames (by omega), Option.bind_some, sameTexts_is (by omega), Option.bind_some, decide_eq_true rfl, Bool.not_true, cond_false, Option.bind_some, q1, Option.bind_some, Option.bind_some, q2, Option.bind_some, sameTexts_is (by omega), Option.bind_some, decide_eq_true rfl, Bool.not_true, Option.bind_some, cond_false, w64_succ hi (by omega)]
   exact ⟨_, rfl, rfl⟩
  ·subst h
   exact ⟨_, by rw [s_greenbeltlaw16_DefineTells_L1, decide_eq_false (by omega), cond_false], rfl⟩
end Go.Proofs.Ytconjkgifdfhdaa
