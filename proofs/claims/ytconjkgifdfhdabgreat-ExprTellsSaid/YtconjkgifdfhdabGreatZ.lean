/- The examples of the documentation. -/
import Derived.Test.YtconjkgifdfhdabGreatSD
set_option linter.all false
set_option maxRecDepth 100000
namespace Go.Proofs.YtconjkgifdfhdabGreat
open Go Go.RowKit Go.Eng Go.EV
abbrev FF (m : Nat) (hb : 18446744073709551616 ≤ m + 100) : Fuel := ⟨m + 100, hb⟩
theorem sortKeys_nil {β : Type} : sortKeys ([] : List (List UInt8 × β)) = [] := by simp [sortKeys]
def tallS : List UInt8 := [116, 97, 108, 108]
def coreS : List UInt8 := [99, 111, 114, 101]
def tallE : Expr := Expr.mk 16 0 [] [] [(Expr.mk 3 0 coreS [] []), (Expr.mk 0 30 [] [] []), (Expr.mk 0 12 [] [] [])]
def tallD : Def := Def.mk tallS tallE
def tallP : Plan := Plan.mk [tallD] [] [(Zone.mk coreS false [])] [] [] [] [] 0
section
variable (m : Nat) (hb : 18446744073709551616 ≤ m + 100)
theorem names_tall : @s_define_Names tallE = some [] := by
 unfold s_define_Names
 have h : namesL tallE = [] := by simp [tallE, namesL, namesLs]
 show ((s_define_Names_L1 (namesL tallE) []).bind fun v1 => (s_maps_Keys v1).bind fun y2 => (grd ((List.map (·.1) v1).Nodup ∧ (∀ k ∈ List.map (·.1) v1, List.length k ≤ 9223372036854775807) ∧ List.length v1 * 16 ≤ 140737488355328)).bind fun _ => some (sortKeys v1)) = _
 rw [h]
 show ((grd (([] : List (List UInt8)).Nodup ∧ (∀ k ∈ ([] : List (List UInt8)), List.length k ≤ 9223372036854775807) ∧ 0 * 16 ≤ 140737488355328)).bind fun _ => some (sortKeys ([] : List (List UInt8 × Bool)))) = _
 rw [sortKeys_nil]
 rfl
theorem graph_tall : @s_define_newGraph (FF m hb) [tallD] = some ([tallD], [[]]) := by
 unfold s_define_newGraph
 have e1 : @s_define_newGraph_L1 [tallD] (@KK (FF m hb)) (0, []) = some [(tallS, 0)] := rfl
 have e2 : @s_define_newGraph_L2 (FF m hb) [tallD] [(tallS, 0)] (@KK (FF m hb)) (0, [[]]) = some [[]] := by
  show ((s_define_Names tallE).bind fun y1 => (s_define_newGraph_L3 [(tallS, 0)] y1 (0, [[]]) (m + 100) (0, [[]])).bind fun v3 => @s_define_newGraph_L2 (FF m hb) [tallD] [(tallS, 0)] (m + 99) (1, v3)) = _
  rw [names_tall]
  rfl
 rw [e1]
 show ((@s_define_newGraph_L2 (FF m hb) [tallD] [(tallS, 0)] (@KK (FF m hb)) (0, [[]])).bind fun v2 => some ([tallD], v2)) = _
 rw [e2]; rfl
theorem order_tall : @s_define_Order (FF m hb) tallP = some ([0], [], 0) := by
 unfold s_define_Order
 show ((@s_define_newGraph (FF m hb) [tallD]).bind fun y2 => (@s_define_graph_smallest (FF m hb) y2.1 y2.2).bind fun y3 => (bif (!(List.isEmpty y3.1)) then some ([], y3.1, 16) else (@s_define_graph_order (FF m hb) y3.2.1 y3.2.2).bind fun y4 => some (y4.1, [], 0))) = _
 rw [graph_tall]
 rfl
end
section
variable [Fuel]
def prepF (p : Plan) (measures : List Entry) (zones : List (List UInt8)) (y1 : (List Int) × (List (List UInt8)) × Int) : Option (Plan × (List (List UInt8)) × (List Int) × (List ((List UInt8) × Int))) :=
 ((s_expr_prepare_L1 measures) KK (0, [], [])).bind fun v1 => (grd (0 ≤ (List.length p.Defs : Int) ∧ (List.length p.Defs : Int) * 8 ≤ 281474976710656 ∧ (List.length p.Defs : Int) ≤ 9223372036854775807)).bind fun _ => (bif (!(decide (y1.2.2 = 0))) then some (p, zones, (List.replicate (Int.toNat (List.length p.Defs : Int)) (0 : Int)), v1.2) else ((s_expr_prepare_L2 p zones v1 y1) KK (0, (List.replicate (Int.toNat (List.length p.Defs : Int)) (0 : Int)), v1.2)).bind fun v3 => some (p, zones, v3.1, v3.2))
theorem prep_of {p : Plan} {ms : List Entry} {zs : List (List UInt8)} {o : (List Int) × (List (List UInt8)) × Int} (h : s_define_Order p = some o) : s_expr_prepare p ms zs = prepF p ms zs o := by unfold s_expr_prepare prepF; rw [h]; rfl
end
def heightS : List UInt8 := [104, 101, 105, 103, 104, 116]
def areaS : List UInt8 := [97, 114, 101, 97]
def tallM : List Entry := [(Entry.mk heightS 14), (Entry.mk areaS 200)]
section
variable (m : Nat) (hb : 18446744073709551616 ≤ m + 100)
theorem prep_core : @s_expr_prepare (FF m hb) tallP tallM [coreS] = some (tallP, [coreS], [30], [(heightS, 14), (areaS, 200), (tallS, 30)]) := by
 rw [@prep_of (FF m hb) _ _ _ _ (order_tall m hb)]; rfl
theorem prep_none : @s_expr_prepare (FF m hb) tallP tallM [] = some (tallP, [], [12], [(heightS, 14), (areaS, 200), (tallS, 12)]) := by
 rw [@prep_of (FF m hb) _ _ _ _ (order_tall m hb)]; rfl
theorem eval_of {e : Expr} {zs : List (List UInt8)} {o : List Int} {k : List (List UInt8 × Int)} {v : Int} (hr : @s_expr_Right (FF m hb) e = some true) (hp : @s_expr_prepare (FF m hb) tallP tallM zs = some (tallP, zs, o, k)) (hv : @s_expr_context_value (FF m hb) (m + 100) tallP k zs e = some v) : @s_expr_Eval (FF m hb) [Def.mk ([116, 97, 108, 108] : List UInt8) (Expr.mk 16 0 [] [] [(Expr.mk 3 0 ([99, 111, 114, 101] : List UInt8) [] []), (Expr.mk 0 30 [] [] []), (Expr.mk 0 12 [] [] [])])] [] [(Zone.mk ([99, 111, 114, 101] : List UInt8) false [])] [] [] [] [] 0 [(Entry.mk ([104, 101, 105, 103, 104, 116] : List UInt8) 14), (Entry.mk ([97, 114, 101, 97] : List UInt8) 200)] zs e = some v := by
 show (@s_expr_Right (FF m hb) e).bind (fun y1 => (bif (!y1) then some 0 else (@s_expr_prepare (FF m hb) tallP tallM zs).bind fun y2 => (@s_expr_context_value (FF m hb) (m + 100) y2.1 y2.2.2.2 y2.2.1 e).bind fun y3 => some y3)) = _
 rw [hr, hp]
 show (@s_expr_context_value (FF m hb) (m + 100) tallP k zs e).bind _ = _
 rw [hv]; rfl
theorem small_at : @s_gl17_small (FF m hb) = some true := by
 unfold s_gl17_small
 simp only [s_gl17_num, s_gl17_op, s_gl17_name, oB]
 have h := eval_of m hb (v := 1) (e := Expr.mk 12 0 [] [] [Expr.mk 1 0 heightS [] [], Expr.mk 1 0 tallS [] []]) rfl (prep_core m hb) rfl
 try dsimp only [heightS, tallS, areaS, coreS] at h
 rw [h]
 clear h
 have h := eval_of m hb (v := 0) (e := Expr.mk 12 0 [] [] [Expr.mk 1 0 heightS [] [], Expr.mk 1 0 tallS [] []]) rfl (prep_none m hb) rfl
 try dsimp only [heightS, tallS, areaS, coreS] at h
 rw [h]
 clear h
 have h := eval_of m hb (v := 0) (e := Expr.mk 7 0 [] [] [Expr.mk 1 0 areaS [] [], Expr.mk 0 0 [] [] []]) rfl (prep_none m hb) rfl
 try dsimp only [heightS, tallS, areaS, coreS] at h
 rw [h]
 clear h
 have h := eval_of m hb (v := -4) (e := Expr.mk 7 0 [] [] [Expr.mk 5 0 [] [] [Expr.mk 0 0 [] [] [], Expr.mk 0 7 [] [] []], Expr.mk 0 2 [] [] []]) rfl (prep_none m hb) rfl
 try dsimp only [heightS, tallS, areaS, coreS] at h
 rw [h]
 clear h
 have h := eval_of m hb (v := 1) (e := Expr.mk 8 0 [] [] [Expr.mk 5 0 [] [] [Expr.mk 0 0 [] [] [], Expr.mk 0 7 [] [] []], Expr.mk 0 2 [] [] []]) rfl (prep_none m hb) rfl
 try dsimp only [heightS, tallS, areaS, coreS] at h
 rw [h]
 clear h
 rfl
end
theorem small_true : ∀ i : Fuel, @s_gl17_small i = some true := by
 rintro ⟨n, hb⟩
 obtain ⟨m, rfl⟩ : ∃ m, n = m + 100 := ⟨n - 100, by omega⟩
 exact small_at m hb
end Go.Proofs.YtconjkgifdfhdabGreat
