/- What the functions compute; printed by reopen.py. -/
import Derived.Test.YtenljipeggacjaaGreatC
set_option linter.all false
set_option maxRecDepth 100000
namespace Go.Proofs.YtenljipeggacjaaGreat
open Go Go.RowKit Go.Eng Go.EV
theorem si {α : Type} {a b : α} (h : some a = some b) : a = b := Option.some.inj h
/-- The fuel of loops and recursions. -/
class Fuel where
  n : Nat
  big : 18446744073709551616 ≤ n
def KK [Fuel] : Nat := Fuel.n
section
variable [Fuel]
def s_greenbeltlaw45_less (s : (List UInt8)) (n : Int) : Option Expr :=
  some (Expr.mk 11 0 [] [] [(Expr.mk 1 0 s [] []), (Expr.mk 0 n [] [] [])])
def s_fact_valid (f : Fact) : Option Bool :=
  ((bif (!(decide (f.Key = []))) then (bif (decide ((List.length f.Key : Int) ≤ 20)) then (bif (decide ((min f.From f.Known) ≥ 0)) then (bif (decide ((max (max f.From f.Until) f.Known) ≤ 1073741824)) then (bif (decide (f.Until = 0)) then some true else some (decide (f.Until > f.From))) else some false) else some false) else some false) else some false)).bind fun v1 => some v1
def s_fact_Right_L1 (base : (List Fact)) : Nat → Int → Option (Bool ⊕ Unit)
  | 0, _ => none
  | K1 + 1, q1 => (bif (decide (q1 < (List.length base : Int))) then (idx base q1).bind fun x1 => ((s_fact_valid x1).bind fun y1 => (bif (!y1) then some true else (bif (decide (q1 > 0)) then (idx base (w64 (q1 - 1))).bind fun x2 => some (decide (x1.Known < x2.Known)) else some false))).bind fun v2 => (bif v2 then some (.inl false) else (s_fact_Right_L1 base) K1 (w64 (q1 + 1))) else some (.inr ()))
def s_fact_Right (base : (List Fact)) : Option Bool :=
  ((s_fact_Right_L1 base) KK 0 : Option (Bool ⊕ Unit)).bind fun z1 => match z1 with
 | .inl r => some r
 | .inr v1 => some (decide ((List.length base : Int) ≤ 5000))
def s_expr_arity (op : Int) : Option (Int × Bool) :=
  ((bif (decide (op = 0)) then some (decide (op = 0)) else (bif (decide (op = 1)) then some (decide (op = 1)) else (bif (decide (op = 2)) then some (decide (op = 2)) else some (decide (op = 3)))))).bind fun v1 => (bif v1 then some (0, true) else ((bif (decide (op = 9)) then some (decide (op = 9)) else some (decide (op = 15)))).bind fun v2 => (bif v2 then some (1, true) else (bif (decide (op = 16)) then some (3, true) else ((bif (decide (op ≥ 0)) then some (decide (op < 17)) else some false)).bind fun v3 => some (2, v3))))
def s_expr_levels_L1 (rec_expr_levels : Expr → Int → Option Int) (e : Expr) (above : Int) : Nat → (Int × Int) → Option Int
  | 0, _ => none
  | K1 + 1, q1 => (bif (decide (q1.2 < (List.length e.Args : Int))) then (idx e.Args q1.2).bind fun x1 => (rec_expr_levels x1 (w64 (above + 1))).bind fun y2 => (s_expr_levels_L1 rec_expr_levels e above) K1 ((max q1.1 y2), (w64 (q1.2 + 1))) else some q1.1)
def s_expr_levels : Nat → Expr → Int → Option Int
  | 0, _, _ => none
  | nF + 1, e, above => (s_expr_arity e.Op).bind fun y1 => ((bif (!y1.2) then some true else (bif (!(decide (y1.1 = (List.length e.Args : Int)))) then some true else some (decide (above ≥ 12))))).bind fun v1 => (bif v1 then some 13 else ((s_expr_levels_L1 (s_expr_levels nF) e above) KK (0, 0)).bind fun v2 => some (w64 (v2 + 1)))
def s_expr_Right (e : Expr) : Option Bool :=
  (s_expr_levels KK e 0).bind fun y1 => some (decide (y1 ≤ 12))
def s_reopen_Right (f : Formula) : Option Bool :=
  ((s_expr_Right f.Body).bind fun y1 => (bif y1 then (bif (decide ((min f.Day f.Known) ≥ 0)) then some (decide ((max f.Day f.Known) ≤ 1073741824)) else some false) else some false)).bind fun v1 => some v1
def s_define_names (e : Expr) : Option (Int × Int × (List UInt8) × (List UInt8) × (List Expr)) :=
  some (e.Op, e.N, e.S, e.Key, e.Args)
def s_maps_Keys (m_ : (List ((List UInt8) × Bool))) : Option Unit :=
  some ()
def s_define_Names_L1  : List (List UInt8) → (List ((List UInt8) × Bool)) → Option (List ((List UInt8) × Bool))
  | [], q1 => some q1
  | x1 :: xs1, q1 => s_define_Names_L1 xs1 (mset x1 true q1)
def s_define_Names (e : Expr) : Option (List (List UInt8)) :=
  (s_define_names e).bind fun y1 => (s_define_Names_L1 (namesL (Expr.mk y1.1 y1.2.1 y1.2.2.1 y1.2.2.2.1 y1.2.2.2.2)) []).bind fun v1 => (s_maps_Keys v1).bind fun y2 => (grd ((List.map (·.1) v1).Nodup ∧ (∀ k ∈ List.map (·.1) v1, List.length k ≤ 9223372036854775807) ∧ List.length v1 * 16 ≤ 140737488355328)).bind fun _ => some (sortKeys v1)
def s_fact_last (base : (List Fact)) (key : (List UInt8)) (known : Int) : Option (Int × (List UInt8) × (List Fact)) :=
  some (known, key, base)
def s_fact_end (f : Fact) : Option Int :=
  (bif (decide (f.Until = 0)) then some 1073741825 else some f.Until)
def s_fact_counts_L1 (base : (List Fact)) (day : Int) : List Int → Unit → Option (Int ⊕ Unit)
  | [], q1 => some (.inr ())
  | x1 :: xs1, q1 => ((idx base x1).bind fun x2 => (bif (decide (x2.From ≤ day)) then (idx base x1).bind fun x3 => (s_fact_end x3).bind fun y2 => some (decide (day < y2)) else some false)).bind fun v2 => (bif v2 then some (.inl x1) else (s_fact_counts_L1 base day) xs1 ())
def s_fact_counts (base : (List Fact)) (key : (List UInt8)) (day : Int) (known : Int) : Option Int :=
  (s_fact_last base key known).bind fun y1 => ((s_fact_counts_L1 base day) (lastIdx y1.2.2 y1.2.1 y1.1) () : Option (Int ⊕ Unit)).bind fun z1 => match z1 with
 | .inl r => some r
 | .inr v1 => some (-1)
def s_fact_At (base : (List Fact)) (key : (List UInt8)) (day : Int) (known : Int) : Option (Int × Bool) :=
  ((bif (decide (day < 0)) then some true else (bif (decide (day > 1073741824)) then some true else (s_fact_Right base).bind fun y1 => some (!y1)))).bind fun v1 => (bif v1 then some (0, false) else (s_fact_counts base key day known).bind fun y2 => (bif (decide (y2 < 0)) then some (0, false) else (idx base y2).bind fun x1 => some (x1.Value, true)))
def s_reopen_look (base : (List Fact)) (key : (List UInt8)) (day : Int) (known : Int) : Option Asked :=
  (s_fact_At base key day known).bind fun y1 => some (Asked.mk key day y1.1 y1.2)
def s_reopen_Ask_L1 (base : (List Fact)) (f : Formula) (known : Int) (y1 : (List (List UInt8))) : Nat → (Int × (List Asked)) → Option (List Asked)
  | 0, _ => none
  | K1 + 1, q1 => (bif (decide (q1.1 < (List.length y1 : Int))) then (idx y1 q1.1).bind fun x1 => (s_reopen_look base x1 f.Day known).bind fun y2 => (grd (((q1.2 ++ [y2])).length * 40 ≤ 140737488355328)).bind fun _ => (s_reopen_Ask_L1 base f known y1) K1 ((w64 (q1.1 + 1)), (q1.2 ++ [y2])) else some q1.2)
def s_reopen_Ask (base : (List Fact)) (f : Formula) (known : Int) : Option (List Asked) :=
  (s_define_Names f.Body).bind fun y1 => ((s_reopen_Ask_L1 base f known y1) KK (0, [])).bind fun v1 => some v1
def s_define_Measures  : Option (List (List UInt8)) :=
  some [([97, 114, 101, 97] : List UInt8), ([99, 111, 118, 101, 114] : List UInt8), ([102, 108, 111, 111, 114] : List UInt8), ([102, 108, 111, 111, 114, 115] : List UInt8), ([104, 101, 105, 103, 104, 116] : List UInt8), ([104, 111, 109, 101, 115] : List UInt8), ([114, 117, 110, 111, 102, 102] : List UInt8), ([115, 101, 116, 98, 97, 99, 107] : List UInt8), ([116, 114, 97, 102, 102, 105, 99] : List UInt8)]
def s_define_newGraph_L1 (l : (List Def)) : Nat → (Int × (List ((List UInt8) × Int))) → Option (List ((List UInt8) × Int))
  | 0, _ => none
  | K1 + 1, q1 => (bif (decide (q1.1 < (List.length l : Int))) then (idx l q1.1).bind fun x1 => (s_define_newGraph_L1 l) K1 ((w64 (q1.1 + 1)), (mset x1.Name q1.1 q1.2)) else some q1.2)
def s_define_newGraph_L3 (v1 : (List ((List UInt8) × Int))) (y1 : (List (List UInt8))) : Nat → Int → Option Unit
  | 0, _ => none
  | K3 + 1, q3 => (bif (decide (q3 < (List.length y1 : Int))) then (idx y1 q3).bind fun x3 => (bif (Option.isSome (mfind x3 v1)) then none else (s_define_newGraph_L3 v1 y1) K3 (w64 (q3 + 1))) else some ())
def s_define_newGraph_L2 (l : (List Def)) (v1 : (List ((List UInt8) × Int))) : Nat → Int → Option Unit
  | 0, _ => none
  | K2 + 1, q2 => (bif (decide (q2 < (List.length l : Int))) then (idx l q2).bind fun x2 => (s_define_Names x2.Body).bind fun y1 => ((s_define_newGraph_L3 v1 y1) KK 0).bind fun v3 => (s_define_newGraph_L2 l v1) K2 (w64 (q2 + 1)) else some ())
def s_define_newGraph (l : (List Def)) : Option ((List Def) × (List (List Int))) :=
  ((s_define_newGraph_L1 l) KK (0, [])).bind fun v1 => (grd (0 ≤ (List.length l : Int) ∧ (List.length l : Int) * 24 ≤ 281474976710656 ∧ (List.length l : Int) ≤ 9223372036854775807)).bind fun _ => ((s_define_newGraph_L2 l v1) KK 0).bind fun v2 => some (l, (List.replicate (Int.toNat (List.length l : Int)) ([] : (List Int))))
def s_bits_Mul64 (x : Int) (y : Int) : Option (Int × Int) :=
  some ((IntKind.u64.wrap ((IntKind.u64.wrap ((IntKind.u64.wrap ((Int.fdiv x (2 ^ (min (32 : Int).toNat IntKind.u64.bits))) * (Int.fdiv y (2 ^ (min (32 : Int).toNat IntKind.u64.bits))))) + (Int.fdiv (IntKind.u64.wrap ((IntKind.u64.wrap ((Int.fdiv x (2 ^ (min (32 : Int).toNat IntKind.u64.bits))) * (IntKind.u64.wrap ((BitVec.ofInt IntKind.u64.bits y &&& BitVec.ofInt IntKind.u64.bits 4294967295).toNat : Int)))) + (Int.fdiv (IntKind.u64.wrap ((IntKind.u64.wrap ((BitVec.ofInt IntKind.u64.bits x &&& BitVec.ofInt IntKind.u64.bits 4294967295).toNat : Int)) * (IntKind.u64.wrap ((BitVec.ofInt IntKind.u64.bits y &&& BitVec.ofInt IntKind.u64.bits 4294967295).toNat : Int)))) (2 ^ (min (32 : Int).toNat IntKind.u64.bits))))) (2 ^ (min (32 : Int).toNat IntKind.u64.bits))))) + (Int.fdiv (IntKind.u64.wrap ((IntKind.u64.wrap ((BitVec.ofInt IntKind.u64.bits (IntKind.u64.wrap ((IntKind.u64.wrap ((Int.fdiv x (2 ^ (min (32 : Int).toNat IntKind.u64.bits))) * (IntKind.u64.wrap ((BitVec.ofInt IntKind.u64.bits y &&& BitVec.ofInt IntKind.u64.bits 4294967295).toNat : Int)))) + (Int.fdiv (IntKind.u64.wrap ((IntKind.u64.wrap ((BitVec.ofInt IntKind.u64.bits x &&& BitVec.ofInt IntKind.u64.bits 4294967295).toNat : Int)) * (IntKind.u64.wrap ((BitVec.ofInt IntKind.u64.bits y &&& BitVec.ofInt IntKind.u64.bits 4294967295).toNat : Int)))) (2 ^ (min (32 : Int).toNat IntKind.u64.bits))))) &&& BitVec.ofInt IntKind.u64.bits 4294967295).toNat : Int)) + (IntKind.u64.wrap ((IntKind.u64.wrap ((BitVec.ofInt IntKind.u64.bits x &&& BitVec.ofInt IntKind.u64.bits 4294967295).toNat : Int)) * (Int.fdiv y (2 ^ (min (32 : Int).toNat IntKind.u64.bits))))))) (2 ^ (min (32 : Int).toNat IntKind.u64.bits))))), (IntKind.u64.wrap (x * y)))
def s_bits_Mul (x : Int) (y : Int) : Option (Int × Int) :=
  (s_bits_Mul64 x y).bind fun y1 => some (y1.1, y1.2)
def s_define_graph_smallest_L1 (g_defs : (List Def)) : Nat → Unit → Option Unit
  | 0, _ => none
  | K1 + 1, q1 => (bif (decide (0 < (List.length g_defs : Int))) then none else some ())
def s_define_graph_smallest (g_defs : (List Def)) (g_uses : (List (List Int))) : Option ((List Def) × (List (List Int))) :=
  ((s_define_graph_smallest_L1 g_defs) KK ()).bind fun v1 => some (g_defs, g_uses)
def s_define_graph_order_1 (k : Int) (a1 : (List Bool)) : Option (Bool × (List Bool)) :=
  (grd (0 ≤ k ∧ k < ((a1).length : Nat))).bind fun _ => (some (a1.getD (Int.toNat k) default)).bind fun e1 => some ((!e1), a1)
def s_slices_IndexFunc_L1 (s : (List Int)) : Nat → (Int × (List Bool)) → Option ((Int × (List Bool)) ⊕ (List Bool))
  | 0, _ => none
  | K1 + 1, q1 => (bif (decide (q1.1 < (List.length s : Int))) then (idx s q1.1).bind fun x1 => (s_define_graph_order_1 x1 q1.2).bind fun y1 => (bif y1.1 then some (.inl (q1.1, y1.2)) else (s_slices_IndexFunc_L1 s) K1 ((w64 (q1.1 + 1)), y1.2)) else some (.inr q1.2))
def s_slices_IndexFunc (s : (List Int)) (k : (List Bool)) : Option (Int × (List Bool)) :=
  ((s_slices_IndexFunc_L1 s) KK (0, k) : Option ((Int × (List Bool)) ⊕ (List Bool))).bind fun z1 => match z1 with
 | .inl r => some r
 | .inr v1 => some ((-1), v1)
def s_slices_ContainsFunc (s : (List Int)) (k : (List Bool)) : Option (Bool × (List Bool)) :=
  (s_slices_IndexFunc s k).bind fun y1 => some ((decide (y1.1 ≥ 0)), y1.2)
def s_define_graph_order_L2 (g_defs : (List Def)) (g_uses : (List (List Int))) : Nat → (Int × Int × (List Bool)) → Option (Int × (List Bool))
  | 0, _ => none
  | K2 + 1, q2 => (bif (decide (q2.2.1 < ((g_uses).length : Int))) then (grd (0 ≤ q2.2.1 ∧ q2.2.1 < ((g_uses).length : Nat))).bind fun _ => (some (g_uses.getD (Int.toNat q2.2.1) default)).bind fun e1 => (s_slices_ContainsFunc e1 q2.2.2).bind fun y1 => ((grd (0 ≤ q2.2.1 ∧ q2.2.1 < ((y1.2).length : Nat))).bind fun _ => (some (y1.2.getD (Int.toNat q2.2.1) default)).bind fun e2 => (bif (!e2) then (bif (!y1.1) then (bif (decide (q2.1 < 0)) then some true else (idx g_defs q2.2.1).bind fun x1 => (idx g_defs q2.1).bind fun x2 => some (Op.bytesLess x1.Name x2.Name)) else some false) else some false)).bind fun v3 => ((bif v3 then some q2.2.1 else some q2.1)).bind fun v4 => (s_define_graph_order_L2 g_defs g_uses) K2 (v4, (w64 (q2.2.1 + 1)), y1.2) else some (q2.1, q2.2.2))
def s_define_graph_order_L1 (g_defs : (List Def)) (g_uses : (List (List Int))) : Nat → (Int × (List Bool) × (List Int)) → Option (List Int)
  | 0, _ => none
  | K1 + 1, q1 => (bif (decide (q1.1 < (List.length g_defs : Int))) then ((s_define_graph_order_L2 g_defs g_uses) KK ((-1), 0, q1.2.1)).bind fun v2 => (grd (0 ≤ v2.1 ∧ v2.1 < ((v2.2).length : Nat))).bind fun _ => (some (v2.2.getD (Int.toNat v2.1) default)).bind fun e3 => (grd (((q1.2.2 ++ [v2.1])).length * 8 ≤ 140737488355328)).bind fun _ => (s_define_graph_order_L1 g_defs g_uses) K1 ((w64 (q1.1 + 1)), (List.set v2.2 (Int.toNat v2.1) true), (q1.2.2 ++ [v2.1])) else some q1.2.2)
def s_define_graph_order (g_defs : (List Def)) (g_uses : (List (List Int))) : Option ((List Int) × (List Def) × (List (List Int))) :=
  (grd (0 ≤ (List.length g_defs : Int) ∧ (List.length g_defs : Int) * 1 ≤ 281474976710656 ∧ (List.length g_defs : Int) ≤ 9223372036854775807)).bind fun _ => ((s_define_graph_order_L1 g_defs g_uses) KK (0, (List.replicate (Int.toNat (List.length g_defs : Int)) (false : Bool)), [])).bind fun v1 => some (v1, g_defs, g_uses)
def s_define_Order_L1 (y1 : (List (List UInt8))) : Nat → (Int × (List ((List UInt8) × Bool))) → Option (List ((List UInt8) × Bool))
  | 0, _ => none
  | K1 + 1, q1 => (bif (decide (q1.1 < (List.length y1 : Int))) then (idx y1 q1.1).bind fun x1 => (s_define_Order_L1 y1) K1 ((w64 (q1.1 + 1)), (mset x1 true q1.2)) else some q1.2)
def s_define_Order_L2 (p : Plan) : Nat → (Int × (List ((List UInt8) × Bool))) → Option (((List Int) × Int) ⊕ Unit)
  | 0, _ => none
  | K2 + 1, q2 => (bif (decide (q2.1 < (List.length p.Defs : Int))) then (idx p.Defs q2.1).bind fun x2 => (bif (Option.getD (mfind x2.Name q2.2) false) then some (.inl ([], 5)) else (s_define_Order_L2 p) K2 ((w64 (q2.1 + 1)), (mset x2.Name true q2.2))) else some (.inr ()))
def s_define_Order (p : Plan) : Option ((List Int) × Int) :=
  (s_define_Measures ).bind fun y1 => ((s_define_Order_L1 y1) KK (0, [])).bind fun v1 => ((s_define_Order_L2 p) KK (0, v1) : Option (((List Int) × Int) ⊕ Unit)).bind fun z2 => match z2 with
 | .inl r => some r
 | .inr v2 => (s_define_newGraph p.Defs).bind fun y2 => (s_define_graph_smallest y2.1 y2.2).bind fun y3 => (s_define_graph_order y3.1 y3.2).bind fun y4 => some (y4.1, 0)
def s_expr_context_row_1 (t : Table) (a1_Op : Int) (a1_N : Int) (a1_S : (List UInt8)) (a1_Key : (List UInt8)) (a1_Args : (List Expr)) : Option (Bool × Int × Int × (List UInt8) × (List UInt8) × (List Expr)) :=
  some ((decide (t.Name = a1_S)), a1_Op, a1_N, a1_S, a1_Key, a1_Args)
def s_slices_IndexFunc_2_L1 (s : (List Table)) : Nat → (Int × Int × Int × (List UInt8) × (List UInt8) × (List Expr)) → Option ((Int × Int × Int × (List UInt8) × (List UInt8) × (List Expr)) ⊕ (Int × Int × (List UInt8) × (List UInt8) × (List Expr)))
  | 0, _ => none
  | K1 + 1, q1 => (bif (decide (q1.1 < (List.length s : Int))) then (idx s q1.1).bind fun x1 => (s_expr_context_row_1 x1 q1.2.1 q1.2.2.1 q1.2.2.2.1 q1.2.2.2.2.1 q1.2.2.2.2.2).bind fun y1 => (bif y1.1 then some (.inl (q1.1, y1.2.1, y1.2.2.1, y1.2.2.2.1, y1.2.2.2.2.1, y1.2.2.2.2.2)) else (s_slices_IndexFunc_2_L1 s) K1 ((w64 (q1.1 + 1)), y1.2.1, y1.2.2.1, y1.2.2.2.1, y1.2.2.2.2.1, y1.2.2.2.2.2)) else some (.inr (q1.2.1, q1.2.2.1, q1.2.2.2.1, q1.2.2.2.2.1, q1.2.2.2.2.2)))
def s_slices_IndexFunc_2 (s : (List Table)) (t_Op : Int) (t_N : Int) (t_S : (List UInt8)) (t_Key : (List UInt8)) (t_Args : (List Expr)) : Option (Int × Int × Int × (List UInt8) × (List UInt8) × (List Expr)) :=
  ((s_slices_IndexFunc_2_L1 s) KK (0, t_Op, t_N, t_S, t_Key, t_Args) : Option ((Int × Int × Int × (List UInt8) × (List UInt8) × (List Expr)) ⊕ (Int × Int × (List UInt8) × (List UInt8) × (List Expr)))).bind fun z1 => match z1 with
 | .inl r => some r
 | .inr v1 => some ((-1), v1.1, v1.2.1, v1.2.2.1, v1.2.2.2.1, v1.2.2.2.2)
def s_expr_context_row_2 (r_ : Entry) (a1_Op : Int) (a1_N : Int) (a1_S : (List UInt8)) (a1_Key : (List UInt8)) (a1_Args : (List Expr)) : Option (Bool × Int × Int × (List UInt8) × (List UInt8) × (List Expr)) :=
  some ((decide (r_.Name = a1_Key)), a1_Op, a1_N, a1_S, a1_Key, a1_Args)
def s_slices_IndexFunc_3_L1 (s : (List Entry)) : Nat → (Int × Int × Int × (List UInt8) × (List UInt8) × (List Expr)) → Option ((Int × Int × Int × (List UInt8) × (List UInt8) × (List Expr)) ⊕ (Int × Int × (List UInt8) × (List UInt8) × (List Expr)))
  | 0, _ => none
  | K1 + 1, q1 => (bif (decide (q1.1 < (List.length s : Int))) then (idx s q1.1).bind fun x1 => (s_expr_context_row_2 x1 q1.2.1 q1.2.2.1 q1.2.2.2.1 q1.2.2.2.2.1 q1.2.2.2.2.2).bind fun y1 => (bif y1.1 then some (.inl (q1.1, y1.2.1, y1.2.2.1, y1.2.2.2.1, y1.2.2.2.2.1, y1.2.2.2.2.2)) else (s_slices_IndexFunc_3_L1 s) K1 ((w64 (q1.1 + 1)), y1.2.1, y1.2.2.1, y1.2.2.2.1, y1.2.2.2.2.1, y1.2.2.2.2.2)) else some (.inr (q1.2.1, q1.2.2.1, q1.2.2.2.1, q1.2.2.2.2.1, q1.2.2.2.2.2)))
def s_slices_IndexFunc_3 (s : (List Entry)) (r_Op : Int) (r_N : Int) (r_S : (List UInt8)) (r_Key : (List UInt8)) (r_Args : (List Expr)) : Option (Int × Int × Int × (List UInt8) × (List UInt8) × (List Expr)) :=
  ((s_slices_IndexFunc_3_L1 s) KK (0, r_Op, r_N, r_S, r_Key, r_Args) : Option ((Int × Int × Int × (List UInt8) × (List UInt8) × (List Expr)) ⊕ (Int × Int × (List UInt8) × (List UInt8) × (List Expr)))).bind fun z1 => match z1 with
 | .inl r => some r
 | .inr v1 => some ((-1), v1.1, v1.2.1, v1.2.2.1, v1.2.2.2.1, v1.2.2.2.2)
def s_expr_context_row (c_plan : Plan) (c_known : (List ((List UInt8) × Int))) (c_zones : (List (List UInt8))) (e : Expr) : Option Int :=
  (s_slices_IndexFunc_2 c_plan.Tables e.Op e.N e.S e.Key e.Args).bind fun y1 => (bif (decide (y1.1 < 0)) then some 0 else (idx c_plan.Tables y1.1).bind fun x1 => (s_slices_IndexFunc_3 x1.Rows y1.2.1 y1.2.2.1 y1.2.2.2.1 y1.2.2.2.2.1 y1.2.2.2.2.2).bind fun y2 => (bif (decide (y2.1 ≥ 0)) then (idx x1.Rows y2.1).bind fun x2 => some x2.N else some x1.Else))
def s_slices_Index_L1 (s : (List (List UInt8))) (v : (List UInt8)) : Nat → Int → Option (Int ⊕ Unit)
  | 0, _ => none
  | K1 + 1, q1 => (bif (decide (q1 < (List.length s : Int))) then (idx s q1).bind fun x1 => (bif (decide (v = x1)) then some (.inl q1) else (s_slices_Index_L1 s v) K1 (w64 (q1 + 1))) else some (.inr ()))
def s_slices_Index (s : (List (List UInt8))) (v : (List UInt8)) : Option Int :=
  ((s_slices_Index_L1 s v) KK 0 : Option (Int ⊕ Unit)).bind fun z1 => match z1 with
 | .inl r => some r
 | .inr v1 => some (-1)
def s_slices_Contains (s : (List (List UInt8))) (v : (List UInt8)) : Option Bool :=
  (s_slices_Index s v).bind fun y1 => some (decide (y1 ≥ 0))
def s_expr_bit (ok : Bool) : Option Int :=
  (bif ok then some 1 else some 0)
def s_expr_quotient (a : Int) (b : Int) : Option Int :=
  (bif (decide (b = 0)) then some 0 else (grd (b ≠ 0)).bind fun _ => (grd (b ≠ 0)).bind fun _ => ((bif (!(decide ((Int.tmod a b) = 0))) then some (!((decide ((Int.tmod a b) < 0)) == (decide (b < 0)))) else some false)).bind fun v1 => ((bif v1 then some (w64 ((w64 (Int.tdiv a b)) - 1)) else some (w64 (Int.tdiv a b)))).bind fun v2 => some v2)
def s_expr_binary (op : Int) (a : Int) (b : Int) : Option Int :=
  (bif (decide (op = 4)) then some (w64 (a + b)) else (bif (decide (op = 5)) then some (w64 (a - b)) else (bif (decide (op = 6)) then some (w64 (a * b)) else (bif (decide (op = 7)) then (s_expr_quotient a b).bind fun y1 => some y1 else (bif (decide (op = 8)) then (bif (decide (b = 0)) then some 0 else (s_expr_quotient a b).bind fun y2 => some (w64 (a - (w64 (y2 * b))))) else (bif (decide (op = 10)) then (s_expr_bit (decide (a = b))).bind fun y3 => some y3 else (bif (decide (op = 11)) then (s_expr_bit (decide (a < b))).bind fun y4 => some y4 else (bif (decide (op = 12)) then (s_expr_bit (decide (a ≤ b))).bind fun y5 => some y5 else (bif (decide (op = 13)) then ((bif (!(decide (a = 0))) then (s_expr_bit (!(decide (b = 0)))).bind fun y7 => some y7 else (s_expr_bit false).bind fun y6 => some y6)).bind fun v1 => some v1 else ((bif (!(decide (a = 0))) then (s_expr_bit true).bind fun y9 => some y9 else (s_expr_bit (!(decide (b = 0)))).bind fun y8 => some y8)).bind fun v2 => some v2)))))))))
def s_expr_context_value_L1 (rec_expr_context_value : Plan → (List ((List UInt8) × Int)) → (List (List UInt8)) → Expr → Option Int) (c_plan : Plan) (c_known : (List ((List UInt8) × Int))) (c_zones : (List (List UInt8))) (e : Expr) : Nat → (Int × (List Int)) → Option (List Int)
  | 0, _ => none
  | K1 + 1, q1 => (bif (decide (q1.1 < (List.length e.Args : Int))) then ((idx e.Args q1.1).bind fun x1 => ((bif (decide (e.Op = 16)) then (bif (decide (q1.1 > 0)) then (grd (0 ≤ (0 : Int) ∧ (0 : Int) < ((q1.2).length : Nat))).bind fun _ => (some (q1.2.getD (Int.toNat 0) default)).bind fun e1 => some (!((!(decide (e1 = 0))) == (decide (q1.1 = 1)))) else some false) else some false)).bind fun v3 => (bif v3 then (grd (((q1.2 ++ [0])).length * 8 ≤ 140737488355328)).bind fun _ => some (q1.2 ++ [0]) else (rec_expr_context_value c_plan c_known c_zones x1).bind fun y1 => (grd (((q1.2 ++ [y1])).length * 8 ≤ 140737488355328)).bind fun _ => some (q1.2 ++ [y1]))).bind fun v2 => (s_expr_context_value_L1 rec_expr_context_value c_plan c_known c_zones e) K1 ((w64 (q1.1 + 1)), v2) else some q1.2)
def s_expr_context_value : Nat → Plan → (List ((List UInt8) × Int)) → (List (List UInt8)) → Expr → Option Int
  | 0, _, _, _, _ => none
  | nF + 1, c_plan, c_known, c_zones, e => ((s_expr_context_value_L1 (s_expr_context_value nF) c_plan c_known c_zones e) KK (0, [])).bind fun v1 => (bif (decide (e.Op = 0)) then some e.N else (bif (decide (e.Op = 1)) then some (Option.getD (mfind e.S c_known) 0) else (bif (decide (e.Op = 2)) then (s_expr_context_row c_plan c_known c_zones e).bind fun y2 => some y2 else (bif (decide (e.Op = 3)) then (s_slices_Contains c_zones e.S).bind fun y3 => (s_expr_bit y3).bind fun y4 => some y4 else (bif (decide (e.Op = 9)) then (grd (0 ≤ (0 : Int) ∧ (0 : Int) < ((v1).length : Nat))).bind fun _ => (some (v1.getD (Int.toNat 0) default)).bind fun e2 => some (w64 (0 - e2)) else (bif (decide (e.Op = 15)) then (grd (0 ≤ (0 : Int) ∧ (0 : Int) < ((v1).length : Nat))).bind fun _ => (some (v1.getD (Int.toNat 0) default)).bind fun e3 => (s_expr_bit (decide (e3 = 0))).bind fun y5 => some y5 else (bif (decide (e.Op = 16)) then (grd (0 ≤ (0 : Int) ∧ (0 : Int) < ((v1).length : Nat))).bind fun _ => (some (v1.getD (Int.toNat 0) default)).bind fun e4 => (bif (!(decide (e4 = 0))) then (grd (0 ≤ (1 : Int) ∧ (1 : Int) < ((v1).length : Nat))).bind fun _ => (some (v1.getD (Int.toNat 1) default)).bind fun e5 => some e5 else (grd (0 ≤ (2 : Int) ∧ (2 : Int) < ((v1).length : Nat))).bind fun _ => (some (v1.getD (Int.toNat 2) default)).bind fun e6 => some e6) else (grd (0 ≤ (0 : Int) ∧ (0 : Int) < ((v1).length : Nat))).bind fun _ => (some (v1.getD (Int.toNat 0) default)).bind fun e7 => (grd (0 ≤ (1 : Int) ∧ (1 : Int) < ((v1).length : Nat))).bind fun _ => (some (v1.getD (Int.toNat 1) default)).bind fun e8 => (s_expr_binary e.Op e7 e8).bind fun y6 => some y6)))))))
def s_expr_prepare_L1 (measures : (List Entry)) : Nat → (Int × (List ((List UInt8) × Bool)) × (List ((List UInt8) × Int))) → Option ((List ((List UInt8) × Bool)) × (List ((List UInt8) × Int)))
  | 0, _ => none
  | K1 + 1, q1 => (bif (decide (q1.1 < (List.length measures : Int))) then (idx measures q1.1).bind fun x1 => ((bif (!(Option.getD (mfind x1.Name q1.2.1) false)) then some ((mset x1.Name true q1.2.1), (mset x1.Name x1.N q1.2.2)) else some (q1.2.1, q1.2.2))).bind fun v2 => (s_expr_prepare_L1 measures) K1 ((w64 (q1.1 + 1)), v2.1, v2.2) else some (q1.2.1, q1.2.2))
def s_expr_prepare_L2 (p : Plan) (zones : (List (List UInt8))) (v1 : ((List ((List UInt8) × Bool)) × (List ((List UInt8) × Int)))) (y1 : ((List Int) × Int)) : Nat → (Int × (List Int) × (List ((List UInt8) × Int))) → Option ((List Int) × (List ((List UInt8) × Int)))
  | 0, _ => none
  | K2 + 1, q2 => (bif (decide (q2.1 < (List.length y1.1 : Int))) then (idx y1.1 q2.1).bind fun x2 => (idx p.Defs x2).bind fun x3 => (s_expr_Right x3.Body).bind fun y2 => ((bif y2 then (s_expr_context_value KK p q2.2.2 zones x3.Body).bind fun y3 => (grd (0 ≤ x2 ∧ x2 < ((q2.2.1).length : Nat))).bind fun _ => (some (q2.2.1.getD (Int.toNat x2) default)).bind fun e1 => some (List.set q2.2.1 (Int.toNat x2) y3) else some q2.2.1)).bind fun v4 => ((bif (!(Option.getD (mfind x3.Name v1.1) false)) then (grd (0 ≤ x2 ∧ x2 < ((v4).length : Nat))).bind fun _ => (some (v4.getD (Int.toNat x2) default)).bind fun e2 => some (mset x3.Name e2 q2.2.2) else some q2.2.2)).bind fun v5 => (s_expr_prepare_L2 p zones v1 y1) K2 ((w64 (q2.1 + 1)), v4, v5) else some (q2.2.1, q2.2.2))
def s_expr_prepare (p : Plan) (measures : (List Entry)) (zones : (List (List UInt8))) : Option (Plan × (List (List UInt8)) × (List Int) × (List ((List UInt8) × Int))) :=
  ((s_expr_prepare_L1 measures) KK (0, [], [])).bind fun v1 => (grd (0 ≤ (List.length p.Defs : Int) ∧ (List.length p.Defs : Int) * 8 ≤ 281474976710656 ∧ (List.length p.Defs : Int) ≤ 9223372036854775807)).bind fun _ => (s_define_Order p).bind fun y1 => (bif (!(decide (y1.2 = 0))) then some (p, zones, (List.replicate (Int.toNat (List.length p.Defs : Int)) (0 : Int)), v1.2) else ((s_expr_prepare_L2 p zones v1 y1) KK (0, (List.replicate (Int.toNat (List.length p.Defs : Int)) (0 : Int)), v1.2)).bind fun v3 => some (p, zones, v3.1, v3.2))
def s_expr_Eval (p : Plan) (measures : (List Entry)) (zones : (List (List UInt8))) (e : Expr) : Option Int :=
  (s_expr_Right e).bind fun y1 => (bif (!y1) then some 0 else (s_expr_prepare p measures zones).bind fun y2 => (s_expr_context_value KK y2.1 y2.2.2.2 y2.2.1 e).bind fun y3 => some y3)
def s_reopen_value_L1 (told : (List Asked)) : Nat → (Int × (List Entry)) → Option (List Entry)
  | 0, _ => none
  | K1 + 1, q1 => (bif (decide (q1.1 < (List.length told : Int))) then (idx told q1.1).bind fun x1 => ((bif x1.There then (grd (((q1.2 ++ [(Entry.mk x1.Key x1.Value)])).length * 24 ≤ 140737488355328)).bind fun _ => some (q1.2 ++ [(Entry.mk x1.Key x1.Value)]) else some q1.2)).bind fun v2 => (s_reopen_value_L1 told) K1 ((w64 (q1.1 + 1)), v2) else some q1.2)
def s_reopen_value (f : Formula) (told : (List Asked)) : Option Int :=
  ((s_reopen_value_L1 told) KK (0, [])).bind fun v1 => (s_expr_Eval (Plan.mk [] [] [] [] [] [] [] 0) v1 [] f.Body).bind fun y1 => some y1
def s_reopen_Make (base : (List Fact)) (f : Formula) : Option (Formula × Int) :=
  ((s_fact_Right base).bind fun y1 => (bif (!y1) then some true else (s_reopen_Right f).bind fun y2 => some (!y2))).bind fun v1 => (bif v1 then some ((Formula.mk 0 0 0 (Expr.mk 0 0 [] [] []) 0 []), 1) else (s_reopen_Ask base f f.Known).bind fun y3 => (s_reopen_value (Formula.mk f.Id f.Day f.Known f.Body f.Result y3) y3).bind fun y4 => some ((Formula.mk f.Id f.Day f.Known f.Body y4 y3), 0))
def s_reopen_Make_2 (base : (List Fact)) (f_Id : Int) (f_Day : Int) (f_Known : Int) (f_Body_Op : Int) (f_Body_N : Int) (f_Body_S : (List UInt8)) (f_Body_Key : (List UInt8)) (f_Body_Args : (List Expr)) (f_Result : Int) (f_Asked : (List Asked)) : Option (Formula × Int) :=
  ((s_fact_Right base).bind fun y1 => (bif (!y1) then some true else (s_reopen_Right (Formula.mk f_Id f_Day f_Known (Expr.mk f_Body_Op f_Body_N f_Body_S f_Body_Key f_Body_Args) f_Result f_Asked)).bind fun y2 => some (!y2))).bind fun v1 => (bif v1 then some ((Formula.mk 0 0 0 (Expr.mk 0 0 [] [] []) 0 []), 1) else (s_reopen_Ask base (Formula.mk f_Id f_Day f_Known (Expr.mk f_Body_Op f_Body_N f_Body_S f_Body_Key f_Body_Args) f_Result f_Asked) f_Known).bind fun y3 => (s_reopen_value (Formula.mk f_Id f_Day f_Known (Expr.mk f_Body_Op f_Body_N f_Body_S f_Body_Key f_Body_Args) f_Result y3) y3).bind fun y4 => some ((Formula.mk f_Id f_Day f_Known (Expr.mk f_Body_Op f_Body_N f_Body_S f_Body_Key f_Body_Args) y4 y3), 0))
def s_greenbeltref45_SameAsked_L1 (a : (List Asked)) (b : (List Asked)) : Nat → Int → Option (Bool ⊕ Unit)
  | 0, _ => none
  | K1 + 1, q1 => (bif (decide (q1 < (List.length a : Int))) then (idx a q1).bind fun x1 => (idx b q1).bind fun x2 => (bif (!(decide (x1.Key = x2.Key) && (decide (x1.Day = x2.Day) && (decide (x1.Value = x2.Value) && ((x1.There == x2.There)))))) then some (.inl false) else (s_greenbeltref45_SameAsked_L1 a b) K1 (w64 (q1 + 1))) else some (.inr ()))
def s_greenbeltref45_SameAsked (a : (List Asked)) (b : (List Asked)) : Option Bool :=
  (bif (!(decide ((List.length a : Int) = (List.length b : Int)))) then some false else ((s_greenbeltref45_SameAsked_L1 a b) KK 0 : Option (Bool ⊕ Unit)).bind fun z1 => match z1 with
 | .inl r => some r
 | .inr v1 => some true)
def s_reopen_Reopened_1 (f : Formula) (a1 : (List Fact)) (a2 : Int) : Option (Bool × (List Fact) × Int) :=
  ((s_reopen_Right f).bind fun y1 => (bif y1 then (s_reopen_Ask a1 f a2).bind fun y2 => (s_reopen_value f y2).bind fun y3 => some (!(decide (y3 = f.Result))) else some false)).bind fun v1 => some (v1, a1, a2)
def s_reopen_which_L1 (l : (List Formula)) : Nat → (Int × (List Fact) × Int × (List Int)) → Option ((List Fact) × Int × (List Int))
  | 0, _ => none
  | K1 + 1, q1 => (bif (decide (q1.1 < (List.length l : Int))) then (idx l q1.1).bind fun x1 => (s_reopen_Reopened_1 x1 q1.2.1 q1.2.2.1).bind fun y1 => ((bif y1.1 then (grd (((q1.2.2.2 ++ [q1.1])).length * 8 ≤ 140737488355328)).bind fun _ => some (q1.2.2.2 ++ [q1.1]) else some q1.2.2.2)).bind fun v2 => (s_reopen_which_L1 l) K1 ((w64 (q1.1 + 1)), y1.2.1, y1.2.2, v2) else some (q1.2.1, q1.2.2.1, q1.2.2.2))
def s_reopen_which (l : (List Formula)) (c_1 : (List Fact)) (f : Int) : Option ((List Int) × (List Fact) × Int) :=
  ((s_reopen_which_L1 l) KK (0, c_1, f, [])).bind fun v1 => some (v1.2.2, v1.1, v1.2.1)
def s_reopen_Reopened (base : (List Fact)) (l : (List Formula)) (known : Int) : Option (List Int) :=
  (s_fact_Right base).bind fun y1 => (bif (!y1) then some [] else (s_reopen_which l base known).bind fun y2 => some y2.1)
def s_greenbeltref45_Ints_L1 (a : (List Int)) (b : (List Int)) : Nat → Int → Option (Bool ⊕ Unit)
  | 0, _ => none
  | K1 + 1, q1 => (bif (decide (q1 < (List.length a : Int))) then (idx a q1).bind fun x1 => (idx b q1).bind fun x2 => (bif (!(decide (x1 = x2))) then some (.inl false) else (s_greenbeltref45_Ints_L1 a b) K1 (w64 (q1 + 1))) else some (.inr ()))
def s_greenbeltref45_Ints (a : (List Int)) (b : (List Int)) : Option Bool :=
  (bif (!(decide ((List.length a : Int) = (List.length b : Int)))) then some false else ((s_greenbeltref45_Ints_L1 a b) KK 0 : Option (Bool ⊕ Unit)).bind fun z1 => match z1 with
 | .inl r => some r
 | .inr v1 => some true)
def s_reopen_Stale_L1 (base : (List Fact)) (f : Formula) (known : Int) : Nat → (Int × (List (List UInt8))) → Option (List (List UInt8))
  | 0, _ => none
  | K1 + 1, q1 => (bif (decide (q1.1 < (List.length f.Asked : Int))) then (idx f.Asked q1.1).bind fun x1 => (s_reopen_look base x1.Key x1.Day known).bind fun y1 => ((bif (!(decide (y1.Key = x1.Key) && (decide (y1.Day = x1.Day) && (decide (y1.Value = x1.Value) && ((y1.There == x1.There)))))) then (grd (((q1.2 ++ [x1.Key])).length * 16 ≤ 140737488355328)).bind fun _ => some (q1.2 ++ [x1.Key]) else some q1.2)).bind fun v2 => (s_reopen_Stale_L1 base f known) K1 ((w64 (q1.1 + 1)), v2) else some q1.2)
def s_reopen_Stale (base : (List Fact)) (f : Formula) (known : Int) : Option (List (List UInt8)) :=
  ((s_reopen_Stale_L1 base f known) KK (0, [])).bind fun v1 => some v1
def s_reopen_Touched_1 (f : Formula) (a1 : (List Fact)) (a2 : Int) : Option (Bool × (List Fact) × Int) :=
  (s_reopen_Stale a1 f a2).bind fun y1 => some ((decide ((List.length y1 : Int) > 0)), a1, a2)
def s_reopen_which_2_L1 (l : (List Formula)) : Nat → (Int × (List Fact) × Int × (List Int)) → Option ((List Fact) × Int × (List Int))
  | 0, _ => none
  | K1 + 1, q1 => (bif (decide (q1.1 < (List.length l : Int))) then (idx l q1.1).bind fun x1 => (s_reopen_Touched_1 x1 q1.2.1 q1.2.2.1).bind fun y1 => ((bif y1.1 then (grd (((q1.2.2.2 ++ [q1.1])).length * 8 ≤ 140737488355328)).bind fun _ => some (q1.2.2.2 ++ [q1.1]) else some q1.2.2.2)).bind fun v2 => (s_reopen_which_2_L1 l) K1 ((w64 (q1.1 + 1)), y1.2.1, y1.2.2, v2) else some (q1.2.1, q1.2.2.1, q1.2.2.2))
def s_reopen_which_2 (l : (List Formula)) (c_1 : (List Fact)) (f : Int) : Option ((List Int) × (List Fact) × Int) :=
  ((s_reopen_which_2_L1 l) KK (0, c_1, f, [])).bind fun v1 => some (v1.2.2, v1.1, v1.2.1)
def s_reopen_Touched (base : (List Fact)) (l : (List Formula)) (known : Int) : Option (List Int) :=
  (s_reopen_which_2 l base known).bind fun y1 => some y1.1
def s_slices_Equal_L1 (s1 : (List Asked)) (s2 : (List Asked)) : Nat → Int → Option (Bool ⊕ Unit)
  | 0, _ => none
  | K1 + 1, q1 => (bif (decide (q1 < (List.length s1 : Int))) then (idx s1 q1).bind fun x1 => (idx s2 q1).bind fun x2 => (bif (!(decide (x1.Key = x2.Key) && (decide (x1.Day = x2.Day) && (decide (x1.Value = x2.Value) && ((x1.There == x2.There)))))) then some (.inl false) else (s_slices_Equal_L1 s1 s2) K1 (w64 (q1 + 1))) else some (.inr ()))
def s_slices_Equal (s1 : (List Asked)) (s2 : (List Asked)) : Option Bool :=
  (bif (!(decide ((List.length s1 : Int) = (List.length s2 : Int)))) then some false else ((s_slices_Equal_L1 s1 s2) KK 0 : Option (Bool ⊕ Unit)).bind fun z1 => match z1 with
 | .inl r => some r
 | .inr v1 => some true)
def s_reopen_Holds (base : (List Fact)) (f : Formula) : Option Bool :=
  (s_reopen_Make base f).bind fun y1 => ((bif (decide (y1.2 = 0)) then (bif (decide (y1.1.Result = f.Result)) then (s_slices_Equal y1.1.Asked f.Asked).bind fun y2 => some y2 else some false) else some false)).bind fun v1 => some v1
def s_greenbeltref45_Texts_L1 (a : (List (List UInt8))) (b : (List (List UInt8))) : Nat → Int → Option (Bool ⊕ Unit)
  | 0, _ => none
  | K1 + 1, q1 => (bif (decide (q1 < (List.length a : Int))) then (idx a q1).bind fun x1 => (idx b q1).bind fun x2 => (bif (!(decide (x1 = x2))) then some (.inl false) else (s_greenbeltref45_Texts_L1 a b) K1 (w64 (q1 + 1))) else some (.inr ()))
def s_greenbeltref45_Texts (a : (List (List UInt8))) (b : (List (List UInt8))) : Option Bool :=
  (bif (!(decide ((List.length a : Int) = (List.length b : Int)))) then some false else ((s_greenbeltref45_Texts_L1 a b) KK 0 : Option (Bool ⊕ Unit)).bind fun z1 => match z1 with
 | .inl r => some r
 | .inr v1 => some true)
def s_greenbeltlaw45_small  : Option Bool :=
  (s_greenbeltlaw45_less ([97, 114, 101, 97] : List UInt8) 95).bind fun y1 => (s_reopen_Make [(Fact.mk ([97, 114, 101, 97] : List UInt8) 100 0 0 5), (Fact.mk ([97, 114, 101, 97] : List UInt8) 90 10 0 8)] (Formula.mk 1 12 6 y1 0 [])).bind fun y2 => (s_greenbeltlaw45_less ([97, 114, 101, 97] : List UInt8) 120).bind fun y3 => (s_reopen_Make [(Fact.mk ([97, 114, 101, 97] : List UInt8) 100 0 0 5), (Fact.mk ([97, 114, 101, 97] : List UInt8) 90 10 0 8)] (Formula.mk 2 12 6 y3 0 [])).bind fun y4 => (s_greenbeltlaw45_less ([97, 114, 101, 97] : List UInt8) 95).bind fun y5 => (s_reopen_Make [(Fact.mk ([97, 114, 101, 97] : List UInt8) 100 0 0 5), (Fact.mk ([97, 114, 101, 97] : List UInt8) 90 10 0 8)] (Formula.mk 3 9 6 y5 0 [])).bind fun y6 => (s_reopen_Make_2 [(Fact.mk ([97, 114, 101, 97] : List UInt8) 100 0 0 5), (Fact.mk ([97, 114, 101, 97] : List UInt8) 90 10 0 8)] 4 0 0 4 0 [] [] [(Expr.mk 1 0 ([104, 101, 105, 103, 104, 116] : List UInt8) [] []), (Expr.mk 0 1 [] [] [])] 0 []).bind fun y7 => (s_reopen_Make [(Fact.mk ([97, 114, 101, 97] : List UInt8) 100 0 0 5), (Fact.mk ([97, 114, 101, 97] : List UInt8) 90 10 0 8)] (Formula.mk 0 (-1) 0 (Expr.mk 0 0 [] [] []) 0 [])).bind fun y8 => ((bif (decide (y2.2 = 0)) then (bif (decide (y2.1.Result = 0)) then (bif (decide (y2.1.Id = 1)) then (s_greenbeltref45_SameAsked y2.1.Asked [(Asked.mk ([97, 114, 101, 97] : List UInt8) 12 100 true)]).bind fun y9 => (bif y9 then (bif (decide (y4.2 = 0)) then (bif (decide (y4.1.Result = 1)) then some (decide (y6.2 = 0)) else some false) else some false) else some false) else some false) else some false) else some false)).bind fun v1 => ((s_reopen_Reopened [(Fact.mk ([97, 114, 101, 97] : List UInt8) 100 0 0 5), (Fact.mk ([97, 114, 101, 97] : List UInt8) 90 10 0 8)] [y2.1] 7).bind fun y10 => (bif (decide ((List.length y10 : Int) = 0)) then (s_reopen_Reopened [(Fact.mk ([97, 114, 101, 97] : List UInt8) 100 0 0 5), (Fact.mk ([97, 114, 101, 97] : List UInt8) 90 10 0 8)] [y2.1, y4.1] 8).bind fun y11 => (s_greenbeltref45_Ints y11 [0]).bind fun y12 => (bif y12 then (s_reopen_Touched [(Fact.mk ([97, 114, 101, 97] : List UInt8) 100 0 0 5), (Fact.mk ([97, 114, 101, 97] : List UInt8) 90 10 0 8)] [y2.1, y4.1] 8).bind fun y13 => (s_greenbeltref45_Ints y13 [0, 1]).bind fun y14 => (bif y14 then (s_reopen_Stale [(Fact.mk ([97, 114, 101, 97] : List UInt8) 100 0 0 5), (Fact.mk ([97, 114, 101, 97] : List UInt8) 90 10 0 8)] y6.1 8).bind fun y15 => some (decide ((List.length y15 : Int) = 0)) else some false) else some false) else some false)).bind fun v2 => ((bif (decide (y7.2 = 0)) then (bif (decide (y7.1.Result = 1)) then (s_greenbeltref45_SameAsked y7.1.Asked [(Asked.mk ([104, 101, 105, 103, 104, 116] : List UInt8) 0 0 false)]).bind fun y16 => (bif y16 then some (decide (y8.2 = 1)) else some false) else some false) else some false)).bind fun v3 => ((bif v1 then (bif v2 then (bif v3 then (s_reopen_Holds [(Fact.mk ([97, 114, 101, 97] : List UInt8) 100 0 0 5), (Fact.mk ([97, 114, 101, 97] : List UInt8) 90 10 0 8)] y2.1).bind fun y17 => (bif y17 then (s_greenbeltlaw45_less ([97, 114, 101, 97] : List UInt8) 95).bind fun y18 => (s_reopen_Holds [(Fact.mk ([97, 114, 101, 97] : List UInt8) 100 0 0 5), (Fact.mk ([97, 114, 101, 97] : List UInt8) 90 10 0 8)] (Formula.mk 1 12 6 y18 0 [])).bind fun y19 => (bif (!y19) then (s_reopen_Stale [(Fact.mk ([97, 114, 101, 97] : List UInt8) 100 0 0 5), (Fact.mk ([97, 114, 101, 97] : List UInt8) 90 10 0 8)] y2.1 8).bind fun y20 => (s_greenbeltref45_Texts y20 [([97, 114, 101, 97] : List UInt8)]).bind fun y21 => some y21 else some false) else some false) else some false) else some false) else some false)).bind fun v4 => some v4
def s_greenbeltref16_Size_L1 (rec_greenbeltref16_Size : Expr → Option Int) (e : Expr) : Nat → (Int × Int) → Option Int
  | 0, _ => none
  | K1 + 1, q1 => (bif (decide (q1.2 < (List.length e.Args : Int))) then (idx e.Args q1.2).bind fun x1 => (rec_greenbeltref16_Size x1).bind fun y1 => (s_greenbeltref16_Size_L1 rec_greenbeltref16_Size e) K1 ((w64 (q1.1 + y1)), (w64 (q1.2 + 1))) else some q1.1)
def s_greenbeltref16_Size : Nat → Expr → Option Int
  | 0, _ => none
  | nF + 1, e => ((s_greenbeltref16_Size_L1 (s_greenbeltref16_Size nF) e) KK (1, 0)).bind fun v1 => some v1
def s_greenbeltref45_Few_L1 (l : (List Formula)) : Nat → Int → Option (Bool ⊕ Unit)
  | 0, _ => none
  | K1 + 1, q1 => ((bif (decide (q1 < (List.length l : Int))) then some (decide (q1 ≤ 8)) else some false)).bind fun v2 => (bif v2 then ((idx l q1).bind fun x1 => (s_greenbeltref16_Size KK x1.Body).bind fun y1 => (bif (decide (y1 > 40)) then some true else (idx l q1).bind fun x2 => some (decide ((List.length x2.Asked : Int) > 20)))).bind fun v3 => (bif v3 then some (.inl false) else (s_greenbeltref45_Few_L1 l) K1 (w64 (q1 + 1))) else some (.inr ()))
def s_greenbeltref45_Few (base : (List Fact)) (l : (List Formula)) : Option Bool :=
  ((s_greenbeltref45_Few_L1 l) KK 0 : Option (Bool ⊕ Unit)).bind fun z1 => match z1 with
 | .inl r => some r
 | .inr v1 => ((bif (decide ((List.length base : Int) ≤ 30)) then some (decide ((List.length l : Int) ≤ 8)) else some false)).bind fun v4 => some v4
def s_greenbeltref44_Valid (f : Fact) : Option Bool :=
  ((bif (decide ((List.length f.Key : Int) < 1)) then some true else (bif (decide ((List.length f.Key : Int) > 20)) then some true else (bif (decide (f.From < 0)) then some true else (bif (decide (f.From > 1073741824)) then some true else (bif (decide (f.Known < 0)) then some true else some (decide (f.Known > 1073741824)))))))).bind fun v1 => (bif v1 then some false else ((bif (decide (f.Until = 0)) then some true else (bif (decide (f.Until > f.From)) then some (decide (f.Until ≤ 1073741824)) else some false))).bind fun v2 => some v2)
def s_greenbeltref44_Right_L1 (base : (List Fact)) : Nat → Int → Option (Bool ⊕ Unit)
  | 0, _ => none
  | K1 + 1, q1 => (bif (decide (q1 < (List.length base : Int))) then (idx base q1).bind fun x1 => (s_greenbeltref44_Valid x1).bind fun y1 => (bif (!y1) then some (.inl false) else ((bif (decide (q1 > 0)) then (idx base q1).bind fun x2 => (idx base (w64 (q1 - 1))).bind fun x3 => some (decide (x2.Known < x3.Known)) else some false)).bind fun v2 => (bif v2 then some (.inl false) else (s_greenbeltref44_Right_L1 base) K1 (w64 (q1 + 1)))) else some (.inr ()))
def s_greenbeltref44_Right (base : (List Fact)) : Option Bool :=
  (bif (decide ((List.length base : Int) > 5000)) then some false else ((s_greenbeltref44_Right_L1 base) KK 0 : Option (Bool ⊕ Unit)).bind fun z1 => match z1 with
 | .inl r => some r
 | .inr v1 => some true)
def s_greenbeltref17_arity (op : Int) : Option Int :=
  ((bif (decide (op = 0)) then some (decide (op = 0)) else (bif (decide (op = 1)) then some (decide (op = 1)) else (bif (decide (op = 2)) then some (decide (op = 2)) else some (decide (op = 3)))))).bind fun v1 => (bif v1 then some 0 else ((bif (decide (op = 9)) then some (decide (op = 9)) else some (decide (op = 15)))).bind fun v2 => (bif v2 then some 1 else (bif (decide (op = 16)) then some 3 else ((bif (decide (op < 0)) then some true else some (decide (op ≥ 17)))).bind fun v3 => (bif v3 then some (-1) else some 2))))
def s_greenbeltref17_fits_L1 (rec_greenbeltref17_fits : Expr → Int → Option Bool) (e : Expr) (levels : Int) : Nat → Int → Option (Bool ⊕ Unit)
  | 0, _ => none
  | K1 + 1, q1 => (bif (decide (q1 < (List.length e.Args : Int))) then (idx e.Args q1).bind fun x1 => (rec_greenbeltref17_fits x1 (w64 (levels - 1))).bind fun y2 => (bif (!y2) then some (.inl false) else (s_greenbeltref17_fits_L1 rec_greenbeltref17_fits e levels) K1 (w64 (q1 + 1))) else some (.inr ()))
def s_greenbeltref17_fits : Nat → Expr → Int → Option Bool
  | 0, _, _ => none
  | nF + 1, e, levels => ((bif (decide (levels < 1)) then some true else (s_greenbeltref17_arity e.Op).bind fun y1 => some (!(decide (y1 = (List.length e.Args : Int)))))).bind fun v1 => (bif v1 then some false else ((s_greenbeltref17_fits_L1 (s_greenbeltref17_fits nF) e levels) KK 0 : Option (Bool ⊕ Unit)).bind fun z2 => match z2 with
 | .inl r => some r
 | .inr v2 => some true)
def s_greenbeltref17_Right (e : Expr) : Option Bool :=
  (s_greenbeltref17_fits KK e 12).bind fun y1 => some y1
def s_greenbeltref45_Right (f : Formula) : Option Bool :=
  ((s_greenbeltref17_Right f.Body).bind fun y1 => (bif y1 then (bif (decide (f.Day ≥ 0)) then (bif (decide (f.Day ≤ 1073741824)) then (bif (decide (f.Known ≥ 0)) then some (decide (f.Known ≤ 1073741824)) else some false) else some false) else some false) else some false)).bind fun v1 => some v1
def s_greenbeltref16_Has_L1 (l : (List (List UInt8))) (s : (List UInt8)) : Nat → Int → Option (Bool ⊕ Unit)
  | 0, _ => none
  | K1 + 1, q1 => (bif (decide (q1 < (List.length l : Int))) then (idx l q1).bind fun x1 => (bif (decide (x1 = s)) then some (.inl true) else (s_greenbeltref16_Has_L1 l s) K1 (w64 (q1 + 1))) else some (.inr ()))
def s_greenbeltref16_Has (l : (List (List UInt8))) (s : (List UInt8)) : Option Bool :=
  ((s_greenbeltref16_Has_L1 l s) KK 0 : Option (Bool ⊕ Unit)).bind fun z1 => match z1 with
 | .inl r => some r
 | .inr v1 => some false
def s_greenbeltref16_With_L1 (l : (List (List UInt8))) (s : (List UInt8)) : Nat → Int → Option Int
  | 0, _ => none
  | K1 + 1, q1 => ((bif (decide (q1 < (List.length l : Int))) then (idx l q1).bind fun x1 => some (Op.bytesLess x1 s) else some false)).bind fun v2 => (bif v2 then (s_greenbeltref16_With_L1 l s) K1 (w64 (q1 + 1)) else some q1)
def s_greenbeltref16_With (l : (List (List UInt8))) (s : (List UInt8)) : Option (List (List UInt8)) :=
  (s_greenbeltref16_Has l s).bind fun y1 => (bif y1 then some l else ((s_greenbeltref16_With_L1 l s) KK 0).bind fun v1 => (cut l 0 v1).bind fun x2 => (grd ((x2).length * 16 ≤ 140737488355328)).bind fun _ => (grd (((x2 ++ [s])).length * 16 ≤ 140737488355328)).bind fun _ => (cut l v1 (List.length l : Int)).bind fun x3 => (grd ((((x2 ++ [s]) ++ x3)).length * 16 ≤ 140737488355328)).bind fun _ => some ((x2 ++ [s]) ++ x3))
def s_greenbeltref16_Names_L2 (y2 : (List (List UInt8))) : Nat → ((List (List UInt8)) × Int) → Option (List (List UInt8))
  | 0, _ => none
  | K2 + 1, q2 => (bif (decide (q2.2 < (List.length y2 : Int))) then (idx y2 q2.2).bind fun x2 => (s_greenbeltref16_With q2.1 x2).bind fun y3 => (s_greenbeltref16_Names_L2 y2) K2 (y3, (w64 (q2.2 + 1))) else some q2.1)
def s_greenbeltref16_Names_L1 (rec_greenbeltref16_Names : Expr → Option (List (List UInt8))) (e : Expr) : Nat → ((List (List UInt8)) × Int) → Option (List (List UInt8))
  | 0, _ => none
  | K1 + 1, q1 => (bif (decide (q1.2 < (List.length e.Args : Int))) then (idx e.Args q1.2).bind fun x1 => (rec_greenbeltref16_Names x1).bind fun y2 => ((s_greenbeltref16_Names_L2 y2) KK (q1.1, 0)).bind fun v3 => (s_greenbeltref16_Names_L1 rec_greenbeltref16_Names e) K1 (v3, (w64 (q1.2 + 1))) else some q1.1)
def s_greenbeltref16_Names : Nat → Expr → Option (List (List UInt8))
  | 0, _ => none
  | nF + 1, e => ((bif (decide (e.Op = 1)) then (s_greenbeltref16_With [] e.S).bind fun y1 => some y1 else some [])).bind fun v1 => ((s_greenbeltref16_Names_L1 (s_greenbeltref16_Names nF) e) KK (v1, 0)).bind fun v2 => some v2
def s_greenbeltref44_Has (f : Fact) (day : Int) : Option Bool :=
  ((bif (decide (f.From ≤ day)) then (bif (decide (day ≤ 1073741824)) then (bif (decide (f.Until = 0)) then some true else some (decide (day < f.Until))) else some false) else some false)).bind fun v1 => some v1
def s_greenbeltref44_counts_L1 (base : (List Fact)) (key : (List UInt8)) (day : Int) (known : Int) : Nat → (Int × Int) → Option Int
  | 0, _ => none
  | K1 + 1, q1 => (bif (decide (q1.2 < (List.length base : Int))) then ((idx base q1.2).bind fun x1 => (bif (decide (x1.Key = key)) then (idx base q1.2).bind fun x2 => (bif (decide (x2.Known ≤ known)) then (idx base q1.2).bind fun x3 => (s_greenbeltref44_Has x3 day).bind fun y1 => some y1 else some false) else some false)).bind fun v2 => ((bif v2 then some q1.2 else some q1.1)).bind fun v3 => (s_greenbeltref44_counts_L1 base key day known) K1 (v3, (w64 (q1.2 + 1))) else some q1.1)
def s_greenbeltref44_counts (base : (List Fact)) (key : (List UInt8)) (day : Int) (known : Int) : Option Int :=
  ((s_greenbeltref44_counts_L1 base key day known) KK ((-1), 0)).bind fun v1 => some v1
def s_greenbeltref44_At (base : (List Fact)) (key : (List UInt8)) (day : Int) (known : Int) : Option (Int × Bool) :=
  ((s_greenbeltref44_Right base).bind fun y1 => (bif (!y1) then some true else (bif (decide (day < 0)) then some true else some (decide (day > 1073741824))))).bind fun v1 => (bif v1 then some (0, false) else (s_greenbeltref44_counts base key day known).bind fun y2 => (bif (decide (y2 < 0)) then some (0, false) else (idx base y2).bind fun x1 => some (x1.Value, true)))
def s_greenbeltref45_Ask_L1 (base : (List Fact)) (f : Formula) (known : Int) (y1 : (List (List UInt8))) : Nat → (Int × (List Asked)) → Option (List Asked)
  | 0, _ => none
  | K1 + 1, q1 => (bif (decide (q1.1 < (List.length y1 : Int))) then (idx y1 q1.1).bind fun x1 => (s_greenbeltref44_At base x1 f.Day known).bind fun y2 => (idx y1 q1.1).bind fun x2 => (grd (((q1.2 ++ [(Asked.mk x2 f.Day y2.1 y2.2)])).length * 40 ≤ 140737488355328)).bind fun _ => (s_greenbeltref45_Ask_L1 base f known y1) K1 ((w64 (q1.1 + 1)), (q1.2 ++ [(Asked.mk x2 f.Day y2.1 y2.2)])) else some q1.2)
def s_greenbeltref45_Ask (base : (List Fact)) (f : Formula) (known : Int) : Option (List Asked) :=
  (s_greenbeltref16_Names KK f.Body).bind fun y1 => ((s_greenbeltref45_Ask_L1 base f known y1) KK (0, [])).bind fun v1 => some v1
def s_greenbeltref16_Measures  : Option (List (List UInt8)) :=
  some [([97, 114, 101, 97] : List UInt8), ([99, 111, 118, 101, 114] : List UInt8), ([102, 108, 111, 111, 114] : List UInt8), ([102, 108, 111, 111, 114, 115] : List UInt8), ([104, 101, 105, 103, 104, 116] : List UInt8), ([104, 111, 109, 101, 115] : List UInt8), ([114, 117, 110, 111, 102, 102] : List UInt8), ([115, 101, 116, 98, 97, 99, 107] : List UInt8), ([116, 114, 97, 102, 102, 105, 99] : List UInt8)]
def s_greenbeltref16_twice_L2 (p : Plan) (q1 : Int) : Nat → Int → Option (Bool ⊕ Unit)
  | 0, _ => none
  | K2 + 1, q2 => (bif (decide (q2 < q1)) then (idx p.Defs q2).bind fun x1 => (idx p.Defs q1).bind fun x2 => (bif (decide (x1.Name = x2.Name)) then some (.inl true) else (s_greenbeltref16_twice_L2 p q1) K2 (w64 (q2 + 1))) else some (.inr ()))
def s_greenbeltref16_twice_L1 (p : Plan) : Nat → Int → Option (Bool ⊕ Unit)
  | 0, _ => none
  | K1 + 1, q1 => (bif (decide (q1 < (List.length p.Defs : Int))) then ((s_greenbeltref16_twice_L2 p q1) KK 0 : Option (Bool ⊕ Unit)).bind fun z2 => match z2 with
 | .inl r => some (.inl r)
 | .inr v2 => (s_greenbeltref16_Measures ).bind fun y1 => (idx p.Defs q1).bind fun x3 => (s_greenbeltref16_Has y1 x3.Name).bind fun y2 => (bif y2 then some (.inl true) else (s_greenbeltref16_twice_L1 p) K1 (w64 (q1 + 1))) else some (.inr ()))
def s_greenbeltref16_twice (p : Plan) : Option Bool :=
  ((s_greenbeltref16_twice_L1 p) KK 0 : Option (Bool ⊕ Unit)).bind fun z1 => match z1 with
 | .inl r => some r
 | .inr v1 => some false
def s_greenbeltref16_uses_L1 (p : Plan) : Nat → Unit → Option Unit
  | 0, _ => none
  | K1 + 1, q1 => (bif (decide (0 < (List.length p.Defs : Int))) then none else some ())
def s_greenbeltref16_uses (p : Plan) : Option Unit :=
  ((s_greenbeltref16_uses_L1 p) KK ()).bind fun v1 => some ()
def s_greenbeltref16_circle_L1 (use : (List (List Bool))) : Nat → Unit → Option Unit
  | 0, _ => none
  | K1 + 1, q1 => (bif (decide (0 < (List.length use : Int))) then none else some ())
def s_greenbeltref16_circle (p : Plan) (use : (List (List Bool))) : Option Unit :=
  ((s_greenbeltref16_circle_L1 use) KK ()).bind fun v1 => some ()
def s_greenbeltref16_Order_L1  : Nat → Unit → Option Unit
  | 0, _ => none
  | K1 + 1, q1 => some ()
def s_greenbeltref16_Order (p : Plan) : Option Int :=
  (s_greenbeltref16_twice p).bind fun y1 => (bif y1 then some 5 else (s_greenbeltref16_uses p).bind fun y2 => (s_greenbeltref16_circle p []).bind fun y3 => (grd (0 ≤ (0 : Int) ∧ (0 : Int) * 1 ≤ 281474976710656 ∧ (0 : Int) ≤ 9223372036854775807)).bind fun _ => (s_greenbeltref16_Order_L1 KK ()).bind fun v1 => some 0)
def s_greenbeltref17_All_L1  : Nat → Unit → Option Unit
  | 0, _ => none
  | K1 + 1, q1 => some ()
def s_greenbeltref17_All (p : Plan) (measures : (List Entry)) (zones : (List (List UInt8))) : Option (List Int) :=
  (grd (0 ≤ (List.length p.Defs : Int) ∧ (List.length p.Defs : Int) * 8 ≤ 281474976710656 ∧ (List.length p.Defs : Int) ≤ 9223372036854775807)).bind fun _ => (s_greenbeltref16_Order p).bind fun y1 => (bif (!(decide (y1 = 0))) then some (List.replicate (Int.toNat (List.length p.Defs : Int)) (0 : Int)) else (s_greenbeltref17_All_L1 KK ()).bind fun v1 => some (List.replicate (Int.toNat (List.length p.Defs : Int)) (0 : Int)))
def s_greenbeltref17_named_L1 (measures : (List Entry)) (s : (List UInt8)) : Nat → Int → Option (Int ⊕ Unit)
  | 0, _ => none
  | K1 + 1, q1 => (bif (decide (q1 < (List.length measures : Int))) then (idx measures q1).bind fun x1 => (bif (decide (x1.Name = s)) then (idx measures q1).bind fun x2 => some (.inl x2.N) else (s_greenbeltref17_named_L1 measures s) K1 (w64 (q1 + 1))) else some (.inr ()))
def s_greenbeltref17_named_L2 (p : Plan) (defs : (List Int)) (s : (List UInt8)) : Nat → Int → Option (Int ⊕ Unit)
  | 0, _ => none
  | K2 + 1, q2 => ((bif (decide (q2 < (List.length p.Defs : Int))) then some (decide (q2 < (List.length defs : Int))) else some false)).bind fun v3 => (bif v3 then (idx p.Defs q2).bind fun x3 => (bif (decide (x3.Name = s)) then (idx defs q2).bind fun x4 => some (.inl x4) else (s_greenbeltref17_named_L2 p defs s) K2 (w64 (q2 + 1))) else some (.inr ()))
def s_greenbeltref17_named (p : Plan) (measures : (List Entry)) (defs : (List Int)) (s : (List UInt8)) : Option Int :=
  ((s_greenbeltref17_named_L1 measures s) KK 0 : Option (Int ⊕ Unit)).bind fun z1 => match z1 with
 | .inl r => some r
 | .inr v1 => ((s_greenbeltref17_named_L2 p defs s) KK 0 : Option (Int ⊕ Unit)).bind fun z2 => match z2 with
 | .inl r => some r
 | .inr v2 => some 0
def s_greenbeltref17_row_L2 (key : (List UInt8)) (x2 : Table) : Nat → Int → Option (Int ⊕ Unit)
  | 0, _ => none
  | K2 + 1, q2 => (bif (decide (q2 < (List.length x2.Rows : Int))) then (idx x2.Rows q2).bind fun x3 => (bif (decide (x3.Name = key)) then (idx x2.Rows q2).bind fun x4 => some (.inl x4.N) else (s_greenbeltref17_row_L2 key x2) K2 (w64 (q2 + 1))) else some (.inr ()))
def s_greenbeltref17_row_L1 (p : Plan) (name : (List UInt8)) (key : (List UInt8)) : Nat → Int → Option (Int ⊕ Unit)
  | 0, _ => none
  | K1 + 1, q1 => (bif (decide (q1 < (List.length p.Tables : Int))) then (idx p.Tables q1).bind fun x1 => (bif (!(decide (x1.Name = name))) then (s_greenbeltref17_row_L1 p name key) K1 (w64 (q1 + 1)) else (idx p.Tables q1).bind fun x2 => ((s_greenbeltref17_row_L2 key x2) KK 0 : Option (Int ⊕ Unit)).bind fun z2 => match z2 with
 | .inl r => some (.inl r)
 | .inr v2 => some (.inl x2.Else)) else some (.inr ()))
def s_greenbeltref17_row (p : Plan) (name : (List UInt8)) (key : (List UInt8)) : Option Int :=
  ((s_greenbeltref17_row_L1 p name key) KK 0 : Option (Int ⊕ Unit)).bind fun z1 => match z1 with
 | .inl r => some r
 | .inr v1 => some 0
def s_greenbeltref17_has_L1 (l : (List (List UInt8))) (s : (List UInt8)) : Nat → Int → Option (Bool ⊕ Unit)
  | 0, _ => none
  | K1 + 1, q1 => (bif (decide (q1 < (List.length l : Int))) then (idx l q1).bind fun x1 => (bif (decide (x1 = s)) then some (.inl true) else (s_greenbeltref17_has_L1 l s) K1 (w64 (q1 + 1))) else some (.inr ()))
def s_greenbeltref17_has (l : (List (List UInt8))) (s : (List UInt8)) : Option Bool :=
  ((s_greenbeltref17_has_L1 l s) KK 0 : Option (Bool ⊕ Unit)).bind fun z1 => match z1 with
 | .inl r => some r
 | .inr v1 => some false
def s_greenbeltref17_bit (ok : Bool) : Option Int :=
  (bif ok then some 1 else some 0)
def s_greenbeltref17_Floor (a : Int) (b : Int) : Option Int :=
  (bif (decide (b = 0)) then some 0 else (grd (b ≠ 0)).bind fun _ => ((grd (b ≠ 0)).bind fun _ => (bif (!(decide ((Int.tmod a b) = 0))) then some (!((decide (a < 0)) == (decide (b < 0)))) else some false)).bind fun v1 => ((bif v1 then some (w64 ((w64 (Int.tdiv a b)) - 1)) else some (w64 (Int.tdiv a b)))).bind fun v2 => some v2)
def s_greenbeltref17_two (op : Int) (a : Int) (b : Int) : Option Int :=
  (bif (decide (op = 4)) then some (w64 (a + b)) else (bif (decide (op = 5)) then some (w64 (a - b)) else (bif (decide (op = 6)) then some (w64 (a * b)) else (bif (decide (op = 7)) then (s_greenbeltref17_Floor a b).bind fun y1 => some y1 else (bif (decide (op = 8)) then (bif (decide (b = 0)) then some 0 else (s_greenbeltref17_Floor a b).bind fun y2 => some (w64 (a - (w64 (b * y2))))) else (bif (decide (op = 10)) then (s_greenbeltref17_bit (decide (a = b))).bind fun y3 => some y3 else (bif (decide (op = 11)) then (s_greenbeltref17_bit (decide (a < b))).bind fun y4 => some y4 else (bif (decide (op = 12)) then (s_greenbeltref17_bit (decide (a ≤ b))).bind fun y5 => some y5 else (bif (decide (op = 13)) then ((bif (!(decide (a = 0))) then (s_greenbeltref17_bit (!(decide (b = 0)))).bind fun y7 => some y7 else (s_greenbeltref17_bit false).bind fun y6 => some y6)).bind fun v1 => some v1 else ((bif (!(decide (a = 0))) then (s_greenbeltref17_bit true).bind fun y9 => some y9 else (s_greenbeltref17_bit (!(decide (b = 0)))).bind fun y8 => some y8)).bind fun v2 => some v2)))))))))
def s_greenbeltref17_value : Nat → Plan → (List Entry) → (List (List UInt8)) → (List Int) → Expr → Option Int
  | 0, _, _, _, _, _ => none
  | nF + 1, p, measures, zones, defs, e => (bif (decide (e.Op = 0)) then some e.N else (bif (decide (e.Op = 1)) then (s_greenbeltref17_named p measures defs e.S).bind fun y1 => some y1 else (bif (decide (e.Op = 2)) then (s_greenbeltref17_row p e.S e.Key).bind fun y2 => some y2 else (bif (decide (e.Op = 3)) then (s_greenbeltref17_has zones e.S).bind fun y3 => (s_greenbeltref17_bit y3).bind fun y4 => some y4 else (idx e.Args 0).bind fun x1 => ((s_greenbeltref17_value nF) p measures zones defs x1).bind fun y5 => (bif (decide (e.Op = 9)) then some (w64 (0 - y5)) else (bif (decide (e.Op = 15)) then (s_greenbeltref17_bit (decide (y5 = 0))).bind fun y6 => some y6 else (bif (decide (e.Op = 16)) then ((bif (!(decide (y5 = 0))) then some 1 else some 2)).bind fun v1 => (idx e.Args v1).bind fun x2 => ((s_greenbeltref17_value nF) p measures zones defs x2).bind fun y7 => some y7 else (idx e.Args 1).bind fun x3 => ((s_greenbeltref17_value nF) p measures zones defs x3).bind fun y8 => (s_greenbeltref17_two e.Op y5 y8).bind fun y9 => some y9)))))))
def s_greenbeltref17_Eval (p : Plan) (measures : (List Entry)) (zones : (List (List UInt8))) (e : Expr) : Option Int :=
  (s_greenbeltref17_Right e).bind fun y1 => (bif (!y1) then some 0 else (s_greenbeltref17_All p measures zones).bind fun y2 => (s_greenbeltref17_value KK p measures zones y2 e).bind fun y3 => some y3)
def s_greenbeltref45_Value_L1 (y1 : (List Asked)) : Nat → (Int × (List Entry)) → Option (List Entry)
  | 0, _ => none
  | K1 + 1, q1 => (bif (decide (q1.1 < (List.length y1 : Int))) then (idx y1 q1.1).bind fun x1 => ((bif x1.There then (idx y1 q1.1).bind fun x2 => (idx y1 q1.1).bind fun x3 => (grd (((q1.2 ++ [(Entry.mk x2.Key x3.Value)])).length * 24 ≤ 140737488355328)).bind fun _ => some (q1.2 ++ [(Entry.mk x2.Key x3.Value)]) else some q1.2)).bind fun v2 => (s_greenbeltref45_Value_L1 y1) K1 ((w64 (q1.1 + 1)), v2) else some q1.2)
def s_greenbeltref45_Value (base : (List Fact)) (f : Formula) (known : Int) : Option Int :=
  (s_greenbeltref45_Ask base f known).bind fun y1 => ((s_greenbeltref45_Value_L1 y1) KK (0, [])).bind fun v1 => (s_greenbeltref17_Eval (Plan.mk [] [] [] [] [] [] [] 0) v1 [] f.Body).bind fun y2 => some y2
def s_greenbeltref45_Make (base : (List Fact)) (f : Formula) : Option (Formula × Int) :=
  ((s_greenbeltref44_Right base).bind fun y1 => (bif (!y1) then some true else (s_greenbeltref45_Right f).bind fun y2 => some (!y2))).bind fun v1 => (bif v1 then some ((Formula.mk 0 0 0 (Expr.mk 0 0 [] [] []) 0 []), 1) else (s_greenbeltref45_Value base f f.Known).bind fun y3 => (s_greenbeltref45_Ask base (Formula.mk f.Id f.Day f.Known f.Body y3 f.Asked) f.Known).bind fun y4 => some ((Formula.mk f.Id f.Day f.Known f.Body y3 y4), 0))
def s_greenbeltlaw45_same (a : Formula) (b : Formula) : Option Bool :=
  ((bif (decide (a.Id = b.Id)) then (bif (decide (a.Day = b.Day)) then (bif (decide (a.Known = b.Known)) then (bif (decide (a.Result = b.Result)) then (s_greenbeltref45_SameAsked a.Asked b.Asked).bind fun y1 => some y1 else some false) else some false) else some false) else some false)).bind fun v1 => some v1
def s_greenbeltref45_Holds (base : (List Fact)) (f : Formula) : Option Bool :=
  (s_greenbeltref45_Make base f).bind fun y1 => ((bif (decide (y1.2 = 0)) then (bif (decide (y1.1.Result = f.Result)) then (s_greenbeltref45_SameAsked y1.1.Asked f.Asked).bind fun y2 => some y2 else some false) else some false)).bind fun v1 => some v1
def s_greenbeltref45_Stale_L1 (base : (List Fact)) (f : Formula) (known : Int) : Nat → (Int × (List (List UInt8))) → Option (List (List UInt8))
  | 0, _ => none
  | K1 + 1, q1 => (bif (decide (q1.1 < (List.length f.Asked : Int))) then (idx f.Asked q1.1).bind fun x1 => (idx f.Asked q1.1).bind fun x2 => (s_greenbeltref44_At base x1.Key x2.Day known).bind fun y1 => ((idx f.Asked q1.1).bind fun x3 => (bif (!(decide (y1.1 = x3.Value))) then some true else (idx f.Asked q1.1).bind fun x4 => some (!(y1.2 == x4.There)))).bind fun v2 => ((bif v2 then (idx f.Asked q1.1).bind fun x5 => (grd (((q1.2 ++ [x5.Key])).length * 16 ≤ 140737488355328)).bind fun _ => some (q1.2 ++ [x5.Key]) else some q1.2)).bind fun v3 => (s_greenbeltref45_Stale_L1 base f known) K1 ((w64 (q1.1 + 1)), v3) else some q1.2)
def s_greenbeltref45_Stale (base : (List Fact)) (f : Formula) (known : Int) : Option (List (List UInt8)) :=
  ((s_greenbeltref45_Stale_L1 base f known) KK (0, [])).bind fun v1 => some v1
def s_greenbeltref45_Touched_L1 (base : (List Fact)) (l : (List Formula)) (known : Int) : Nat → (Int × (List Int)) → Option (List Int)
  | 0, _ => none
  | K1 + 1, q1 => (bif (decide (q1.1 < (List.length l : Int))) then (idx l q1.1).bind fun x1 => (s_greenbeltref45_Stale base x1 known).bind fun y1 => ((bif (decide ((List.length y1 : Int) > 0)) then (grd (((q1.2 ++ [q1.1])).length * 8 ≤ 140737488355328)).bind fun _ => some (q1.2 ++ [q1.1]) else some q1.2)).bind fun v2 => (s_greenbeltref45_Touched_L1 base l known) K1 ((w64 (q1.1 + 1)), v2) else some q1.2)
def s_greenbeltref45_Touched (base : (List Fact)) (l : (List Formula)) (known : Int) : Option (List Int) :=
  ((s_greenbeltref45_Touched_L1 base l known) KK (0, [])).bind fun v1 => some v1
def s_greenbeltref45_Reopened_L1 (base : (List Fact)) (l : (List Formula)) (known : Int) : Nat → (Int × (List Int)) → Option (List Int)
  | 0, _ => none
  | K1 + 1, q1 => (bif (decide (q1.1 < (List.length l : Int))) then ((s_greenbeltref44_Right base).bind fun y1 => (bif y1 then (idx l q1.1).bind fun x1 => (s_greenbeltref45_Right x1).bind fun y2 => (bif y2 then (idx l q1.1).bind fun x2 => (s_greenbeltref45_Value base x2 known).bind fun y3 => (idx l q1.1).bind fun x3 => some (!(decide (y3 = x3.Result))) else some false) else some false)).bind fun v2 => ((bif v2 then (grd (((q1.2 ++ [q1.1])).length * 8 ≤ 140737488355328)).bind fun _ => some (q1.2 ++ [q1.1]) else some q1.2)).bind fun v3 => (s_greenbeltref45_Reopened_L1 base l known) K1 ((w64 (q1.1 + 1)), v3) else some q1.2)
def s_greenbeltref45_Reopened (base : (List Fact)) (l : (List Formula)) (known : Int) : Option (List Int) :=
  ((s_greenbeltref45_Reopened_L1 base l known) KK (0, [])).bind fun v1 => some v1
def s_greenbeltlaw45_ReopenTells_L1 (base : (List Fact)) (l : (List Formula)) (known : Int) : Nat → Int → Option (Bool ⊕ Unit)
  | 0, _ => none
  | K1 + 1, q1 => (bif (decide (q1 < (List.length l : Int))) then (idx l q1).bind fun x1 => (s_reopen_Make base x1).bind fun y3 => (idx l q1).bind fun x2 => (s_greenbeltref45_Make base x2).bind fun y4 => ((bif (!(decide (y3.2 = y4.2))) then some true else (s_greenbeltlaw45_same y3.1 y4.1).bind fun y5 => (bif (!y5) then some true else (idx l q1).bind fun x3 => (s_reopen_Right x3).bind fun y6 => (idx l q1).bind fun x4 => (s_greenbeltref45_Right x4).bind fun y7 => (bif (!(y6 == y7)) then some true else (idx l q1).bind fun x5 => (s_reopen_Holds base x5).bind fun y8 => (idx l q1).bind fun x6 => (s_greenbeltref45_Holds base x6).bind fun y9 => (bif (!(y8 == y9)) then some true else (idx l q1).bind fun x7 => (s_reopen_Ask base x7 known).bind fun y10 => (idx l q1).bind fun x8 => (s_greenbeltref45_Ask base x8 known).bind fun y11 => (s_greenbeltref45_SameAsked y10 y11).bind fun y12 => (bif (!y12) then some true else (idx l q1).bind fun x9 => (s_reopen_Stale base x9 known).bind fun y13 => (idx l q1).bind fun x10 => (s_greenbeltref45_Stale base x10 known).bind fun y14 => (s_greenbeltref45_Texts y13 y14).bind fun y15 => some (!y15))))))).bind fun v2 => (bif v2 then some (.inl false) else ((bif (decide (y3.2 = 0)) then (s_reopen_Holds base y3.1).bind fun y16 => (bif (!y16) then some true else (s_define_Names y3.1.Body).bind fun y17 => some (!(decide ((List.length y17 : Int) = (List.length y3.1.Asked : Int))))) else some false)).bind fun v3 => (bif v3 then some (.inl false) else (s_greenbeltlaw45_ReopenTells_L1 base l known) K1 (w64 (q1 + 1)))) else some (.inr ()))
def s_greenbeltlaw45_ReopenTells (base : (List Fact)) (l : (List Formula)) (known : Int) : Option Bool :=
  (s_greenbeltlaw45_small ).bind fun y1 => (s_greenbeltref45_Few base l).bind fun y2 => (bif (!y2) then some y1 else ((s_greenbeltlaw45_ReopenTells_L1 base l known) KK 0 : Option (Bool ⊕ Unit)).bind fun z1 => match z1 with
 | .inl r => some r
 | .inr v1 => ((bif y1 then (s_reopen_Touched base l known).bind fun y18 => (s_greenbeltref45_Touched base l known).bind fun y19 => (s_greenbeltref45_Ints y18 y19).bind fun y20 => (bif y20 then (s_reopen_Reopened base l known).bind fun y21 => (s_greenbeltref45_Reopened base l known).bind fun y22 => (s_greenbeltref45_Ints y21 y22).bind fun y23 => some y23 else some false) else some false)).bind fun v4 => some v4)
end
end Go.Proofs.YtenljipeggacjaaGreat
