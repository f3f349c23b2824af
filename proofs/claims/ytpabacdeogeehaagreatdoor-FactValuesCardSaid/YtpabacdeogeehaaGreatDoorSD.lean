/- What the functions compute; printed by values.py. -/
import Derived.Test.YtpabacdeogeehaaGreatDoorC
import Derived.Test.YtpabacdeogeehaaGreatDoorD
set_option linter.all false
set_option maxRecDepth 100000
namespace Go.Proofs.YtpabacdeogeehaaGreatDoor
open Go Go.RowKit Go.Eng Go.EV
theorem si {α : Type} {a b : α} (h : some a = some b) : a = b := Option.some.inj h
/-- The fuel of loops and recursions. -/
class Fuel where
  n : Nat
  big : 18446744073709551616 ≤ n
def KK [Fuel] : Nat := Fuel.n
section
variable [Fuel]
def s_greenbeltlaw44_sample  : Option (List Fact) :=
  some [(Fact.mk ([97, 114, 101, 97] : List UInt8) 100 0 0 5), (Fact.mk ([97, 114, 101, 97] : List UInt8) 90 10 20 8), (Fact.mk ([97, 114, 101, 97] : List UInt8) 95 15 0 12)]
def s_fact_valid (f : Fact) : Option Bool :=
  ((bif (!(decide (f.Key = []))) then (bif (decide ((List.length f.Key : Int) ≤ 20)) then (bif (decide ((min f.From f.Known) ≥ 0)) then (bif (decide ((max (max f.From f.Until) f.Known) ≤ 1073741824)) then (bif (decide (f.Until = 0)) then some true else some (decide (f.Until > f.From))) else some false) else some false) else some false) else some false)).bind fun v1 => some v1
def s_fact_Right_L1 (base : (List Fact)) : Nat → Int → Option (Bool ⊕ Unit)
  | 0, _ => none
  | K1 + 1, q1 => (bif (decide (q1 < (List.length base : Int))) then (idx base q1).bind fun x1 => ((s_fact_valid x1).bind fun y1 => (bif (!y1) then some true else (bif (decide (q1 > 0)) then (idx base (w64 (q1 - 1))).bind fun x2 => some (decide (x1.Known < x2.Known)) else some false))).bind fun v2 => (bif v2 then some (.inl false) else (s_fact_Right_L1 base) K1 (w64 (q1 + 1))) else some (.inr ()))
def s_fact_Right (base : (List Fact)) : Option Bool :=
  ((s_fact_Right_L1 base) KK 0 : Option (Bool ⊕ Unit)).bind fun z1 => match z1 with
 | .inl r => some r
 | .inr v1 => some (decide ((List.length base : Int) ≤ 5000))
def s_fact_last (base : (List Fact)) (key : (List UInt8)) (known : Int) : Option (Int × (List UInt8) × (List Fact)) :=
  some (known, key, base)
def s_fact_end (f : Fact) : Option Int :=
  (bif (decide (f.Until = 0)) then some 1073741825 else some f.Until)
def s_fact_counts_L1 (base : (List Fact)) (day : Int) : List Int → Unit → Option (Int ⊕ Unit)
  | [], q1 => some (.inr ())
  | x1 :: xs1, q1 => ((idx base x1).bind fun x2 => (bif (decide (x2.From ≤ day)) then (idx base x1).bind fun x3 => (s_fact_end x3).bind fun y2 => some (decide (day < y2)) else some false)).bind fun v2 => (bif v2 then some (.inl x1) else (s_fact_counts_L1 base day) xs1 ())
def s_fact_counts (base : (List Fact)) (key : (List UInt8)) (day : Int) (known : Int) : Option Int :=
  (s_fact_last base key known).bind fun y1 => ((s_fact_counts_L1 base day) (lastIdx y1.2.2 y1.2.1 y1.1) () : Option (Int ⊕ Unit)).bind fun z1 => match z1 with
 | .inl r => some r
 | .inr v1 => some (-1)
def s_fact_At (base : (List Fact)) (key : (List UInt8)) (day : Int) (known : Int) : Option (Int × Bool) :=
  ((bif (decide (day < 0)) then some true else (bif (decide (day > 1073741824)) then some true else (s_fact_Right base).bind fun y1 => some (!y1)))).bind fun v1 => (bif v1 then some (0, false) else (s_fact_counts base key day known).bind fun y2 => (bif (decide (y2 < 0)) then some (0, false) else (idx base y2).bind fun x1 => some (x1.Value, true)))
def s_fact_days_L1 (base : (List Fact)) (key : (List UInt8)) : Nat → (Int × (List Int)) → Option (List Int)
  | 0, _ => none
  | K1 + 1, q1 => (bif (decide (q1.1 < (List.length base : Int))) then (idx base q1.1).bind fun x1 => ((bif (decide (x1.Key = key)) then (s_fact_end x1).bind fun y1 => (grd (((q1.2 ++ [x1.From, y1])).length * 8 ≤ 140737488355328)).bind fun _ => some (q1.2 ++ [x1.From, y1]) else some q1.2)).bind fun v2 => (s_fact_days_L1 base key) K1 ((w64 (q1.1 + 1)), v2) else some q1.2)
def s_fact_days (base : (List Fact)) (key : (List UInt8)) : Option (List Int) :=
  ((s_fact_days_L1 base key) KK (0, [0, 1073741825])).bind fun v1 => (grd (List.length v1 < 4611686018427387904)).bind fun _ => some (Lib.compact (sortI v1))
def s_fact_History_L1 (base : (List Fact)) (key : (List UInt8)) (known : Int) (y2 : (List Int)) (x1 : (List Int)) : Nat → (Int × Int × (List Fact)) → Option (List Fact)
  | 0, _ => none
  | K1 + 1, q1 => (bif (decide (q1.2.1 < (List.length x1 : Int))) then (idx x1 q1.2.1).bind fun x2 => (s_fact_counts base key x2 known).bind fun y3 => (idx y2 (w64 (q1.2.1 + 1))).bind fun x3 => ((bif (decide (x3 > 1073741824)) then some 0 else some x3)).bind fun v2 => ((bif (decide (y3 ≥ 0)) then some (decide (y3 = q1.1)) else some false)).bind fun v3 => ((bif v3 then (grd (0 ≤ (w64 (((q1.2.2).length : Int) - 1)) ∧ (w64 (((q1.2.2).length : Int) - 1)) < ((q1.2.2).length : Nat))).bind fun _ => (some (q1.2.2.getD (Int.toNat (w64 (((q1.2.2).length : Int) - 1))) default)).bind fun e1 => some (List.set q1.2.2 (Int.toNat (w64 (((q1.2.2).length : Int) - 1))) (Fact.mk e1.Key e1.Value e1.From v2 e1.Known)) else (bif (decide (y3 ≥ 0)) then (idx base y3).bind fun x4 => (grd (((q1.2.2 ++ [(Fact.mk x4.Key x4.Value x2 v2 x4.Known)])).length * 48 ≤ 140737488355328)).bind fun _ => some (q1.2.2 ++ [(Fact.mk x4.Key x4.Value x2 v2 x4.Known)]) else some q1.2.2))).bind fun v4 => (s_fact_History_L1 base key known y2 x1) K1 (y3, (w64 (q1.2.1 + 1)), v4) else some q1.2.2)
def s_fact_History (base : (List Fact)) (key : (List UInt8)) (known : Int) : Option (List Fact) :=
  (s_fact_Right base).bind fun y1 => (bif (!y1) then some [] else (s_fact_days base key).bind fun y2 => (cut y2 0 (w64 ((List.length y2 : Int) - 1))).bind fun x1 => ((s_fact_History_L1 base key known y2 x1) KK ((-1), 0, [])).bind fun v1 => some v1)
def s_fact_Corrections_L1 (base : (List Fact)) (key : (List UInt8)) (before : Int) (after : Int) (y2 : (List Int)) (x1 : (List Int)) : Nat → (Bool × Int × (List Stay)) → Option (List Stay)
  | 0, _ => none
  | K1 + 1, q1 => (bif (decide (q1.2.1 < (List.length x1 : Int))) then (idx x1 q1.2.1).bind fun x2 => (s_fact_At base key x2 before).bind fun y3 => (s_fact_At base key x2 after).bind fun y4 => ((bif (!(decide (y3.1 = y4.1))) then some true else some (!(y3.2 == y4.2)))).bind fun v2 => ((bif v2 then some (true, q1.1) else some (false, false))).bind fun v3 => ((bif v3.2 then (idx y2 (w64 (q1.2.1 + 1))).bind fun x3 => (grd (0 ≤ (w64 (((q1.2.2).length : Int) - 1)) ∧ (w64 (((q1.2.2).length : Int) - 1)) < ((q1.2.2).length : Nat))).bind fun _ => (some (q1.2.2.getD (Int.toNat (w64 (((q1.2.2).length : Int) - 1))) default)).bind fun e1 => some (List.set q1.2.2 (Int.toNat (w64 (((q1.2.2).length : Int) - 1))) (Stay.mk e1.From (w64 (x3 - 1)))) else (bif v3.1 then (idx y2 (w64 (q1.2.1 + 1))).bind fun x4 => (grd (((q1.2.2 ++ [(Stay.mk x2 (w64 (x4 - 1)))])).length * 16 ≤ 140737488355328)).bind fun _ => some (q1.2.2 ++ [(Stay.mk x2 (w64 (x4 - 1)))]) else some q1.2.2))).bind fun v4 => (s_fact_Corrections_L1 base key before after y2 x1) K1 (v3.1, (w64 (q1.2.1 + 1)), v4) else some q1.2.2)
def s_fact_Corrections (base : (List Fact)) (key : (List UInt8)) (before : Int) (after : Int) : Option (List Stay) :=
  (s_fact_Right base).bind fun y1 => (bif (!y1) then some [] else (s_fact_days base key).bind fun y2 => (cut y2 0 (w64 ((List.length y2 : Int) - 1))).bind fun x1 => ((s_fact_Corrections_L1 base key before after y2 x1) KK (false, 0, [])).bind fun v1 => some v1)
def s_slices_Clone (s : (List Fact)) : Option (List Fact) :=
  (nd ((List.length s) = 0) (some []) ((grd ((s).length * 48 ≤ 140737488355328)).bind fun _ => some s))
def s_fact_Put (base : (List Fact)) (f : Fact) : Option ((List Fact) × Int) :=
  ((s_fact_Right base).bind fun y1 => (bif (!y1) then some true else (s_fact_valid f).bind fun y2 => some (!y2))).bind fun v1 => (bif v1 then some ([], 1) else ((bif (decide ((List.length base : Int) > 0)) then (idx base (w64 ((List.length base : Int) - 1))).bind fun x1 => some (decide (f.Known < x1.Known)) else some false)).bind fun v2 => (bif v2 then some ([], 20) else (bif (decide ((List.length base : Int) = 5000)) then some ([], 6) else (s_slices_Clone base).bind fun y3 => (grd (((y3 ++ [f])).length * 48 ≤ 140737488355328)).bind fun _ => some ((y3 ++ [f]), 0))))
def s_fact_Keys_L1 (base : (List Fact)) : Nat → (Int × (List (List UInt8))) → Option (List (List UInt8))
  | 0, _ => none
  | K1 + 1, q1 => (bif (decide (q1.1 < (List.length base : Int))) then (idx base q1.1).bind fun x1 => (grd (((q1.2 ++ [x1.Key])).length * 16 ≤ 140737488355328)).bind fun _ => (s_fact_Keys_L1 base) K1 ((w64 (q1.1 + 1)), (q1.2 ++ [x1.Key])) else some q1.2)
def s_fact_Keys (base : (List Fact)) : Option (List (List UInt8)) :=
  (s_fact_Right base).bind fun y1 => (bif (!y1) then some [] else ((s_fact_Keys_L1 base) KK (0, [])).bind fun v1 => (grd (List.length v1 < 4611686018427387904)).bind fun _ => some (Lib.compact (sortS v1)))
def s_greenbeltlaw44_small  : Option Bool :=
  (s_greenbeltlaw44_sample ).bind fun y1 => (s_fact_At y1 ([97, 114, 101, 97] : List UInt8) 12 4).bind fun y2 => (s_fact_At y1 ([97, 114, 101, 97] : List UInt8) 12 5).bind fun y3 => (s_fact_At y1 ([97, 114, 101, 97] : List UInt8) 12 8).bind fun y4 => (s_fact_History y1 ([97, 114, 101, 97] : List UInt8) 12).bind fun y5 => (s_fact_Corrections y1 ([97, 114, 101, 97] : List UInt8) 8 12).bind fun y6 => (s_fact_Corrections y1 ([97, 114, 101, 97] : List UInt8) 4 8).bind fun y7 => (s_fact_Put y1 (Fact.mk ([97] : List UInt8) 0 0 0 11)).bind fun y8 => (s_fact_Put y1 (Fact.mk ([97] : List UInt8) 0 0 0 12)).bind fun y9 => (s_fact_Keys y1).bind fun y10 => ((bif (!(decide ((List.length y5 : Int) = 3))) then some true else (bif (!(decide ((List.length y6 : Int) = 1))) then some true else (bif (!(decide ((List.length y7 : Int) = 1))) then some true else some (!(decide ((List.length y10 : Int) = 1))))))).bind fun v1 => (bif v1 then some false else ((bif (!y2.2) then (bif y3.2 then (bif (decide (y3.1 = 100)) then (bif y4.2 then (bif (decide (y4.1 = 90)) then (bif (decide (y8.2 = 20)) then (bif (decide (y9.2 = 0)) then (s_fact_Right y1).bind fun y11 => (bif y11 then (idx y10 0).bind fun x1 => some (decide (x1 = ([97, 114, 101, 97] : List UInt8))) else some false) else some false) else some false) else some false) else some false) else some false) else some false) else some false)).bind fun v2 => ((bif v2 then (idx y6 0).bind fun x2 => (bif (decide (x2.From = 15) && (decide (x2.To = 1073741824))) then (idx y7 0).bind fun x3 => (bif (decide (x3.From = 0) && (decide (x3.To = 1073741824))) then (idx y5 0).bind fun x4 => (bif (decide (x4.Until = 10)) then (idx y5 1).bind fun x5 => (bif (decide (x5.From = 10)) then (idx y5 1).bind fun x6 => (bif (decide (x6.Until = 15)) then (idx y5 2).bind fun x7 => (bif (decide (x7.From = 15)) then (idx y5 2).bind fun x8 => (bif (decide (x8.Until = 0)) then (idx y5 2).bind fun x9 => some (decide (x9.Value = 95)) else some false) else some false) else some false) else some false) else some false) else some false) else some false) else some false)).bind fun v3 => some v3)
def s_greenbeltlaw44_few_L1 (base : (List Fact)) : Nat → Int → Option (Bool ⊕ Unit)
  | 0, _ => none
  | K1 + 1, q1 => (bif (decide (q1 < (List.length base : Int))) then (idx base q1).bind fun x1 => (bif (decide ((List.length x1.Key : Int) > 40)) then some (.inl false) else (s_greenbeltlaw44_few_L1 base) K1 (w64 (q1 + 1))) else some (.inr ()))
def s_greenbeltlaw44_few (base : (List Fact)) : Option Bool :=
  ((s_greenbeltlaw44_few_L1 base) KK 0 : Option (Bool ⊕ Unit)).bind fun z1 => match z1 with
 | .inl r => some r
 | .inr v1 => some (decide ((List.length base : Int) ≤ 16))
def s_expr_arity (op : Int) : Option (Int × Bool) :=
  ((bif (decide (op = 0)) then some (decide (op = 0)) else (bif (decide (op = 1)) then some (decide (op = 1)) else (bif (decide (op = 2)) then some (decide (op = 2)) else some (decide (op = 3)))))).bind fun v1 => (bif v1 then some (0, true) else ((bif (decide (op = 9)) then some (decide (op = 9)) else some (decide (op = 15)))).bind fun v2 => (bif v2 then some (1, true) else (bif (decide (op = 16)) then some (3, true) else ((bif (decide (op ≥ 0)) then some (decide (op < 17)) else some false)).bind fun v3 => some (2, v3))))
def s_expr_levels_L1 (rec_expr_levels : Expr → Int → Option Int) (e : Expr) (above : Int) : Nat → (Int × Int) → Option Int
  | 0, _ => none
  | K1 + 1, q1 => (bif (decide (q1.2 < (List.length e.Args : Int))) then (idx e.Args q1.2).bind fun x1 => (rec_expr_levels x1 (w64 (above + 1))).bind fun y2 => (s_expr_levels_L1 rec_expr_levels e above) K1 ((max q1.1 y2), (w64 (q1.2 + 1))) else some q1.1)
def s_expr_levels : Nat → Expr → Int → Option Int
  | 0, _, _ => none
  | nF + 1, e, above => (s_expr_arity e.Op).bind fun y1 => ((bif (!y1.2) then some true else (bif (!(decide (y1.1 = (List.length e.Args : Int)))) then some true else some (decide (above ≥ 12))))).bind fun v1 => (bif v1 then some 13 else ((s_expr_levels_L1 (s_expr_levels nF) e above) KK (0, 0)).bind fun v2 => some (w64 (v2 + 1)))
def s_expr_Right (e : Expr) : Option Bool :=
  (s_expr_levels KK e 0).bind fun y1 => some (decide (y1 ≤ 12))
def s_define_Measures  : Option (List (List UInt8)) :=
  some [([97, 114, 101, 97] : List UInt8), ([99, 111, 118, 101, 114] : List UInt8), ([102, 108, 111, 111, 114] : List UInt8), ([102, 108, 111, 111, 114, 115] : List UInt8), ([104, 101, 105, 103, 104, 116] : List UInt8), ([104, 111, 109, 101, 115] : List UInt8), ([114, 117, 110, 111, 102, 102] : List UInt8), ([115, 101, 116, 98, 97, 99, 107] : List UInt8), ([116, 114, 97, 102, 102, 105, 99] : List UInt8)]
def s_define_names (e : Expr) : Option (Int × Int × (List UInt8) × (List UInt8) × (List Expr)) :=
  some (e.Op, e.N, e.S, e.Key, e.Args)
def s_maps_Keys (m_ : (List ((List UInt8) × Bool))) : Option Unit :=
  some ()
def s_define_Names_L1  : List (List UInt8) → (List ((List UInt8) × Bool)) → Option (List ((List UInt8) × Bool))
  | [], q1 => some q1
  | x1 :: xs1, q1 => s_define_Names_L1 xs1 (mset x1 true q1)
def s_define_Names (e : Expr) : Option (List (List UInt8)) :=
  (s_define_names e).bind fun y1 => (s_define_Names_L1 (namesL (Expr.mk y1.1 y1.2.1 y1.2.2.1 y1.2.2.2.1 y1.2.2.2.2)) []).bind fun v1 => (s_maps_Keys v1).bind fun y2 => (grd ((List.map (·.1) v1).Nodup ∧ (∀ k ∈ List.map (·.1) v1, List.length k ≤ 9223372036854775807) ∧ List.length v1 * 16 ≤ 140737488355328)).bind fun _ => some (sortKeys v1)
def s_define_newGraph_L1 (l : (List Def)) : Nat → (Int × (List ((List UInt8) × Int))) → Option (List ((List UInt8) × Int))
  | 0, _ => none
  | K1 + 1, q1 => (bif (decide (q1.1 < (List.length l : Int))) then (idx l q1.1).bind fun x1 => (s_define_newGraph_L1 l) K1 ((w64 (q1.1 + 1)), (mset x1.Name q1.1 q1.2)) else some q1.2)
def s_define_newGraph_L3 (v1 : (List ((List UInt8) × Int))) (y1 : (List (List UInt8))) : Nat → Int → Option Unit
  | 0, _ => none
  | K3 + 1, q3 => (bif (decide (q3 < (List.length y1 : Int))) then (idx y1 q3).bind fun x3 => (bif (Option.isSome (mfind x3 v1)) then none else (s_define_newGraph_L3 v1 y1) K3 (w64 (q3 + 1))) else some ())
def s_define_newGraph_L2 (l : (List Def)) (v1 : (List ((List UInt8) × Int))) : Nat → Int → Option Unit
  | 0, _ => none
  | K2 + 1, q2 => (bif (decide (q2 < (List.length l : Int))) then (idx l q2).bind fun x2 => (s_define_Names x2.Body).bind fun y1 => ((s_define_newGraph_L3 v1 y1) KK 0).bind fun v3 => (s_define_newGraph_L2 l v1) K2 (w64 (q2 + 1)) else some ())
def s_define_newGraph (l : (List Def)) : Option ((List Def) × (List (List Int))) :=
  ((s_define_newGraph_L1 l) KK (0, [])).bind fun v1 => (grd (0 ≤ (List.length l : Int) ∧ (List.length l : Int) * 24 ≤ 281474976710656 ∧ (List.length l : Int) ≤ 9223372036854775807)).bind fun _ => ((s_define_newGraph_L2 l v1) KK 0).bind fun v2 => some (l, (List.replicate (Int.toNat (List.length l : Int)) ([] : (List Int))))
def s_bits_Mul64 (x : Int) (y : Int) : Option (Int × Int) :=
  some ((IntKind.u64.wrap ((IntKind.u64.wrap ((IntKind.u64.wrap ((Int.fdiv x (2 ^ (min (32 : Int).toNat IntKind.u64.bits))) * (Int.fdiv y (2 ^ (min (32 : Int).toNat IntKind.u64.bits))))) + (Int.fdiv (IntKind.u64.wrap ((IntKind.u64.wrap ((Int.fdiv x (2 ^ (min (32 : Int).toNat IntKind.u64.bits))) * (IntKind.u64.wrap ((BitVec.ofInt IntKind.u64.bits y &&& BitVec.ofInt IntKind.u64.bits 4294967295).toNat : Int)))) + (Int.fdiv (IntKind.u64.wrap ((IntKind.u64.wrap ((BitVec.ofInt IntKind.u64.bits x &&& BitVec.ofInt IntKind.u64.bits 4294967295).toNat : Int)) * (IntKind.u64.wrap ((BitVec.ofInt IntKind.u64.bits y &&& BitVec.ofInt IntKind.u64.bits 4294967295).toNat : Int)))) (2 ^ (min (32 : Int).toNat IntKind.u64.bits))))) (2 ^ (min (32 : Int).toNat IntKind.u64.bits))))) + (Int.fdiv (IntKind.u64.wrap ((IntKind.u64.wrap ((BitVec.ofInt IntKind.u64.bits (IntKind.u64.wrap ((IntKind.u64.wrap ((Int.fdiv x (2 ^ (min (32 : Int).toNat IntKind.u64.bits))) * (IntKind.u64.wrap ((BitVec.ofInt IntKind.u64.bits y &&& BitVec.ofInt IntKind.u64.bits 4294967295).toNat : Int)))) + (Int.fdiv (IntKind.u64.wrap ((IntKind.u64.wrap ((BitVec.ofInt IntKind.u64.bits x &&& BitVec.ofInt IntKind.u64.bits 4294967295).toNat : Int)) * (IntKind.u64.wrap ((BitVec.ofInt IntKind.u64.bits y &&& BitVec.ofInt IntKind.u64.bits 4294967295).toNat : Int)))) (2 ^ (min (32 : Int).toNat IntKind.u64.bits))))) &&& BitVec.ofInt IntKind.u64.bits 4294967295).toNat : Int)) + (IntKind.u64.wrap ((IntKind.u64.wrap ((BitVec.ofInt IntKind.u64.bits x &&& BitVec.ofInt IntKind.u64.bits 4294967295).toNat : Int)) * (Int.fdiv y (2 ^ (min (32 : Int).toNat IntKind.u64.bits))))))) (2 ^ (min (32 : Int).toNat IntKind.u64.bits))))), (IntKind.u64.wrap (x * y)))
def s_bits_Mul (x : Int) (y : Int) : Option (Int × Int) :=
  (s_bits_Mul64 x y).bind fun y1 => some (y1.1, y1.2)
def s_define_graph_smallest_L1 (g_defs : (List Def)) : Nat → Unit → Option Unit
  | 0, _ => none
  | K1 + 1, q1 => (bif (decide (0 < (List.length g_defs : Int))) then none else some ())
def s_define_graph_smallest (g_defs : (List Def)) (g_uses : (List (List Int))) : Option ((List Def) × (List (List Int))) :=
  ((s_define_graph_smallest_L1 g_defs) KK ()).bind fun v1 => some (g_defs, g_uses)
def s_define_graph_order_1 (k : Int) (a1 : (List Bool)) : Option (Bool × (List Bool)) :=
  (grd (0 ≤ k ∧ k < ((a1).length : Nat))).bind fun _ => (some (a1.getD (Int.toNat k) default)).bind fun e1 => some ((!e1), a1)
def s_slices_IndexFunc_L1 (s : (List Int)) : Nat → (Int × (List Bool)) → Option ((Int × (List Bool)) ⊕ (List Bool))
  | 0, _ => none
  | K1 + 1, q1 => (bif (decide (q1.1 < (List.length s : Int))) then (idx s q1.1).bind fun x1 => (s_define_graph_order_1 x1 q1.2).bind fun y1 => (bif y1.1 then some (.inl (q1.1, y1.2)) else (s_slices_IndexFunc_L1 s) K1 ((w64 (q1.1 + 1)), y1.2)) else some (.inr q1.2))
def s_slices_IndexFunc (s : (List Int)) (k : (List Bool)) : Option (Int × (List Bool)) :=
  ((s_slices_IndexFunc_L1 s) KK (0, k) : Option ((Int × (List Bool)) ⊕ (List Bool))).bind fun z1 => match z1 with
 | .inl r => some r
 | .inr v1 => some ((-1), v1)
def s_slices_ContainsFunc (s : (List Int)) (k : (List Bool)) : Option (Bool × (List Bool)) :=
  (s_slices_IndexFunc s k).bind fun y1 => some ((decide (y1.1 ≥ 0)), y1.2)
def s_define_graph_order_L2 (g_defs : (List Def)) (g_uses : (List (List Int))) : Nat → (Int × Int × (List Bool)) → Option (Int × (List Bool))
  | 0, _ => none
  | K2 + 1, q2 => (bif (decide (q2.2.1 < ((g_uses).length : Int))) then (grd (0 ≤ q2.2.1 ∧ q2.2.1 < ((g_uses).length : Nat))).bind fun _ => (some (g_uses.getD (Int.toNat q2.2.1) default)).bind fun e1 => (s_slices_ContainsFunc e1 q2.2.2).bind fun y1 => ((grd (0 ≤ q2.2.1 ∧ q2.2.1 < ((y1.2).length : Nat))).bind fun _ => (some (y1.2.getD (Int.toNat q2.2.1) default)).bind fun e2 => (bif (!e2) then (bif (!y1.1) then (bif (decide (q2.1 < 0)) then some true else (idx g_defs q2.2.1).bind fun x1 => (idx g_defs q2.1).bind fun x2 => some (Op.bytesLess x1.Name x2.Name)) else some false) else some false)).bind fun v3 => ((bif v3 then some q2.2.1 else some q2.1)).bind fun v4 => (s_define_graph_order_L2 g_defs g_uses) K2 (v4, (w64 (q2.2.1 + 1)), y1.2) else some (q2.1, q2.2.2))
def s_define_graph_order_L1 (g_defs : (List Def)) (g_uses : (List (List Int))) : Nat → (Int × (List Bool) × (List Int)) → Option (List Int)
  | 0, _ => none
  | K1 + 1, q1 => (bif (decide (q1.1 < (List.length g_defs : Int))) then ((s_define_graph_order_L2 g_defs g_uses) KK ((-1), 0, q1.2.1)).bind fun v2 => (grd (0 ≤ v2.1 ∧ v2.1 < ((v2.2).length : Nat))).bind fun _ => (some (v2.2.getD (Int.toNat v2.1) default)).bind fun e3 => (grd (((q1.2.2 ++ [v2.1])).length * 8 ≤ 140737488355328)).bind fun _ => (s_define_graph_order_L1 g_defs g_uses) K1 ((w64 (q1.1 + 1)), (List.set v2.2 (Int.toNat v2.1) true), (q1.2.2 ++ [v2.1])) else some q1.2.2)
def s_define_graph_order (g_defs : (List Def)) (g_uses : (List (List Int))) : Option ((List Int) × (List Def) × (List (List Int))) :=
  (grd (0 ≤ (List.length g_defs : Int) ∧ (List.length g_defs : Int) * 1 ≤ 281474976710656 ∧ (List.length g_defs : Int) ≤ 9223372036854775807)).bind fun _ => ((s_define_graph_order_L1 g_defs g_uses) KK (0, (List.replicate (Int.toNat (List.length g_defs : Int)) (false : Bool)), [])).bind fun v1 => some (v1, g_defs, g_uses)
def s_define_Order_L1 (y1 : (List (List UInt8))) : Nat → (Int × (List ((List UInt8) × Bool))) → Option (List ((List UInt8) × Bool))
  | 0, _ => none
  | K1 + 1, q1 => (bif (decide (q1.1 < (List.length y1 : Int))) then (idx y1 q1.1).bind fun x1 => (s_define_Order_L1 y1) K1 ((w64 (q1.1 + 1)), (mset x1 true q1.2)) else some q1.2)
def s_define_Order_L2 (p : Plan) : Nat → (Int × (List ((List UInt8) × Bool))) → Option (((List Int) × Int) ⊕ Unit)
  | 0, _ => none
  | K2 + 1, q2 => (bif (decide (q2.1 < (List.length p.Defs : Int))) then (idx p.Defs q2.1).bind fun x2 => (bif (Option.getD (mfind x2.Name q2.2) false) then some (.inl ([], 5)) else (s_define_Order_L2 p) K2 ((w64 (q2.1 + 1)), (mset x2.Name true q2.2))) else some (.inr ()))
def s_define_Order (p : Plan) : Option ((List Int) × Int) :=
  (s_define_Measures ).bind fun y1 => ((s_define_Order_L1 y1) KK (0, [])).bind fun v1 => ((s_define_Order_L2 p) KK (0, v1) : Option (((List Int) × Int) ⊕ Unit)).bind fun z2 => match z2 with
 | .inl r => some r
 | .inr v2 => (s_define_newGraph p.Defs).bind fun y2 => (s_define_graph_smallest y2.1 y2.2).bind fun y3 => (s_define_graph_order y3.1 y3.2).bind fun y4 => some (y4.1, 0)
def s_expr_context_row_1 (t : Table) (a1_Op : Int) (a1_N : Int) (a1_S : (List UInt8)) (a1_Key : (List UInt8)) (a1_Args : (List Expr)) : Option (Bool × Int × Int × (List UInt8) × (List UInt8) × (List Expr)) :=
  some ((decide (t.Name = a1_S)), a1_Op, a1_N, a1_S, a1_Key, a1_Args)
def s_slices_IndexFunc_2_L1 (s : (List Table)) : Nat → (Int × Int × Int × (List UInt8) × (List UInt8) × (List Expr)) → Option ((Int × Int × Int × (List UInt8) × (List UInt8) × (List Expr)) ⊕ (Int × Int × (List UInt8) × (List UInt8) × (List Expr)))
  | 0, _ => none
  | K1 + 1, q1 => (bif (decide (q1.1 < (List.length s : Int))) then (idx s q1.1).bind fun x1 => (s_expr_context_row_1 x1 q1.2.1 q1.2.2.1 q1.2.2.2.1 q1.2.2.2.2.1 q1.2.2.2.2.2).bind fun y1 => (bif y1.1 then some (.inl (q1.1, y1.2.1, y1.2.2.1, y1.2.2.2.1, y1.2.2.2.2.1, y1.2.2.2.2.2)) else (s_slices_IndexFunc_2_L1 s) K1 ((w64 (q1.1 + 1)), y1.2.1, y1.2.2.1, y1.2.2.2.1, y1.2.2.2.2.1, y1.2.2.2.2.2)) else some (.inr (q1.2.1, q1.2.2.1, q1.2.2.2.1, q1.2.2.2.2.1, q1.2.2.2.2.2)))
def s_slices_IndexFunc_2 (s : (List Table)) (t_Op : Int) (t_N : Int) (t_S : (List UInt8)) (t_Key : (List UInt8)) (t_Args : (List Expr)) : Option (Int × Int × Int × (List UInt8) × (List UInt8) × (List Expr)) :=
  ((s_slices_IndexFunc_2_L1 s) KK (0, t_Op, t_N, t_S, t_Key, t_Args) : Option ((Int × Int × Int × (List UInt8) × (List UInt8) × (List Expr)) ⊕ (Int × Int × (List UInt8) × (List UInt8) × (List Expr)))).bind fun z1 => match z1 with
 | .inl r => some r
 | .inr v1 => some ((-1), v1.1, v1.2.1, v1.2.2.1, v1.2.2.2.1, v1.2.2.2.2)
def s_expr_context_row_2 (r_ : Entry) (a1_Op : Int) (a1_N : Int) (a1_S : (List UInt8)) (a1_Key : (List UInt8)) (a1_Args : (List Expr)) : Option (Bool × Int × Int × (List UInt8) × (List UInt8) × (List Expr)) :=
  some ((decide (r_.Name = a1_Key)), a1_Op, a1_N, a1_S, a1_Key, a1_Args)
def s_slices_IndexFunc_3_L1 (s : (List Entry)) : Nat → (Int × Int × Int × (List UInt8) × (List UInt8) × (List Expr)) → Option ((Int × Int × Int × (List UInt8) × (List UInt8) × (List Expr)) ⊕ (Int × Int × (List UInt8) × (List UInt8) × (List Expr)))
  | 0, _ => none
  | K1 + 1, q1 => (bif (decide (q1.1 < (List.length s : Int))) then (idx s q1.1).bind fun x1 => (s_expr_context_row_2 x1 q1.2.1 q1.2.2.1 q1.2.2.2.1 q1.2.2.2.2.1 q1.2.2.2.2.2).bind fun y1 => (bif y1.1 then some (.inl (q1.1, y1.2.1, y1.2.2.1, y1.2.2.2.1, y1.2.2.2.2.1, y1.2.2.2.2.2)) else (s_slices_IndexFunc_3_L1 s) K1 ((w64 (q1.1 + 1)), y1.2.1, y1.2.2.1, y1.2.2.2.1, y1.2.2.2.2.1, y1.2.2.2.2.2)) else some (.inr (q1.2.1, q1.2.2.1, q1.2.2.2.1, q1.2.2.2.2.1, q1.2.2.2.2.2)))
def s_slices_IndexFunc_3 (s : (List Entry)) (r_Op : Int) (r_N : Int) (r_S : (List UInt8)) (r_Key : (List UInt8)) (r_Args : (List Expr)) : Option (Int × Int × Int × (List UInt8) × (List UInt8) × (List Expr)) :=
  ((s_slices_IndexFunc_3_L1 s) KK (0, r_Op, r_N, r_S, r_Key, r_Args) : Option ((Int × Int × Int × (List UInt8) × (List UInt8) × (List Expr)) ⊕ (Int × Int × (List UInt8) × (List UInt8) × (List Expr)))).bind fun z1 => match z1 with
 | .inl r => some r
 | .inr v1 => some ((-1), v1.1, v1.2.1, v1.2.2.1, v1.2.2.2.1, v1.2.2.2.2)
def s_expr_context_row (c_plan : Plan) (c_known : (List ((List UInt8) × Int))) (c_zones : (List (List UInt8))) (e : Expr) : Option Int :=
  (s_slices_IndexFunc_2 c_plan.Tables e.Op e.N e.S e.Key e.Args).bind fun y1 => (bif (decide (y1.1 < 0)) then some 0 else (idx c_plan.Tables y1.1).bind fun x1 => (s_slices_IndexFunc_3 x1.Rows y1.2.1 y1.2.2.1 y1.2.2.2.1 y1.2.2.2.2.1 y1.2.2.2.2.2).bind fun y2 => (bif (decide (y2.1 ≥ 0)) then (idx x1.Rows y2.1).bind fun x2 => some x2.N else some x1.Else))
def s_slices_Index_L1 (s : (List (List UInt8))) (v : (List UInt8)) : Nat → Int → Option (Int ⊕ Unit)
  | 0, _ => none
  | K1 + 1, q1 => (bif (decide (q1 < (List.length s : Int))) then (idx s q1).bind fun x1 => (bif (decide (v = x1)) then some (.inl q1) else (s_slices_Index_L1 s v) K1 (w64 (q1 + 1))) else some (.inr ()))
def s_slices_Index (s : (List (List UInt8))) (v : (List UInt8)) : Option Int :=
  ((s_slices_Index_L1 s v) KK 0 : Option (Int ⊕ Unit)).bind fun z1 => match z1 with
 | .inl r => some r
 | .inr v1 => some (-1)
def s_slices_Contains (s : (List (List UInt8))) (v : (List UInt8)) : Option Bool :=
  (s_slices_Index s v).bind fun y1 => some (decide (y1 ≥ 0))
def s_expr_bit (ok : Bool) : Option Int :=
  (bif ok then some 1 else some 0)
def s_expr_quotient (a : Int) (b : Int) : Option Int :=
  (bif (decide (b = 0)) then some 0 else (grd (b ≠ 0)).bind fun _ => (grd (b ≠ 0)).bind fun _ => ((bif (!(decide ((Int.tmod a b) = 0))) then some (!((decide ((Int.tmod a b) < 0)) == (decide (b < 0)))) else some false)).bind fun v1 => ((bif v1 then some (w64 ((w64 (Int.tdiv a b)) - 1)) else some (w64 (Int.tdiv a b)))).bind fun v2 => some v2)
def s_expr_binary (op : Int) (a : Int) (b : Int) : Option Int :=
  (bif (decide (op = 4)) then some (w64 (a + b)) else (bif (decide (op = 5)) then some (w64 (a - b)) else (bif (decide (op = 6)) then some (w64 (a * b)) else (bif (decide (op = 7)) then (s_expr_quotient a b).bind fun y1 => some y1 else (bif (decide (op = 8)) then (bif (decide (b = 0)) then some 0 else (s_expr_quotient a b).bind fun y2 => some (w64 (a - (w64 (y2 * b))))) else (bif (decide (op = 10)) then (s_expr_bit (decide (a = b))).bind fun y3 => some y3 else (bif (decide (op = 11)) then (s_expr_bit (decide (a < b))).bind fun y4 => some y4 else (bif (decide (op = 12)) then (s_expr_bit (decide (a ≤ b))).bind fun y5 => some y5 else (bif (decide (op = 13)) then ((bif (!(decide (a = 0))) then (s_expr_bit (!(decide (b = 0)))).bind fun y7 => some y7 else (s_expr_bit false).bind fun y6 => some y6)).bind fun v1 => some v1 else ((bif (!(decide (a = 0))) then (s_expr_bit true).bind fun y9 => some y9 else (s_expr_bit (!(decide (b = 0)))).bind fun y8 => some y8)).bind fun v2 => some v2)))))))))
def s_expr_context_value_L1 (rec_expr_context_value : Plan → (List ((List UInt8) × Int)) → (List (List UInt8)) → Expr → Option Int) (c_plan : Plan) (c_known : (List ((List UInt8) × Int))) (c_zones : (List (List UInt8))) (e : Expr) : Nat → (Int × (List Int)) → Option (List Int)
  | 0, _ => none
  | K1 + 1, q1 => (bif (decide (q1.1 < (List.length e.Args : Int))) then ((idx e.Args q1.1).bind fun x1 => ((bif (decide (e.Op = 16)) then (bif (decide (q1.1 > 0)) then (grd (0 ≤ (0 : Int) ∧ (0 : Int) < ((q1.2).length : Nat))).bind fun _ => (some (q1.2.getD (Int.toNat 0) default)).bind fun e1 => some (!((!(decide (e1 = 0))) == (decide (q1.1 = 1)))) else some false) else some false)).bind fun v3 => (bif v3 then (grd (((q1.2 ++ [0])).length * 8 ≤ 140737488355328)).bind fun _ => some (q1.2 ++ [0]) else (rec_expr_context_value c_plan c_known c_zones x1).bind fun y1 => (grd (((q1.2 ++ [y1])).length * 8 ≤ 140737488355328)).bind fun _ => some (q1.2 ++ [y1]))).bind fun v2 => (s_expr_context_value_L1 rec_expr_context_value c_plan c_known c_zones e) K1 ((w64 (q1.1 + 1)), v2) else some q1.2)
def s_expr_context_value : Nat → Plan → (List ((List UInt8) × Int)) → (List (List UInt8)) → Expr → Option Int
  | 0, _, _, _, _ => none
  | nF + 1, c_plan, c_known, c_zones, e => ((s_expr_context_value_L1 (s_expr_context_value nF) c_plan c_known c_zones e) KK (0, [])).bind fun v1 => (bif (decide (e.Op = 0)) then some e.N else (bif (decide (e.Op = 1)) then some (Option.getD (mfind e.S c_known) 0) else (bif (decide (e.Op = 2)) then (s_expr_context_row c_plan c_known c_zones e).bind fun y2 => some y2 else (bif (decide (e.Op = 3)) then (s_slices_Contains c_zones e.S).bind fun y3 => (s_expr_bit y3).bind fun y4 => some y4 else (bif (decide (e.Op = 9)) then (grd (0 ≤ (0 : Int) ∧ (0 : Int) < ((v1).length : Nat))).bind fun _ => (some (v1.getD (Int.toNat 0) default)).bind fun e2 => some (w64 (0 - e2)) else (bif (decide (e.Op = 15)) then (grd (0 ≤ (0 : Int) ∧ (0 : Int) < ((v1).length : Nat))).bind fun _ => (some (v1.getD (Int.toNat 0) default)).bind fun e3 => (s_expr_bit (decide (e3 = 0))).bind fun y5 => some y5 else (bif (decide (e.Op = 16)) then (grd (0 ≤ (0 : Int) ∧ (0 : Int) < ((v1).length : Nat))).bind fun _ => (some (v1.getD (Int.toNat 0) default)).bind fun e4 => (bif (!(decide (e4 = 0))) then (grd (0 ≤ (1 : Int) ∧ (1 : Int) < ((v1).length : Nat))).bind fun _ => (some (v1.getD (Int.toNat 1) default)).bind fun e5 => some e5 else (grd (0 ≤ (2 : Int) ∧ (2 : Int) < ((v1).length : Nat))).bind fun _ => (some (v1.getD (Int.toNat 2) default)).bind fun e6 => some e6) else (grd (0 ≤ (0 : Int) ∧ (0 : Int) < ((v1).length : Nat))).bind fun _ => (some (v1.getD (Int.toNat 0) default)).bind fun e7 => (grd (0 ≤ (1 : Int) ∧ (1 : Int) < ((v1).length : Nat))).bind fun _ => (some (v1.getD (Int.toNat 1) default)).bind fun e8 => (s_expr_binary e.Op e7 e8).bind fun y6 => some y6)))))))
def s_expr_prepare_L1 (measures : (List Entry)) : Nat → (Int × (List ((List UInt8) × Bool)) × (List ((List UInt8) × Int))) → Option ((List ((List UInt8) × Bool)) × (List ((List UInt8) × Int)))
  | 0, _ => none
  | K1 + 1, q1 => (bif (decide (q1.1 < (List.length measures : Int))) then (idx measures q1.1).bind fun x1 => ((bif (!(Option.getD (mfind x1.Name q1.2.1) false)) then some ((mset x1.Name true q1.2.1), (mset x1.Name x1.N q1.2.2)) else some (q1.2.1, q1.2.2))).bind fun v2 => (s_expr_prepare_L1 measures) K1 ((w64 (q1.1 + 1)), v2.1, v2.2) else some (q1.2.1, q1.2.2))
def s_expr_prepare_L2 (p : Plan) (zones : (List (List UInt8))) (v1 : ((List ((List UInt8) × Bool)) × (List ((List UInt8) × Int)))) (y1 : ((List Int) × Int)) : Nat → (Int × (List Int) × (List ((List UInt8) × Int))) → Option ((List Int) × (List ((List UInt8) × Int)))
  | 0, _ => none
  | K2 + 1, q2 => (bif (decide (q2.1 < (List.length y1.1 : Int))) then (idx y1.1 q2.1).bind fun x2 => (idx p.Defs x2).bind fun x3 => (s_expr_Right x3.Body).bind fun y2 => ((bif y2 then (s_expr_context_value KK p q2.2.2 zones x3.Body).bind fun y3 => (grd (0 ≤ x2 ∧ x2 < ((q2.2.1).length : Nat))).bind fun _ => (some (q2.2.1.getD (Int.toNat x2) default)).bind fun e1 => some (List.set q2.2.1 (Int.toNat x2) y3) else some q2.2.1)).bind fun v4 => ((bif (!(Option.getD (mfind x3.Name v1.1) false)) then (grd (0 ≤ x2 ∧ x2 < ((v4).length : Nat))).bind fun _ => (some (v4.getD (Int.toNat x2) default)).bind fun e2 => some (mset x3.Name e2 q2.2.2) else some q2.2.2)).bind fun v5 => (s_expr_prepare_L2 p zones v1 y1) K2 ((w64 (q2.1 + 1)), v4, v5) else some (q2.2.1, q2.2.2))
def s_expr_prepare (p : Plan) (measures : (List Entry)) (zones : (List (List UInt8))) : Option (Plan × (List (List UInt8)) × (List Int) × (List ((List UInt8) × Int))) :=
  ((s_expr_prepare_L1 measures) KK (0, [], [])).bind fun v1 => (grd (0 ≤ (List.length p.Defs : Int) ∧ (List.length p.Defs : Int) * 8 ≤ 281474976710656 ∧ (List.length p.Defs : Int) ≤ 9223372036854775807)).bind fun _ => (s_define_Order p).bind fun y1 => (bif (!(decide (y1.2 = 0))) then some (p, zones, (List.replicate (Int.toNat (List.length p.Defs : Int)) (0 : Int)), v1.2) else ((s_expr_prepare_L2 p zones v1 y1) KK (0, (List.replicate (Int.toNat (List.length p.Defs : Int)) (0 : Int)), v1.2)).bind fun v3 => some (p, zones, v3.1, v3.2))
def s_expr_Eval (p : Plan) (measures : (List Entry)) (zones : (List (List UInt8))) (e_Op : Int) (e_N : Int) (e_S : (List UInt8)) (e_Key : (List UInt8)) (e_Args : (List Expr)) : Option Int :=
  (s_expr_Right (Expr.mk e_Op e_N e_S e_Key e_Args)).bind fun y1 => (bif (!y1) then some 0 else (s_expr_prepare p measures zones).bind fun y2 => (s_expr_context_value KK y2.1 y2.2.2.2 y2.2.1 (Expr.mk e_Op e_N e_S e_Key e_Args)).bind fun y3 => some y3)
def s_strings_Builder_copyCheck  : Option Unit :=
  some ()
def s_strings_Builder_WriteString (s : (List UInt8)) : Option (Int × (List UInt8)) :=
  (s_strings_Builder_copyCheck ).bind fun y1 => (grd ((s).length * 1 ≤ 140737488355328)).bind fun _ => some ((List.length s : Int), s)
def s_wire_Int (n : Int) : Option (List UInt8) :=
  (s_itoa n).bind fun y1 => (grd (List.length y1 + List.length ([59] : List UInt8) ≤ 9223372036854775807)).bind fun _ => some (y1 ++ ([59] : List UInt8))
def s_strings_Builder_copyCheck_2 (b_buf : (List UInt8)) : Option (List UInt8) :=
  some b_buf
def s_strings_Builder_WriteString_2 (b_buf : (List UInt8)) (s : (List UInt8)) : Option (Int × (List UInt8)) :=
  (s_strings_Builder_copyCheck_2 b_buf).bind fun y1 => (grd (((y1 ++ s)).length * 1 ≤ 140737488355328)).bind fun _ => some ((List.length s : Int), (y1 ++ s))
def s_strings_Builder_String (b_buf : (List UInt8)) : Option ((List UInt8) × (List UInt8)) :=
  (grd (1 ≤ (b_buf).length)).bind fun _ => (grd (1 ≤ (b_buf).length ∧ (b_buf).length ≤ 9223372036854775807)).bind fun _ => some (b_buf, b_buf)
def s_wire_list_L1 (l : (List Int)) : Nat → (Int × (List UInt8)) → Option (List UInt8)
  | 0, _ => none
  | K1 + 1, q1 => (bif (decide (q1.1 < (List.length l : Int))) then (idx l q1.1).bind fun x1 => (s_wire_Int x1).bind fun y3 => (s_strings_Builder_WriteString_2 q1.2 y3).bind fun y4 => (s_wire_list_L1 l) K1 ((w64 (q1.1 + 1)), y4.2) else some q1.2)
def s_wire_list (l : (List Int)) : Option (List UInt8) :=
  (s_itoa (List.length l : Int)).bind fun y1 => (grd (List.length y1 + List.length ([91] : List UInt8) ≤ 9223372036854775807)).bind fun _ => (s_strings_Builder_WriteString (y1 ++ ([91] : List UInt8))).bind fun y2 => ((s_wire_list_L1 l) KK (0, y2.2)).bind fun v1 => (s_strings_Builder_String v1).bind fun y5 => (grd (List.length y5.1 + List.length ([93] : List UInt8) ≤ 9223372036854775807)).bind fun _ => some (y5.1 ++ ([93] : List UInt8))
def s_wire_Nums (l : (List Int)) : Option (List UInt8) :=
  (s_wire_list l).bind fun y1 => some y1
def s_wire_Open (s : (List UInt8)) : Option (List UInt8) :=
  some s
def s_wire_Reader_fail (r_rest : (List UInt8)) (r_bad : Bool) : Option Unit :=
  some ()
def s_wire_Reader_number (r_rest : (List UInt8)) (r_bad : Bool) (end_ : Int) (least : Int) : Option (Int × (List UInt8) × Bool) :=
  (cut r_rest 0 (min (List.length r_rest : Int) 21)).bind fun x1 => (s_indexByte x1 end_).bind fun y1 => (bif (decide (y1 < 0)) then (s_wire_Reader_fail r_rest r_bad).bind fun y2 => some (0, [], true) else (cut x1 0 y1).bind fun x2 => (grd (List.length x2 ≤ 281474976710656)).bind fun _ => (optE (atoiV x2) ((s_wire_Reader_fail r_rest r_bad).bind fun y4 => some (0, [], true)) fun y3 => ((s_itoa y3).bind fun y5 => (cut x1 0 y1).bind fun x3 => (bif (!(decide (y5 = x3))) then some true else some (decide (y3 < least)))).bind fun v1 => (bif v1 then (s_wire_Reader_fail r_rest r_bad).bind fun y6 => some (0, [], true) else (cut r_rest (w64 (y1 + 1)) (List.length r_rest : Int)).bind fun x4 => some (y3, x4, r_bad))))
def s_wire_Reader_Int (r_rest : (List UInt8)) (r_bad : Bool) : Option (Int × (List UInt8) × Bool) :=
  (s_wire_Reader_number r_rest r_bad 59 (-9223372036854775808)).bind fun y1 => some (y1.1, y1.2.1, y1.2.2)
def s_stringslite_HasPrefix (s : (List UInt8)) (prefix_ : (List UInt8)) : Option Bool :=
  ((bif (decide ((List.length s : Int) ≥ (List.length prefix_ : Int))) then (cut s 0 (List.length prefix_ : Int)).bind fun x1 => some (decide (x1 = prefix_)) else some false)).bind fun v1 => some v1
def s_stringslite_CutPrefix (s : (List UInt8)) (prefix_ : (List UInt8)) : Option ((List UInt8) × Bool) :=
  (s_stringslite_HasPrefix s prefix_).bind fun y1 => (bif (!y1) then some (s, false) else (cut s (List.length prefix_ : Int) (List.length s : Int)).bind fun x1 => some (x1, true))
def s_strings_CutPrefix (s : (List UInt8)) (prefix_ : (List UInt8)) : Option ((List UInt8) × Bool) :=
  (s_stringslite_CutPrefix s prefix_).bind fun y1 => some (y1.1, y1.2)
def s_wire_Reader_close (r_rest : (List UInt8)) (r_bad : Bool) (end_ : (List UInt8)) : Option ((List UInt8) × Bool) :=
  (s_strings_CutPrefix r_rest end_).bind fun y1 => (bif (!y1.2) then (s_wire_Reader_fail y1.1 r_bad).bind fun y2 => some ([], true) else some (y1.1, r_bad))
def s_wire_items_L1  : Nat → (Int × (List UInt8) × Bool × (List Int)) → Option ((List UInt8) × Bool × (List Int))
  | 0, _ => none
  | K1 + 1, q1 => ((bif (decide (q1.1 > 0)) then some (!q1.2.2.1) else some false)).bind fun v2 => (bif v2 then (s_wire_Reader_Int q1.2.1 q1.2.2.1).bind fun y2 => (grd (((q1.2.2.2 ++ [y2.1])).length * 8 ≤ 140737488355328)).bind fun _ => s_wire_items_L1 K1 ((w64 (q1.1 - 1)), y2.2.1, y2.2.2, (q1.2.2.2 ++ [y2.1])) else some (q1.2.1, q1.2.2.1, q1.2.2.2))
def s_wire_items (r_rest : (List UInt8)) (r_bad : Bool) : Option ((List Int) × (List UInt8) × Bool) :=
  (s_wire_Reader_number r_rest r_bad 91 0).bind fun y1 => (s_wire_items_L1 KK (y1.1, y1.2.1, y1.2.2, [])).bind fun v1 => (s_wire_Reader_close v1.1 v1.2.1 ([93] : List UInt8)).bind fun y3 => (bif y3.2 then some ([], y3.1, y3.2) else some (v1.2.2, y3.1, y3.2))
def s_wire_Reader_Nums (r_rest : (List UInt8)) (r_bad : Bool) : Option ((List Int) × (List UInt8) × Bool) :=
  (s_wire_items r_rest r_bad).bind fun y1 => some (y1.1, y1.2.1, y1.2.2)
def s_wire_Reader_Done (r_rest : (List UInt8)) (r_bad : Bool) : Option (Bool × (List UInt8) × Bool) :=
  ((bif (!r_bad) then some (decide (r_rest = [])) else some false)).bind fun v1 => some (v1, r_rest, r_bad)
def s_greenbeltlaw44_FactValues_L1 (base : (List Fact)) (day : Int) (known : Int) (y4 : (List (List UInt8))) : Nat → (Int × (List Entry)) → Option (List Entry)
  | 0, _ => none
  | K1 + 1, q1 => (bif (decide (q1.1 < (List.length y4 : Int))) then (idx y4 q1.1).bind fun x1 => (s_fact_At base x1 day known).bind fun y5 => ((bif y5.2 then (idx y4 q1.1).bind fun x2 => (grd (((q1.2 ++ [(Entry.mk x2 y5.1)])).length * 24 ≤ 140737488355328)).bind fun _ => some (q1.2 ++ [(Entry.mk x2 y5.1)]) else some q1.2)).bind fun v3 => (s_greenbeltlaw44_FactValues_L1 base day known y4) K1 ((w64 (q1.1 + 1)), v3) else some q1.2)
def s_greenbeltlaw44_FactValues_L2 (y8 : (List Fact)) : Nat → ((List UInt8) × Int) → Option (List UInt8)
  | 0, _ => none
  | K2 + 1, q2 => (bif (decide (q2.2 < (List.length y8 : Int))) then (idx y8 q2.2).bind fun x3 => (idx y8 q2.2).bind fun x4 => (idx y8 q2.2).bind fun x5 => (idx y8 q2.2).bind fun x6 => (s_wire_Nums [x3.Value, x4.From, x5.Until, x6.Known]).bind fun y9 => (grd (List.length q2.1 + List.length y9 ≤ 9223372036854775807)).bind fun _ => (s_greenbeltlaw44_FactValues_L2 y8) K2 ((q2.1 ++ y9), (w64 (q2.2 + 1))) else some q2.1)
def s_greenbeltlaw44_FactValues_L3 (y8 : (List Fact)) : Nat → (Int × (List UInt8) × Bool) → Option (Bool ⊕ ((List UInt8) × Bool))
  | 0, _ => none
  | K3 + 1, q3 => (bif (decide (q3.1 < (List.length y8 : Int))) then (s_wire_Reader_Nums q3.2.1 q3.2.2).bind fun y11 => (bif (!(decide ((List.length y11.1 : Int) = 4))) then some (.inl false) else ((idx y11.1 0).bind fun x7 => (idx y8 q3.1).bind fun x8 => (bif (!(decide (x7 = x8.Value))) then some true else (idx y11.1 1).bind fun x9 => (idx y8 q3.1).bind fun x10 => (bif (!(decide (x9 = x10.From))) then some true else (idx y11.1 2).bind fun x11 => (idx y8 q3.1).bind fun x12 => (bif (!(decide (x11 = x12.Until))) then some true else (idx y11.1 3).bind fun x13 => (idx y8 q3.1).bind fun x14 => some (!(decide (x13 = x14.Known))))))).bind fun v6 => (bif v6 then some (.inl false) else (s_greenbeltlaw44_FactValues_L3 y8) K3 ((w64 (q3.1 + 1)), y11.2.1, y11.2.2))) else some (.inr (q3.2.1, q3.2.2)))
def s_greenbeltlaw44_FactValues (base : (List Fact)) (key : (List UInt8)) (day : Int) (known : Int) (n : Int) : Option Bool :=
  (s_greenbeltlaw44_small ).bind fun y1 => ((s_greenbeltlaw44_few base).bind fun y2 => (bif (!y2) then some true else (s_fact_Right base).bind fun y3 => (bif (!y3) then some true else some (decide (key = []))))).bind fun v1 => (bif v1 then some y1 else (s_fact_Keys base).bind fun y4 => ((s_greenbeltlaw44_FactValues_L1 base day known y4) KK (0, [])).bind fun v2 => (s_fact_At base key day known).bind fun y6 => (s_expr_Eval (Plan.mk [] [] [] [] [] [] [] 0) v2 [] 5 0 [] [] [(Expr.mk 1 0 key [] []), (Expr.mk 0 n [] [] [])]).bind fun y7 => (bif (!(decide (y7 = (w64 (y6.1 - n))))) then some false else (s_fact_History base key known).bind fun y8 => ((s_greenbeltlaw44_FactValues_L2 y8) KK ([], 0)).bind fun v4 => (s_wire_Open v4).bind fun y10 => ((s_greenbeltlaw44_FactValues_L3 y8) KK (0, y10, false) : Option (Bool ⊕ ((List UInt8) × Bool))).bind fun z5 => match z5 with
 | .inl r => some r
 | .inr v5 => ((bif y1 then (s_wire_Reader_Done v5.1 v5.2).bind fun y12 => some y12.1 else some false)).bind fun v7 => some v7))
end
end Go.Proofs.YtpabacdeogeehaaGreatDoor
