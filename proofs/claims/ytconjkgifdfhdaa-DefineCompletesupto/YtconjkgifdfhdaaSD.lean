/- What the functions compute; printed by expr.py. -/
import Derived.Test.YtconjkgifdfhdaaB
set_option linter.all false
set_option maxRecDepth 100000
namespace Go.Proofs.Ytconjkgifdfhdaa
open Go Go.RowKit Go.Eng Go.EV
theorem si {α : Type} {a b : α} (h : some a = some b) : a = b := Option.some.inj h
theorem kr {α : Sort _} {a b : α} (h : a = b := by kernel_rfl) : a = b := h
abbrev nT := @nrm_thenV
abbrev vT := @vr_text
abbrev oN := @ov_nil
abbrev vS := @v_seq
abbrev oR := @o_runs
abbrev bS := @bind_some
abbrev vK := @v_skip
abbrev oP := @o_pure
abbrev rT := @ret_thenV
abbrev rB := @ret_blkV
abbrev nB := @nrm_blkV
abbrev vB := @v_block
abbrev mI (l : List Int) := List.map EV.encI l
abbrev mS (l : List (List UInt8)) := List.map EV.encS l
abbrev mB (l : List Bool) := List.map EV.encB l
abbrev mM {α : Type} (f : α → List V) (l : List α) := List.map f l
abbrev ub : Nat := IntKind.u64.bits
abbrev uw (n : Int) : Int := IntKind.u64.wrap n
theorem bG {p : Prop} [Decidable p] {β : Type} {f : Unit → Option β} {r : β} (h : (grd p).bind f = some r) : p ∧ f () = some r := by
  obtain ⟨u, h1, h2⟩ := bind_some h; exact ⟨grd_some h1, h2⟩
theorem bE {α β : Type} {x : α} {f : α → Option β} {r : β} (h : (some x).bind f = some r) : ∃ a, x = a ∧ f a = some r := ⟨x, rfl, h⟩
/-- The fuel of loops and recursions. -/
class Fuel where
  n : Nat
  big : 18446744073709551616 ≤ n
def KK [Fuel] : Nat := Fuel.n
section
variable [Fuel]
def s_greenbeltlaw16_name (s : (List UInt8)) : Option Expr :=
  some (Expr.mk 1 0 s [] [])
def s_define_Measures  : Option (List (List UInt8)) :=
  some [([97, 114, 101, 97] : List UInt8), ([99, 111, 118, 101, 114] : List UInt8), ([102, 108, 111, 111, 114] : List UInt8), ([102, 108, 111, 111, 114, 115] : List UInt8), ([104, 101, 105, 103, 104, 116] : List UInt8), ([104, 111, 109, 101, 115] : List UInt8), ([114, 117, 110, 111, 102, 102] : List UInt8), ([115, 101, 116, 98, 97, 99, 107] : List UInt8), ([116, 114, 97, 102, 102, 105, 99] : List UInt8)]
def s_define_names (e : Expr) : Option (Int × Int × (List UInt8) × (List UInt8) × (List Expr)) :=
  some (e.Op, e.N, e.S, e.Key, e.Args)
def s_maps_Keys (m_ : (List ((List UInt8) × Bool))) : Option Unit :=
  some ()
def s_define_Names_L1  : List (List UInt8) → (List ((List UInt8) × Bool)) → Option (List ((List UInt8) × Bool))
  | [], q1 => some q1
  | x1 :: xs1, q1 => s_define_Names_L1 xs1 (mset x1 true q1)
def s_define_Names (e : Expr) : Option (List (List UInt8)) :=
  (s_define_names e).bind fun y1 => (s_define_Names_L1 (namesL (Expr.mk y1.1 y1.2.1 y1.2.2.1 y1.2.2.2.1 y1.2.2.2.2)) []).bind fun v1 => (s_maps_Keys v1).bind fun y2 => (grd ((List.map (·.1) v1).Nodup ∧ (∀ k ∈ List.map (·.1) v1, List.length k ≤ 9223372036854775807) ∧ List.length v1 * 16 ≤ 140737488355328)).bind fun _ => some (sortKeys v1)
def s_define_newGraph_L1 (l : (List Def)) : Nat → (Int × (List ((List UInt8) × Int))) → Option (List ((List UInt8) × Int))
  | 0, _ => none
  | K1 + 1, q1 => (bif (decide (q1.1 < (List.length l : Int))) then (idx l q1.1).bind fun x1 => (s_define_newGraph_L1 l) K1 ((w64 (q1.1 + 1)), (mset x1.Name q1.1 q1.2)) else some q1.2)
def s_define_newGraph_L3 (v1 : (List ((List UInt8) × Int))) (y1 : (List (List UInt8))) (q2 : (Int × (List (List Int)))) : Nat → (Int × (List (List Int))) → Option (List (List Int))
  | 0, _ => none
  | K3 + 1, q3 => (bif (decide (q3.1 < (List.length y1 : Int))) then (idx y1 q3.1).bind fun x3 => ((bif (Option.isSome (mfind x3 v1)) then (grd (0 ≤ q2.1 ∧ q2.1 < ((List.length q3.2) : Nat))).bind fun _ => (some (q3.2.getD (Int.toNat q2.1) default)).bind fun e1 => (grd ((List.length (e1 ++ [(Option.getD (mfind x3 v1) 0)])) * 8 ≤ 140737488355328)).bind fun _ => (grd (0 ≤ q2.1 ∧ q2.1 < ((List.length q3.2) : Nat))).bind fun _ => some (List.set q3.2 (Int.toNat q2.1) (e1 ++ [(Option.getD (mfind x3 v1) 0)])) else some q3.2)).bind fun v4 => (s_define_newGraph_L3 v1 y1 q2) K3 ((w64 (q3.1 + 1)), v4) else some q3.2)
def s_define_newGraph_L2 (l : (List Def)) (v1 : (List ((List UInt8) × Int))) : Nat → (Int × (List (List Int))) → Option (List (List Int))
  | 0, _ => none
  | K2 + 1, q2 => (bif (decide (q2.1 < (List.length l : Int))) then (idx l q2.1).bind fun x2 => (s_define_Names x2.Body).bind fun y1 => ((s_define_newGraph_L3 v1 y1 q2) KK (0, q2.2)).bind fun v3 => (s_define_newGraph_L2 l v1) K2 ((w64 (q2.1 + 1)), v3) else some q2.2)
def s_define_newGraph (l : (List Def)) : Option ((List Def) × (List (List Int))) :=
  ((s_define_newGraph_L1 l) KK (0, [])).bind fun v1 => (grd (0 ≤ (List.length l : Int) ∧ (List.length l : Int) * 24 ≤ 281474976710656 ∧ (List.length l : Int) ≤ 9223372036854775807)).bind fun _ => ((s_define_newGraph_L2 l v1) KK (0, (List.replicate (Int.toNat (List.length l : Int)) ([] : List Int)))).bind fun v2 => some (l, v2)
def s_bits_Mul64 (x : Int) (y : Int) : Option (Int × Int) :=
  some ((IntKind.u64.wrap ((IntKind.u64.wrap ((IntKind.u64.wrap ((Int.fdiv x (2 ^ (min (32 : Int).toNat IntKind.u64.bits))) * (Int.fdiv y (2 ^ (min (32 : Int).toNat IntKind.u64.bits))))) + (Int.fdiv (IntKind.u64.wrap ((IntKind.u64.wrap ((Int.fdiv x (2 ^ (min (32 : Int).toNat IntKind.u64.bits))) * (IntKind.u64.wrap ((BitVec.ofInt IntKind.u64.bits y &&& BitVec.ofInt IntKind.u64.bits 4294967295).toNat : Int)))) + (Int.fdiv (IntKind.u64.wrap ((IntKind.u64.wrap ((BitVec.ofInt IntKind.u64.bits x &&& BitVec.ofInt IntKind.u64.bits 4294967295).toNat : Int)) * (IntKind.u64.wrap ((BitVec.ofInt IntKind.u64.bits y &&& BitVec.ofInt IntKind.u64.bits 4294967295).toNat : Int)))) (2 ^ (min (32 : Int).toNat IntKind.u64.bits))))) (2 ^ (min (32 : Int).toNat IntKind.u64.bits))))) + (Int.fdiv (IntKind.u64.wrap ((IntKind.u64.wrap ((BitVec.ofInt IntKind.u64.bits (IntKind.u64.wrap ((IntKind.u64.wrap ((Int.fdiv x (2 ^ (min (32 : Int).toNat IntKind.u64.bits))) * (IntKind.u64.wrap ((BitVec.ofInt IntKind.u64.bits y &&& BitVec.ofInt IntKind.u64.bits 4294967295).toNat : Int)))) + (Int.fdiv (IntKind.u64.wrap ((IntKind.u64.wrap ((BitVec.ofInt IntKind.u64.bits x &&& BitVec.ofInt IntKind.u64.bits 4294967295).toNat : Int)) * (IntKind.u64.wrap ((BitVec.ofInt IntKind.u64.bits y &&& BitVec.ofInt IntKind.u64.bits 4294967295).toNat : Int)))) (2 ^ (min (32 : Int).toNat IntKind.u64.bits))))) &&& BitVec.ofInt IntKind.u64.bits 4294967295).toNat : Int)) + (IntKind.u64.wrap ((IntKind.u64.wrap ((BitVec.ofInt IntKind.u64.bits x &&& BitVec.ofInt IntKind.u64.bits 4294967295).toNat : Int)) * (Int.fdiv y (2 ^ (min (32 : Int).toNat IntKind.u64.bits))))))) (2 ^ (min (32 : Int).toNat IntKind.u64.bits))))), (IntKind.u64.wrap (x * y)))
def s_bits_Mul (x : Int) (y : Int) : Option (Int × Int) :=
  (s_bits_Mul64 x y).bind fun y1 => some (y1.1, y1.2)
def s_slices_Repeat_L1  : Nat → (Int × (List Int)) → Option (List Int)
  | 0, _ => none
  | K1 + 1, q1 => (bif (decide (q1.1 < ((q1.2).length : Int))) then (grd (0 ≤ q1.1 ∧ q1.1 ≤ ((q1.2).length : Int) ∧ ((q1.2).length : Int) ≤ ((q1.2).length : Nat))).bind fun _ => (grd (0 ≤ (0 : Int) ∧ (0 : Int) ≤ q1.1 ∧ q1.1 ≤ ((q1.2).length : Nat))).bind fun _ => s_slices_Repeat_L1 K1 ((w64 (q1.1 + (((min (Int.toNat q1.1 - Int.toNat 0) (Int.toNat ((q1.2).length : Int) - Int.toNat q1.1)) : Nat) : Int))), (cpyT q1.2 (Int.toNat q1.1) (List.take (min (Int.toNat q1.1 - Int.toNat 0) (Int.toNat ((q1.2).length : Int) - Int.toNat q1.1)) (List.take (Int.toNat q1.1 - Int.toNat 0) (List.drop (Int.toNat 0) q1.2))))) else some q1.2)
def s_slices_Repeat (x : (List Int)) (count : Int) : Option (List Int) :=
  (bif (decide (count < 0)) then none else (s_bits_Mul (IntKind.u64.wrap ((List.length x : Int))) (IntKind.u64.wrap (count))).bind fun y1 => ((bif (decide (y1.1 > 0)) then some true else some (decide (y1.2 > 9223372036854775807)))).bind fun v1 => (bif v1 then none else (grd (0 ≤ (w64 (y1.2)) ∧ (w64 (y1.2)) * 8 ≤ 281474976710656 ∧ (w64 (y1.2)) ≤ 9223372036854775807)).bind fun _ => (s_slices_Repeat_L1 KK ((((min (List.length x) (((List.replicate (Int.toNat (w64 (y1.2))) (0 : Int))).length)) : Nat) : Int), (cpyT (List.replicate (Int.toNat (w64 (y1.2))) (0 : Int)) 0 (List.take (min (List.length x) (((List.replicate (Int.toNat (w64 (y1.2))) (0 : Int))).length)) x)))).bind fun v2 => some v2))
def s_slices_Index_L1 (s : (List Int)) (v : Int) : Nat → Int → Option (Int ⊕ Unit)
  | 0, _ => none
  | K1 + 1, q1 => (bif (decide (q1 < (List.length s : Int))) then (idx s q1).bind fun x1 => (bif (decide (v = x1)) then some (.inl q1) else (s_slices_Index_L1 s v) K1 (w64 (q1 + 1))) else some (.inr ()))
def s_slices_Index (s : (List Int)) (v : Int) : Option Int :=
  ((s_slices_Index_L1 s v) KK 0 : Option (Int ⊕ Unit)).bind fun z1 => match z1 with
 | .inl r => some r
 | .inr v1 => some (-1)
def s_slices_Contains (s : (List Int)) (v : Int) : Option Bool :=
  (s_slices_Index s v).bind fun y1 => some (decide (y1 ≥ 0))
def s_define_graph_distances_L2 (g_uses : (List (List Int))) (e2 : Int) : Nat → (Int × (List Int) × Nat × (List Int)) → Option ((List Int) × Nat × (List Int))
  | 0, _ => none
  | K2 + 1, q2 => (bif (decide (q2.1 < (List.length g_uses : Int))) then (idx g_uses q2.1).bind fun x1 => ((grd (0 ≤ q2.1 ∧ q2.1 < ((q2.2.2.2).length : Nat))).bind fun _ => (some (q2.2.2.2.getD (Int.toNat q2.1) default)).bind fun e3 => (bif (decide (e3 < 0)) then (s_slices_Contains x1 e2).bind fun y2 => some (y2, q2.2.1, q2.2.2.1) else some (false, q2.2.1, q2.2.2.1))).bind fun v3 => ((bif v3.1 then (grd (0 ≤ e2 ∧ e2 < ((q2.2.2.2).length : Nat))).bind fun _ => (some (q2.2.2.2.getD (Int.toNat e2) default)).bind fun e4 => (grd (0 ≤ q2.1 ∧ q2.1 < ((q2.2.2.2).length : Nat))).bind fun _ => (some (q2.2.2.2.getD (Int.toNat q2.1) default)).bind fun e5 => (grd ((List.length (v3.2.1 ++ [q2.1])) * 8 ≤ 140737488355328)).bind fun _ => some ((v3.2.1 ++ [q2.1]), (v3.2.2 + 1), (List.set q2.2.2.2 (Int.toNat q2.1) (w64 (e4 + 1)))) else some (v3.2.1, v3.2.2, q2.2.2.2))).bind fun v4 => (s_define_graph_distances_L2 g_uses e2) K2 ((w64 (q2.1 + 1)), v4.1, v4.2.1, v4.2.2) else some (q2.2.1, q2.2.2.1, q2.2.2.2))
def s_define_graph_distances_L1 (g_uses : (List (List Int))) : Nat → ((List Int) × Nat × (List Int)) → Option (List Int)
  | 0, _ => none
  | K1 + 1, q1 => (bif (decide (((List.length q1.1) : Int) > 0)) then (grd (0 ≤ (0 : Int) ∧ (0 : Int) < ((List.length q1.1) : Nat))).bind fun _ => (some (q1.1.getD (Int.toNat 0) default)).bind fun e2 => (grd (1 ≤ (List.length q1.1))).bind fun _ => ((s_define_graph_distances_L2 g_uses e2) KK (0, (List.drop 1 q1.1), (q1.2.1 + 1), q1.2.2)).bind fun v2 => (s_define_graph_distances_L1 g_uses) K1 (v2.1, v2.2.1, v2.2.2) else some q1.2.2)
def s_define_graph_distances (g_defs : (List Def)) (g_uses : (List (List Int))) (to : Int) : Option ((List Int) × (List Def) × (List (List Int))) :=
  (s_slices_Repeat [(-1)] (List.length g_defs : Int)).bind fun y1 => (grd (0 ≤ to ∧ to < ((y1).length : Nat))).bind fun _ => (some (y1.getD (Int.toNat to) default)).bind fun e1 => ((s_define_graph_distances_L1 g_uses) KK ([to], 1, (List.set y1 (Int.toNat to) 0))).bind fun v1 => some (v1, g_defs, g_uses)
def s_define_graph_circle_L2 (y1 : ((List Int) × (List Def) × (List (List Int)))) (x2 : (List Int)) : Nat → (Int × Int) → Option Int
  | 0, _ => none
  | K2 + 1, q2 => (bif (decide (q2.2 < (List.length x2 : Int))) then (idx x2 q2.2).bind fun x3 => ((idx y1.1 x3).bind fun x4 => (bif (decide (x4 ≥ 0)) then (bif (decide (q2.1 < 0)) then some true else (idx y1.1 x3).bind fun x5 => (idx y1.1 q2.1).bind fun x6 => some (decide (x5 < x6))) else some false)).bind fun v3 => ((bif v3 then some x3 else some q2.1)).bind fun v4 => (s_define_graph_circle_L2 y1 x2) K2 (v4, (w64 (q2.2 + 1))) else some q2.1)
def s_define_graph_circle_L1 (from_ : Int) (y1 : ((List Int) × (List Def) × (List (List Int)))) : Nat → (Int × (List (List UInt8))) → Option (((List (List UInt8)) × (List Def) × (List (List Int))) ⊕ Unit)
  | 0, _ => none
  | K1 + 1, q1 => (idx y1.2.1 q1.1).bind fun x1 => (grd (((q1.2 ++ [x1.Name])).length * 16 ≤ 140737488355328)).bind fun _ => (idx y1.2.2 q1.1).bind fun x2 => ((s_define_graph_circle_L2 y1 x2) KK ((-1), 0)).bind fun v2 => (bif (decide (v2 < 0)) then some (.inl ([], y1.2.1, y1.2.2)) else (bif (decide (v2 = from_)) then (grd (List.isEmpty (q1.2 ++ [x1.Name]) = false)).bind fun _ => some (.inl ((q1.2 ++ [x1.Name]), y1.2.1, y1.2.2)) else (s_define_graph_circle_L1 from_ y1) K1 (v2, (q1.2 ++ [x1.Name]))))
def s_define_graph_circle (g_defs : (List Def)) (g_uses : (List (List Int))) (from_ : Int) : Option ((List (List UInt8)) × (List Def) × (List (List Int))) :=
  (s_define_graph_distances g_defs g_uses from_).bind fun y1 => ((s_define_graph_circle_L1 from_ y1) KK (from_, []) : Option (((List (List UInt8)) × (List Def) × (List (List Int))) ⊕ Unit)).bind fun z1 => match z1 with
 | .inl r => some r
 | .inr _ => none
def s_cmp_isNaN (x : (List UInt8)) : Option Bool :=
  some (!(decide (x = x)))
def s_cmp_Compare (x : (List UInt8)) (y : (List UInt8)) : Option Int :=
  (s_cmp_isNaN x).bind fun y1 => (s_cmp_isNaN y).bind fun y2 => (bif y1 then (bif y2 then some 0 else some (-1)) else (bif y2 then some 1 else (bif (Op.bytesLess x y) then some (-1) else (bif (!((Op.bytesLess x y) || (decide (x = y)))) then some 1 else some 0))))
def s_slices_Compare_L1 (s1 : (List (List UInt8))) (s2 : (List (List UInt8))) : Nat → Int → Option (Int ⊕ Unit)
  | 0, _ => none
  | K1 + 1, q1 => (bif (decide (q1 < (List.length s1 : Int))) then (idx s1 q1).bind fun x1 => (bif (decide (q1 ≥ (List.length s2 : Int))) then some (.inl 1) else (idx s2 q1).bind fun x2 => (s_cmp_Compare x1 x2).bind fun y1 => (bif (!(decide (y1 = 0))) then some (.inl y1) else (s_slices_Compare_L1 s1 s2) K1 (w64 (q1 + 1)))) else some (.inr ()))
def s_slices_Compare (s1 : (List (List UInt8))) (s2 : (List (List UInt8))) : Option Int :=
  ((s_slices_Compare_L1 s1 s2) KK 0 : Option (Int ⊕ Unit)).bind fun z1 => match z1 with
 | .inl r => some r
 | .inr v1 => (bif (decide ((List.length s1 : Int) < (List.length s2 : Int))) then some (-1) else some 0)
def s_define_graph_smallest_L1 (g_defs : (List Def)) : Nat → ((List (List UInt8)) × Int × (List Def) × (List (List Int))) → Option ((List (List UInt8)) × (List Def) × (List (List Int)))
  | 0, _ => none
  | K1 + 1, q1 => (bif (decide (q1.2.1 < (List.length g_defs : Int))) then ((s_define_graph_circle q1.2.2.1 q1.2.2.2 q1.2.1).bind fun y1 => (bif (List.isEmpty y1.1) then some (q1.1, y1.2.1, y1.2.2) else ((bif (List.isEmpty q1.1) then some (q1.1, y1.1, true) else (bif (decide ((List.length y1.1 : Int) < (List.length q1.1 : Int))) then some (q1.1, y1.1, true) else (bif (decide ((List.length y1.1 : Int) = (List.length q1.1 : Int))) then (s_slices_Compare y1.1 q1.1).bind fun y2 => some (q1.1, y1.1, (decide (y2 < 0))) else some (q1.1, y1.1, false))))).bind fun v3 => ((bif v3.2.2 then some v3.2.1 else some v3.1)).bind fun v4 => some (v4, y1.2.1, y1.2.2))).bind fun v2 => (s_define_graph_smallest_L1 g_defs) K1 (v2.1, (w64 (q1.2.1 + 1)), v2.2.1, v2.2.2) else some (q1.1, q1.2.2.1, q1.2.2.2))
def s_define_graph_smallest (g_defs : (List Def)) (g_uses : (List (List Int))) : Option ((List (List UInt8)) × (List Def) × (List (List Int))) :=
  ((s_define_graph_smallest_L1 g_defs) KK ([], 0, g_defs, g_uses)).bind fun v1 => some (v1.1, v1.2.1, v1.2.2)
def s_define_graph_order_1 (k : Int) (a1 : (List Bool)) : Option (Bool × (List Bool)) :=
  (grd (0 ≤ k ∧ k < ((a1).length : Nat))).bind fun _ => (some (a1.getD (Int.toNat k) default)).bind fun e1 => some ((!e1), a1)
def s_slices_IndexFunc_L1 (s : (List Int)) : Nat → (Int × (List Bool)) → Option ((Int × (List Bool)) ⊕ (List Bool))
  | 0, _ => none
  | K1 + 1, q1 => (bif (decide (q1.1 < (List.length s : Int))) then (idx s q1.1).bind fun x1 => (s_define_graph_order_1 x1 q1.2).bind fun y1 => (bif y1.1 then some (.inl (q1.1, y1.2)) else (s_slices_IndexFunc_L1 s) K1 ((w64 (q1.1 + 1)), y1.2)) else some (.inr q1.2))
def s_slices_IndexFunc (s : (List Int)) (k : (List Bool)) : Option (Int × (List Bool)) :=
  ((s_slices_IndexFunc_L1 s) KK (0, k) : Option ((Int × (List Bool)) ⊕ (List Bool))).bind fun z1 => match z1 with
 | .inl r => some r
 | .inr v1 => some ((-1), v1)
def s_slices_ContainsFunc (s : (List Int)) (k : (List Bool)) : Option (Bool × (List Bool)) :=
  (s_slices_IndexFunc s k).bind fun y1 => some ((decide (y1.1 ≥ 0)), y1.2)
def s_define_graph_order_L2 (g_defs : (List Def)) (g_uses : (List (List Int))) : Nat → (Int × Int × (List Bool)) → Option (Int × (List Bool))
  | 0, _ => none
  | K2 + 1, q2 => (bif (decide (q2.2.1 < (List.length g_uses : Int))) then (idx g_uses q2.2.1).bind fun x1 => (s_slices_ContainsFunc x1 q2.2.2).bind fun y1 => ((grd (0 ≤ q2.2.1 ∧ q2.2.1 < ((y1.2).length : Nat))).bind fun _ => (some (y1.2.getD (Int.toNat q2.2.1) default)).bind fun e1 => (bif (!e1) then (bif (!y1.1) then (bif (decide (q2.1 < 0)) then some true else (idx g_defs q2.2.1).bind fun x2 => (idx g_defs q2.1).bind fun x3 => some (Op.bytesLess x2.Name x3.Name)) else some false) else some false)).bind fun v3 => ((bif v3 then some q2.2.1 else some q2.1)).bind fun v4 => (s_define_graph_order_L2 g_defs g_uses) K2 (v4, (w64 (q2.2.1 + 1)), y1.2) else some (q2.1, q2.2.2))
def s_define_graph_order_L1 (g_defs : (List Def)) (g_uses : (List (List Int))) : Nat → (Int × (List Bool) × (List Int)) → Option (List Int)
  | 0, _ => none
  | K1 + 1, q1 => (bif (decide (q1.1 < (List.length g_defs : Int))) then ((s_define_graph_order_L2 g_defs g_uses) KK ((-1), 0, q1.2.1)).bind fun v2 => (grd (0 ≤ v2.1 ∧ v2.1 < ((v2.2).length : Nat))).bind fun _ => (some (v2.2.getD (Int.toNat v2.1) default)).bind fun e2 => (grd (((q1.2.2 ++ [v2.1])).length * 8 ≤ 140737488355328)).bind fun _ => (s_define_graph_order_L1 g_defs g_uses) K1 ((w64 (q1.1 + 1)), (List.set v2.2 (Int.toNat v2.1) true), (q1.2.2 ++ [v2.1])) else some q1.2.2)
def s_define_graph_order (g_defs : (List Def)) (g_uses : (List (List Int))) : Option ((List Int) × (List Def) × (List (List Int))) :=
  (grd (0 ≤ (List.length g_defs : Int) ∧ (List.length g_defs : Int) * 1 ≤ 281474976710656 ∧ (List.length g_defs : Int) ≤ 9223372036854775807)).bind fun _ => ((s_define_graph_order_L1 g_defs g_uses) KK (0, (List.replicate (Int.toNat (List.length g_defs : Int)) (false : Bool)), [])).bind fun v1 => some (v1, g_defs, g_uses)
def s_define_Order_L1 (y1 : (List (List UInt8))) : Nat → (Int × (List ((List UInt8) × Bool))) → Option (List ((List UInt8) × Bool))
  | 0, _ => none
  | K1 + 1, q1 => (bif (decide (q1.1 < (List.length y1 : Int))) then (idx y1 q1.1).bind fun x1 => (s_define_Order_L1 y1) K1 ((w64 (q1.1 + 1)), (mset x1 true q1.2)) else some q1.2)
def s_define_Order_L2 (p_Defs : (List Def)) : Nat → (Int × (List ((List UInt8) × Bool))) → Option (((List Int) × (List (List UInt8)) × Int) ⊕ Unit)
  | 0, _ => none
  | K2 + 1, q2 => (bif (decide (q2.1 < (List.length p_Defs : Int))) then (idx p_Defs q2.1).bind fun x2 => (bif (Option.getD (mfind x2.Name q2.2) false) then some (.inl ([], [], 5)) else (s_define_Order_L2 p_Defs) K2 ((w64 (q2.1 + 1)), (mset x2.Name true q2.2))) else some (.inr ()))
def s_define_Order (p_Defs : (List Def)) (p_Tables : (List Table)) (p_Zones : (List Zone)) (p_Rules : (List Rule)) (p_Caps : (List Cap)) (p_Views : (List View)) (p_Sun : (List Point3)) (p_Hours : Int) : Option ((List Int) × (List (List UInt8)) × Int) :=
  (s_define_Measures ).bind fun y1 => ((s_define_Order_L1 y1) KK (0, [])).bind fun v1 => ((s_define_Order_L2 p_Defs) KK (0, v1) : Option (((List Int) × (List (List UInt8)) × Int) ⊕ Unit)).bind fun z2 => match z2 with
 | .inl r => some r
 | .inr v2 => (s_define_newGraph p_Defs).bind fun y2 => (s_define_graph_smallest y2.1 y2.2).bind fun y3 => (bif (!(List.isEmpty y3.1)) then some ([], y3.1, 16) else (s_define_graph_order y3.2.1 y3.2.2).bind fun y4 => some (y4.1, [], 0))
def s_greenbeltref01_SameNums_L1 (a : (List Int)) (b : (List Int)) : Nat → Int → Option (Bool ⊕ Unit)
  | 0, _ => none
  | K1 + 1, q1 => (bif (decide (q1 < (List.length a : Int))) then (idx a q1).bind fun x1 => (idx b q1).bind fun x2 => (bif (!(decide (x1 = x2))) then some (.inl false) else (s_greenbeltref01_SameNums_L1 a b) K1 (w64 (q1 + 1))) else some (.inr ()))
def s_greenbeltref01_SameNums (a : (List Int)) (b : (List Int)) : Option Bool :=
  (bif (!(decide ((List.length a : Int) = (List.length b : Int)))) then some false else ((s_greenbeltref01_SameNums_L1 a b) KK 0 : Option (Bool ⊕ Unit)).bind fun z1 => match z1 with
 | .inl r => some r
 | .inr v1 => some true)
def s_greenbeltref01_SameTexts_L1 (a : (List (List UInt8))) (b : (List (List UInt8))) : Nat → Int → Option (Bool ⊕ Unit)
  | 0, _ => none
  | K1 + 1, q1 => (bif (decide (q1 < (List.length a : Int))) then (idx a q1).bind fun x1 => (idx b q1).bind fun x2 => (bif (!(decide (x1 = x2))) then some (.inl false) else (s_greenbeltref01_SameTexts_L1 a b) K1 (w64 (q1 + 1))) else some (.inr ()))
def s_greenbeltref01_SameTexts (a : (List (List UInt8))) (b : (List (List UInt8))) : Option Bool :=
  (bif (!(decide ((List.length a : Int) = (List.length b : Int)))) then some false else ((s_greenbeltref01_SameTexts_L1 a b) KK 0 : Option (Bool ⊕ Unit)).bind fun z1 => match z1 with
 | .inl r => some r
 | .inr v1 => some true)
def s_define_Reaches_L1 (p_Defs : (List Def)) : Nat → (Int × (List ((List UInt8) × (List Expr)))) → Option (List ((List UInt8) × (List Expr)))
  | 0, _ => none
  | K1 + 1, q1 => (bif (decide (q1.1 < (List.length p_Defs : Int))) then (idx p_Defs q1.1).bind fun x1 => (grd ((((Option.getD (mfind x1.Name q1.2) []) ++ [x1.Body])).length * 72 ≤ 140737488355328)).bind fun _ => (s_define_Reaches_L1 p_Defs) K1 ((w64 (q1.1 + 1)), (mset x1.Name ((Option.getD (mfind x1.Name q1.2) []) ++ [x1.Body]) q1.2)) else some q1.2)
def s_define_Reaches_L4  : List (List UInt8) → ((List (List UInt8)) × Nat × (List ((List UInt8) × Bool))) → Option ((List (List UInt8)) × Nat × (List ((List UInt8) × Bool)))
  | [], q4 => some (q4.1, q4.2.1, q4.2.2)
  | x3 :: xs1, q4 => ((bif (!(Option.getD (mfind x3 q4.2.2) false)) then (grd ((List.length (q4.1 ++ [x3])) * 16 ≤ 140737488355328)).bind fun _ => some ((q4.1 ++ [x3]), (q4.2.1 + 1), (mset x3 true q4.2.2)) else some (q4.1, q4.2.1, q4.2.2))).bind fun v5 => s_define_Reaches_L4 xs1 (v5.1, v5.2.1, v5.2.2)
def s_define_Reaches_L3 (v1 : (List ((List UInt8) × (List Expr)))) (e1 : (List UInt8)) : Nat → (Int × (List (List UInt8)) × Nat × (List ((List UInt8) × Bool))) → Option ((List (List UInt8)) × Nat × (List ((List UInt8) × Bool)))
  | 0, _ => none
  | K3 + 1, q3 => (bif (decide (q3.1 < (List.length (Option.getD (mfind e1 v1) []) : Int))) then (idx (Option.getD (mfind e1 v1) []) q3.1).bind fun x2 => (s_define_names x2).bind fun y1 => (s_define_Reaches_L4 (namesL (Expr.mk y1.1 y1.2.1 y1.2.2.1 y1.2.2.2.1 y1.2.2.2.2)) (q3.2.1, q3.2.2.1, q3.2.2.2)).bind fun v4 => (s_define_Reaches_L3 v1 e1) K3 ((w64 (q3.1 + 1)), v4.1, v4.2.1, v4.2.2) else some (q3.2.1, q3.2.2.1, q3.2.2.2))
def s_define_Reaches_L2 (v1 : (List ((List UInt8) × (List Expr)))) : Nat → ((List (List UInt8)) × Nat × (List ((List UInt8) × Bool))) → Option (List ((List UInt8) × Bool))
  | 0, _ => none
  | K2 + 1, q2 => (bif (decide (((List.length q2.1) : Int) > 0)) then (grd (0 ≤ (0 : Int) ∧ (0 : Int) < ((List.length q2.1) : Nat))).bind fun _ => (some (q2.1.getD (Int.toNat 0) default)).bind fun e1 => (grd (1 ≤ (List.length q2.1))).bind fun _ => ((s_define_Reaches_L3 v1 e1) KK (0, (List.drop 1 q2.1), (q2.2.1 + 1), q2.2.2)).bind fun v3 => (s_define_Reaches_L2 v1) K2 (v3.1, v3.2.1, v3.2.2) else some q2.2.2)
def s_define_Reaches (p_Defs : (List Def)) (p_Tables : (List Table)) (p_Zones : (List Zone)) (p_Rules : (List Rule)) (p_Caps : (List Cap)) (p_Views : (List View)) (p_Sun : (List Point3)) (p_Hours : Int) (name : (List UInt8)) : Option (List (List UInt8)) :=
  ((s_define_Reaches_L1 p_Defs) KK (0, [])).bind fun v1 => ((s_define_Reaches_L2 v1) KK ([name], 1, [])).bind fun v2 => (s_maps_Keys v2).bind fun y2 => (grd ((List.map (·.1) v2).Nodup ∧ (∀ k ∈ List.map (·.1) v2, List.length k ≤ 9223372036854775807) ∧ List.length v2 * 16 ≤ 140737488355328)).bind fun _ => some (sortKeys v2)
def s_define_Unknown_L2  : List (List UInt8) → (List ((List UInt8) × Bool)) → Option (List ((List UInt8) × Bool))
  | [], q2 => some q2
  | x2 :: xs1, q2 => s_define_Unknown_L2 xs1 (mset x2 true q2)
def s_define_Unknown_L1 (p : Plan) : Nat → (Int × (List ((List UInt8) × Bool))) → Option (List ((List UInt8) × Bool))
  | 0, _ => none
  | K1 + 1, q1 => (bif (decide (q1.1 < (List.length p.Defs : Int))) then (idx p.Defs q1.1).bind fun x1 => (s_define_names x1.Body).bind fun y1 => (s_define_Unknown_L2 (namesL (Expr.mk y1.1 y1.2.1 y1.2.2.1 y1.2.2.2.1 y1.2.2.2.2)) q1.2).bind fun v2 => (s_define_Unknown_L1 p) K1 ((w64 (q1.1 + 1)), v2) else some q1.2)
def s_define_Unknown_L4  : List (List UInt8) → (List ((List UInt8) × Bool)) → Option (List ((List UInt8) × Bool))
  | [], q4 => some q4
  | x4 :: xs2, q4 => s_define_Unknown_L4 xs2 (mset x4 true q4)
def s_define_Unknown_L3 (p : Plan) : Nat → (Int × (List ((List UInt8) × Bool))) → Option (List ((List UInt8) × Bool))
  | 0, _ => none
  | K2 + 1, q3 => (bif (decide (q3.1 < (List.length p.Rules : Int))) then (idx p.Rules q3.1).bind fun x3 => (s_define_names x3.Test).bind fun y2 => (s_define_Unknown_L4 (namesL (Expr.mk y2.1 y2.2.1 y2.2.2.1 y2.2.2.2.1 y2.2.2.2.2)) q3.2).bind fun v4 => (s_define_Unknown_L3 p) K2 ((w64 (q3.1 + 1)), v4) else some q3.2)
def s_define_Unknown_L5 (p : Plan) : Nat → (Int × (List ((List UInt8) × Bool))) → Option (List ((List UInt8) × Bool))
  | 0, _ => none
  | K3 + 1, q5 => (bif (decide (q5.1 < (List.length p.Defs : Int))) then (idx p.Defs q5.1).bind fun x5 => (s_define_Unknown_L5 p) K3 ((w64 (q5.1 + 1)), (mdel x5.Name q5.2)) else some q5.2)
def s_define_Unknown_L6 (y3 : (List (List UInt8))) : Nat → (Int × (List ((List UInt8) × Bool))) → Option (List ((List UInt8) × Bool))
  | 0, _ => none
  | K4 + 1, q6 => (bif (decide (q6.1 < (List.length y3 : Int))) then (idx y3 q6.1).bind fun x6 => (s_define_Unknown_L6 y3) K4 ((w64 (q6.1 + 1)), (mdel x6 q6.2)) else some q6.2)
def s_define_Unknown (p : Plan) : Option (List (List UInt8)) :=
  ((s_define_Unknown_L1 p) KK (0, [])).bind fun v1 => ((s_define_Unknown_L3 p) KK (0, v1)).bind fun v3 => ((s_define_Unknown_L5 p) KK (0, v3)).bind fun v5 => (s_define_Measures ).bind fun y3 => ((s_define_Unknown_L6 y3) KK (0, v5)).bind fun v6 => (s_maps_Keys v6).bind fun y4 => (grd ((List.map (·.1) v6).Nodup ∧ (∀ k ∈ List.map (·.1) v6, List.length k ≤ 9223372036854775807) ∧ List.length v6 * 16 ≤ 140737488355328)).bind fun _ => some (sortKeys v6)
def s_greenbeltlaw16_small  : Option Bool :=
  (s_greenbeltlaw16_name ([99] : List UInt8)).bind fun y1 => (s_greenbeltlaw16_name ([97] : List UInt8)).bind fun y2 => (s_greenbeltlaw16_name ([98] : List UInt8)).bind fun y3 => (s_greenbeltlaw16_name ([99] : List UInt8)).bind fun y4 => (s_greenbeltlaw16_name ([98] : List UInt8)).bind fun y5 => (s_define_Order [(Def.mk ([98] : List UInt8) (Expr.mk 4 0 [] [] [y1, (Expr.mk 0 1 [] [] [])])), (Def.mk ([97] : List UInt8) (Expr.mk 0 2 [] [] [])), (Def.mk ([99] : List UInt8) y2)] [] [] [] [] [] [] 0).bind fun y6 => (s_define_Order [(Def.mk ([97] : List UInt8) y3), (Def.mk ([98] : List UInt8) y4), (Def.mk ([99] : List UInt8) y5)] [] [] [] [] [] [] 0).bind fun y7 => (s_greenbeltlaw16_name ([97] : List UInt8)).bind fun y8 => (s_define_Order [(Def.mk ([97] : List UInt8) y8)] [] [] [] [] [] [] 0).bind fun y9 => (s_define_Order [(Def.mk ([104, 101, 105, 103, 104, 116] : List UInt8) (Expr.mk 0 3 [] [] []))] [] [] [] [] [] [] 0).bind fun y10 => ((bif (decide (y6.2.2 = 0)) then (s_greenbeltref01_SameNums y6.1 [1, 2, 0]).bind fun y11 => (bif y11 then (bif (decide ((List.length y6.2.1 : Int) = 0)) then (bif (decide (y7.2.2 = 16)) then (bif (decide ((List.length y7.1 : Int) = 0)) then (s_greenbeltref01_SameTexts y7.2.1 [([98] : List UInt8), ([99] : List UInt8)]).bind fun y12 => some y12 else some false) else some false) else some false) else some false) else some false)).bind fun v1 => ((bif (decide (y9.2.2 = 16)) then (bif (decide ((List.length y9.1 : Int) = 0)) then (s_greenbeltref01_SameTexts y9.2.1 [([97] : List UInt8)]).bind fun y13 => (bif y13 then (bif (decide (y10.2.2 = 5)) then (s_define_Measures ).bind fun y14 => some (decide ((List.length y14 : Int) = 9)) else some false) else some false) else some false) else some false)).bind fun v2 => ((bif v1 then (bif v2 then (s_define_Reaches [(Def.mk ([98] : List UInt8) (Expr.mk 4 0 [] [] [y1, (Expr.mk 0 1 [] [] [])])), (Def.mk ([97] : List UInt8) (Expr.mk 0 2 [] [] [])), (Def.mk ([99] : List UInt8) y2)] [] [] [] [] [] [] 0 ([98] : List UInt8)).bind fun y15 => (s_greenbeltref01_SameTexts y15 [([97] : List UInt8), ([99] : List UInt8)]).bind fun y16 => (bif y16 then (cut [(Def.mk ([97] : List UInt8) y3), (Def.mk ([98] : List UInt8) y4), (Def.mk ([99] : List UInt8) y5)] 0 2).bind fun x1 => (s_define_Unknown (Plan.mk x1 [] [] [] [] [] [] 0)).bind fun y17 => (s_greenbeltref01_SameTexts y17 [([99] : List UInt8)]).bind fun y18 => some y18 else some false) else some false) else some false)).bind fun v3 => some v3
def s_greenbeltref16_Size_L1 (rec_greenbeltref16_Size : Expr → Option Int) (e : Expr) : Nat → (Int × Int) → Option Int
  | 0, _ => none
  | K1 + 1, q1 => (bif (decide (q1.2 < (List.length e.Args : Int))) then (idx e.Args q1.2).bind fun x1 => (rec_greenbeltref16_Size x1).bind fun y1 => (s_greenbeltref16_Size_L1 rec_greenbeltref16_Size e) K1 ((w64 (q1.1 + y1)), (w64 (q1.2 + 1))) else some q1.1)
def s_greenbeltref16_Size : Nat → Expr → Option Int
  | 0, _ => none
  | nF + 1, e => ((s_greenbeltref16_Size_L1 (s_greenbeltref16_Size nF) e) KK (1, 0)).bind fun v1 => some v1
def s_greenbeltref16_Few_L1 (p : Plan) : Nat → Int → Option (Bool ⊕ Unit)
  | 0, _ => none
  | K1 + 1, q1 => (bif (decide (q1 < (List.length p.Defs : Int))) then ((idx p.Defs q1).bind fun x1 => (s_greenbeltref16_Size KK x1.Body).bind fun y1 => (bif (decide (y1 > 60)) then some true else (idx p.Defs q1).bind fun x2 => some (decide ((List.length x2.Name : Int) > 100)))).bind fun v3 => (bif v3 then some (.inl false) else (s_greenbeltref16_Few_L1 p) K1 (w64 (q1 + 1))) else some (.inr ()))
def s_greenbeltref16_Few_L2 (p : Plan) : Nat → Int → Option (Bool ⊕ Unit)
  | 0, _ => none
  | K2 + 1, q2 => (bif (decide (q2 < (List.length p.Rules : Int))) then (idx p.Rules q2).bind fun x3 => (s_greenbeltref16_Size KK x3.Test).bind fun y2 => (bif (decide (y2 > 60)) then some (.inl false) else (s_greenbeltref16_Few_L2 p) K2 (w64 (q2 + 1))) else some (.inr ()))
def s_greenbeltref16_Few (p : Plan) : Option Bool :=
  ((bif (decide ((List.length p.Defs : Int) > 20)) then some true else some (decide ((List.length p.Rules : Int) > 20)))).bind fun v1 => (bif v1 then some false else ((s_greenbeltref16_Few_L1 p) KK 0 : Option (Bool ⊕ Unit)).bind fun z2 => match z2 with
 | .inl r => some r
 | .inr v2 => ((s_greenbeltref16_Few_L2 p) KK 0 : Option (Bool ⊕ Unit)).bind fun z4 => match z4 with
 | .inl r => some r
 | .inr v4 => some true)
def s_define_Order_2_L1 (y1 : (List (List UInt8))) : Nat → (Int × (List ((List UInt8) × Bool))) → Option (List ((List UInt8) × Bool))
  | 0, _ => none
  | K1 + 1, q1 => (bif (decide (q1.1 < (List.length y1 : Int))) then (idx y1 q1.1).bind fun x1 => (s_define_Order_2_L1 y1) K1 ((w64 (q1.1 + 1)), (mset x1 true q1.2)) else some q1.2)
def s_define_Order_2_L2 (p : Plan) : Nat → (Int × (List ((List UInt8) × Bool))) → Option (((List Int) × (List (List UInt8)) × Int) ⊕ Unit)
  | 0, _ => none
  | K2 + 1, q2 => (bif (decide (q2.1 < (List.length p.Defs : Int))) then (idx p.Defs q2.1).bind fun x2 => (bif (Option.getD (mfind x2.Name q2.2) false) then some (.inl ([], [], 5)) else (s_define_Order_2_L2 p) K2 ((w64 (q2.1 + 1)), (mset x2.Name true q2.2))) else some (.inr ()))
def s_define_Order_2 (p : Plan) : Option ((List Int) × (List (List UInt8)) × Int) :=
  (s_define_Measures ).bind fun y1 => ((s_define_Order_2_L1 y1) KK (0, [])).bind fun v1 => ((s_define_Order_2_L2 p) KK (0, v1) : Option (((List Int) × (List (List UInt8)) × Int) ⊕ Unit)).bind fun z2 => match z2 with
 | .inl r => some r
 | .inr v2 => (s_define_newGraph p.Defs).bind fun y2 => (s_define_graph_smallest y2.1 y2.2).bind fun y3 => (bif (!(List.isEmpty y3.1)) then some ([], y3.1, 16) else (s_define_graph_order y3.2.1 y3.2.2).bind fun y4 => some (y4.1, [], 0))
def s_greenbeltref16_Measures  : Option Unit :=
  some ()
def s_greenbeltref16_Has_L1 (l : (List (List UInt8))) (s : (List UInt8)) : Nat → Int → Option (Bool ⊕ Unit)
  | 0, _ => none
  | K1 + 1, q1 => (bif (decide (q1 < (List.length l : Int))) then (idx l q1).bind fun x1 => (bif (decide (x1 = s)) then some (.inl true) else (s_greenbeltref16_Has_L1 l s) K1 (w64 (q1 + 1))) else some (.inr ()))
def s_greenbeltref16_Has (l : (List (List UInt8))) (s : (List UInt8)) : Option Bool :=
  ((s_greenbeltref16_Has_L1 l s) KK 0 : Option (Bool ⊕ Unit)).bind fun z1 => match z1 with
 | .inl r => some r
 | .inr v1 => some false
def s_greenbeltref16_With_L1 (l : (List (List UInt8))) (s : (List UInt8)) : Nat → Int → Option Int
  | 0, _ => none
  | K1 + 1, q1 => ((bif (decide (q1 < (List.length l : Int))) then (idx l q1).bind fun x1 => some (Op.bytesLess x1 s) else some false)).bind fun v2 => (bif v2 then (s_greenbeltref16_With_L1 l s) K1 (w64 (q1 + 1)) else some q1)
def s_greenbeltref16_With (l : (List (List UInt8))) (s : (List UInt8)) : Option (List (List UInt8)) :=
  (s_greenbeltref16_Has l s).bind fun y1 => (bif y1 then some l else ((s_greenbeltref16_With_L1 l s) KK 0).bind fun v1 => (cut l 0 v1).bind fun x2 => (grd ((x2).length * 16 ≤ 140737488355328)).bind fun _ => (grd (((x2 ++ [s])).length * 16 ≤ 140737488355328)).bind fun _ => (cut l v1 (List.length l : Int)).bind fun x3 => (grd ((((x2 ++ [s]) ++ x3)).length * 16 ≤ 140737488355328)).bind fun _ => some ((x2 ++ [s]) ++ x3))
def s_greenbeltref16_Names_L2 (y2 : (List (List UInt8))) : Nat → ((List (List UInt8)) × Int) → Option (List (List UInt8))
  | 0, _ => none
  | K2 + 1, q2 => (bif (decide (q2.2 < (List.length y2 : Int))) then (idx y2 q2.2).bind fun x2 => (s_greenbeltref16_With q2.1 x2).bind fun y3 => (s_greenbeltref16_Names_L2 y2) K2 (y3, (w64 (q2.2 + 1))) else some q2.1)
def s_greenbeltref16_Names_L1 (rec_greenbeltref16_Names : Expr → Option (List (List UInt8))) (e : Expr) : Nat → ((List (List UInt8)) × Int) → Option (List (List UInt8))
  | 0, _ => none
  | K1 + 1, q1 => (bif (decide (q1.2 < (List.length e.Args : Int))) then (idx e.Args q1.2).bind fun x1 => (rec_greenbeltref16_Names x1).bind fun y2 => ((s_greenbeltref16_Names_L2 y2) KK (q1.1, 0)).bind fun v3 => (s_greenbeltref16_Names_L1 rec_greenbeltref16_Names e) K1 (v3, (w64 (q1.2 + 1))) else some q1.1)
def s_greenbeltref16_Names : Nat → Expr → Option (List (List UInt8))
  | 0, _ => none
  | nF + 1, e => ((bif (decide (e.Op = 1)) then (s_greenbeltref16_With [] e.S).bind fun y1 => some y1 else some [])).bind fun v1 => ((s_greenbeltref16_Names_L1 (s_greenbeltref16_Names nF) e) KK (v1, 0)).bind fun v2 => some v2
def s_define_Reaches_2_L1 (p : Plan) : Nat → (Int × (List ((List UInt8) × (List Expr)))) → Option (List ((List UInt8) × (List Expr)))
  | 0, _ => none
  | K1 + 1, q1 => (bif (decide (q1.1 < (List.length p.Defs : Int))) then (idx p.Defs q1.1).bind fun x1 => (grd ((((Option.getD (mfind x1.Name q1.2) []) ++ [x1.Body])).length * 72 ≤ 140737488355328)).bind fun _ => (s_define_Reaches_2_L1 p) K1 ((w64 (q1.1 + 1)), (mset x1.Name ((Option.getD (mfind x1.Name q1.2) []) ++ [x1.Body]) q1.2)) else some q1.2)
def s_define_Reaches_2_L4  : List (List UInt8) → ((List (List UInt8)) × Nat × (List ((List UInt8) × Bool))) → Option ((List (List UInt8)) × Nat × (List ((List UInt8) × Bool)))
  | [], q4 => some (q4.1, q4.2.1, q4.2.2)
  | x3 :: xs1, q4 => ((bif (!(Option.getD (mfind x3 q4.2.2) false)) then (grd ((List.length (q4.1 ++ [x3])) * 16 ≤ 140737488355328)).bind fun _ => some ((q4.1 ++ [x3]), (q4.2.1 + 1), (mset x3 true q4.2.2)) else some (q4.1, q4.2.1, q4.2.2))).bind fun v5 => s_define_Reaches_2_L4 xs1 (v5.1, v5.2.1, v5.2.2)
def s_define_Reaches_2_L3 (v1 : (List ((List UInt8) × (List Expr)))) (e1 : (List UInt8)) : Nat → (Int × (List (List UInt8)) × Nat × (List ((List UInt8) × Bool))) → Option ((List (List UInt8)) × Nat × (List ((List UInt8) × Bool)))
  | 0, _ => none
  | K3 + 1, q3 => (bif (decide (q3.1 < (List.length (Option.getD (mfind e1 v1) []) : Int))) then (idx (Option.getD (mfind e1 v1) []) q3.1).bind fun x2 => (s_define_names x2).bind fun y1 => (s_define_Reaches_2_L4 (namesL (Expr.mk y1.1 y1.2.1 y1.2.2.1 y1.2.2.2.1 y1.2.2.2.2)) (q3.2.1, q3.2.2.1, q3.2.2.2)).bind fun v4 => (s_define_Reaches_2_L3 v1 e1) K3 ((w64 (q3.1 + 1)), v4.1, v4.2.1, v4.2.2) else some (q3.2.1, q3.2.2.1, q3.2.2.2))
def s_define_Reaches_2_L2 (v1 : (List ((List UInt8) × (List Expr)))) : Nat → ((List (List UInt8)) × Nat × (List ((List UInt8) × Bool))) → Option (List ((List UInt8) × Bool))
  | 0, _ => none
  | K2 + 1, q2 => (bif (decide (((List.length q2.1) : Int) > 0)) then (grd (0 ≤ (0 : Int) ∧ (0 : Int) < ((List.length q2.1) : Nat))).bind fun _ => (some (q2.1.getD (Int.toNat 0) default)).bind fun e1 => (grd (1 ≤ (List.length q2.1))).bind fun _ => ((s_define_Reaches_2_L3 v1 e1) KK (0, (List.drop 1 q2.1), (q2.2.1 + 1), q2.2.2)).bind fun v3 => (s_define_Reaches_2_L2 v1) K2 (v3.1, v3.2.1, v3.2.2) else some q2.2.2)
def s_define_Reaches_2 (p : Plan) (name : (List UInt8)) : Option (List (List UInt8)) :=
  ((s_define_Reaches_2_L1 p) KK (0, [])).bind fun v1 => ((s_define_Reaches_2_L2 v1) KK ([name], 1, [])).bind fun v2 => (s_maps_Keys v2).bind fun y2 => (grd ((List.map (·.1) v2).Nodup ∧ (∀ k ∈ List.map (·.1) v2, List.length k ≤ 9223372036854775807) ∧ List.length v2 * 16 ≤ 140737488355328)).bind fun _ => some (sortKeys v2)
def s_greenbeltref16_Unknown_L1 (p : Plan) : Nat → (Int × (List (List UInt8)) × (List (List UInt8))) → Option ((List (List UInt8)) × (List (List UInt8)))
  | 0, _ => none
  | K1 + 1, q1 => (bif (decide (q1.1 < (List.length p.Defs : Int))) then (idx p.Defs q1.1).bind fun x1 => (grd (((q1.2.1 ++ [x1.Name])).length * 16 ≤ 140737488355328)).bind fun _ => (idx p.Defs q1.1).bind fun x2 => (s_greenbeltref16_Names KK x2.Body).bind fun y2 => (grd (((q1.2.2 ++ y2)).length * 16 ≤ 140737488355328)).bind fun _ => (s_greenbeltref16_Unknown_L1 p) K1 ((w64 (q1.1 + 1)), (q1.2.1 ++ [x1.Name]), (q1.2.2 ++ y2)) else some (q1.2.1, q1.2.2))
def s_greenbeltref16_Unknown_L2 (p : Plan) : Nat → (Int × (List (List UInt8))) → Option (List (List UInt8))
  | 0, _ => none
  | K2 + 1, q2 => (bif (decide (q2.1 < (List.length p.Rules : Int))) then (idx p.Rules q2.1).bind fun x3 => (s_greenbeltref16_Names KK x3.Test).bind fun y3 => (grd (((q2.2 ++ y3)).length * 16 ≤ 140737488355328)).bind fun _ => (s_greenbeltref16_Unknown_L2 p) K2 ((w64 (q2.1 + 1)), (q2.2 ++ y3)) else some q2.2)
def s_greenbeltref16_Unknown_L3 (v1 : ((List (List UInt8)) × (List (List UInt8)))) (v2 : (List (List UInt8))) : Nat → ((List (List UInt8)) × Int) → Option (List (List UInt8))
  | 0, _ => none
  | K3 + 1, q3 => (bif (decide (q3.2 < ((v2).length : Int))) then (grd (0 ≤ q3.2 ∧ q3.2 < ((v2).length : Nat))).bind fun _ => (some (v2.getD (Int.toNat q3.2) default)).bind fun e1 => (s_greenbeltref16_Has v1.1 e1).bind fun y4 => ((bif (!y4) then (grd (0 ≤ q3.2 ∧ q3.2 < ((v2).length : Nat))).bind fun _ => (some (v2.getD (Int.toNat q3.2) default)).bind fun e2 => (s_greenbeltref16_With q3.1 e2).bind fun y5 => some y5 else some q3.1)).bind fun v4 => (s_greenbeltref16_Unknown_L3 v1 v2) K3 (v4, (w64 (q3.2 + 1))) else some q3.1)
def s_greenbeltref16_Unknown (p : Plan) : Option (List (List UInt8)) :=
  (s_greenbeltref16_Measures ).bind fun y1 => ((s_greenbeltref16_Unknown_L1 p) KK (0, [([97, 114, 101, 97] : List UInt8), ([99, 111, 118, 101, 114] : List UInt8), ([102, 108, 111, 111, 114] : List UInt8), ([102, 108, 111, 111, 114, 115] : List UInt8), ([104, 101, 105, 103, 104, 116] : List UInt8), ([104, 111, 109, 101, 115] : List UInt8), ([114, 117, 110, 111, 102, 102] : List UInt8), ([115, 101, 116, 98, 97, 99, 107] : List UInt8), ([116, 114, 97, 102, 102, 105, 99] : List UInt8)], [])).bind fun v1 => ((s_greenbeltref16_Unknown_L2 p) KK (0, v1.2)).bind fun v2 => ((s_greenbeltref16_Unknown_L3 v1 v2) KK ([], 0)).bind fun v3 => some v3
def s_greenbeltlaw16_has_L1 (l : (List (List UInt8))) (s : (List UInt8)) : Nat → Int → Option (Bool ⊕ Unit)
  | 0, _ => none
  | K1 + 1, q1 => (bif (decide (q1 < (List.length l : Int))) then (idx l q1).bind fun x1 => (bif (decide (x1 = s)) then some (.inl true) else (s_greenbeltlaw16_has_L1 l s) K1 (w64 (q1 + 1))) else some (.inr ()))
def s_greenbeltlaw16_has (l : (List (List UInt8))) (s : (List UInt8)) : Option Bool :=
  ((s_greenbeltlaw16_has_L1 l s) KK 0 : Option (Bool ⊕ Unit)).bind fun z1 => match z1 with
 | .inl r => some r
 | .inr v1 => some false
def s_define_Unknown_2_L2  : List (List UInt8) → (List ((List UInt8) × Bool)) → Option (List ((List UInt8) × Bool))
  | [], q2 => some q2
  | x2 :: xs1, q2 => s_define_Unknown_2_L2 xs1 (mset x2 true q2)
def s_define_Unknown_2_L1 (p_Defs : (List Def)) : Nat → (Int × (List ((List UInt8) × Bool))) → Option (List ((List UInt8) × Bool))
  | 0, _ => none
  | K1 + 1, q1 => (bif (decide (q1.1 < (List.length p_Defs : Int))) then (idx p_Defs q1.1).bind fun x1 => (s_define_names x1.Body).bind fun y1 => (s_define_Unknown_2_L2 (namesL (Expr.mk y1.1 y1.2.1 y1.2.2.1 y1.2.2.2.1 y1.2.2.2.2)) q1.2).bind fun v2 => (s_define_Unknown_2_L1 p_Defs) K1 ((w64 (q1.1 + 1)), v2) else some q1.2)
def s_define_Unknown_2_L4  : List (List UInt8) → (List ((List UInt8) × Bool)) → Option (List ((List UInt8) × Bool))
  | [], q4 => some q4
  | x4 :: xs2, q4 => s_define_Unknown_2_L4 xs2 (mset x4 true q4)
def s_define_Unknown_2_L3 (p_Rules : (List Rule)) : Nat → (Int × (List ((List UInt8) × Bool))) → Option (List ((List UInt8) × Bool))
  | 0, _ => none
  | K2 + 1, q3 => (bif (decide (q3.1 < (List.length p_Rules : Int))) then (idx p_Rules q3.1).bind fun x3 => (s_define_names x3.Test).bind fun y2 => (s_define_Unknown_2_L4 (namesL (Expr.mk y2.1 y2.2.1 y2.2.2.1 y2.2.2.2.1 y2.2.2.2.2)) q3.2).bind fun v4 => (s_define_Unknown_2_L3 p_Rules) K2 ((w64 (q3.1 + 1)), v4) else some q3.2)
def s_define_Unknown_2_L5 (p_Defs : (List Def)) : Nat → (Int × (List ((List UInt8) × Bool))) → Option (List ((List UInt8) × Bool))
  | 0, _ => none
  | K3 + 1, q5 => (bif (decide (q5.1 < (List.length p_Defs : Int))) then (idx p_Defs q5.1).bind fun x5 => (s_define_Unknown_2_L5 p_Defs) K3 ((w64 (q5.1 + 1)), (mdel x5.Name q5.2)) else some q5.2)
def s_define_Unknown_2_L6 (y3 : (List (List UInt8))) : Nat → (Int × (List ((List UInt8) × Bool))) → Option (List ((List UInt8) × Bool))
  | 0, _ => none
  | K4 + 1, q6 => (bif (decide (q6.1 < (List.length y3 : Int))) then (idx y3 q6.1).bind fun x6 => (s_define_Unknown_2_L6 y3) K4 ((w64 (q6.1 + 1)), (mdel x6 q6.2)) else some q6.2)
def s_define_Unknown_2 (p_Defs : (List Def)) (p_Tables : (List Table)) (p_Zones : (List Zone)) (p_Rules : (List Rule)) (p_Caps : (List Cap)) (p_Views : (List View)) (p_Sun : (List Point3)) (p_Hours : Int) : Option (List (List UInt8)) :=
  ((s_define_Unknown_2_L1 p_Defs) KK (0, [])).bind fun v1 => ((s_define_Unknown_2_L3 p_Rules) KK (0, v1)).bind fun v3 => ((s_define_Unknown_2_L5 p_Defs) KK (0, v3)).bind fun v5 => (s_define_Measures ).bind fun y3 => ((s_define_Unknown_2_L6 y3) KK (0, v5)).bind fun v6 => (s_maps_Keys v6).bind fun y4 => (grd ((List.map (·.1) v6).Nodup ∧ (∀ k ∈ List.map (·.1) v6, List.length k ≤ 9223372036854775807) ∧ List.length v6 * 16 ≤ 140737488355328)).bind fun _ => some (sortKeys v6)
def s_greenbeltlaw16_DefineCompletes_L1 (y3 : (List (List UInt8))) : Nat → (Int × (List Def)) → Option (Bool ⊕ (List Def))
  | 0, _ => none
  | K1 + 1, q1 => (bif (decide (q1.1 < (List.length y3 : Int))) then ((bif (decide (q1.1 > 0)) then (idx y3 (w64 (q1.1 - 1))).bind fun x2 => (idx y3 q1.1).bind fun x3 => (bif (!(Op.bytesLess x2 x3)) then some true else (s_define_Measures ).bind fun y6 => (idx y3 q1.1).bind fun x4 => (s_greenbeltlaw16_has y6 x4).bind fun y7 => some y7) else (s_define_Measures ).bind fun y4 => (idx y3 q1.1).bind fun x1 => (s_greenbeltlaw16_has y4 x1).bind fun y5 => some y5)).bind fun v2 => (bif v2 then some (.inl false) else (idx y3 q1.1).bind fun x5 => (grd (((q1.2 ++ [(Def.mk x5 (Expr.mk 0 q1.1 [] [] []))])).length * 88 ≤ 140737488355328)).bind fun _ => (s_greenbeltlaw16_DefineCompletes_L1 y3) K1 ((w64 (q1.1 + 1)), (q1.2 ++ [(Def.mk x5 (Expr.mk 0 q1.1 [] [] []))]))) else some (.inr q1.2))
def s_greenbeltlaw16_DefineCompletes (p : Plan) : Option Bool :=
  (s_greenbeltlaw16_small ).bind fun y1 => (s_greenbeltref16_Few p).bind fun y2 => (bif (!y2) then some y1 else (s_define_Unknown p).bind fun y3 => (grd ((p.Defs).length * 88 ≤ 140737488355328)).bind fun _ => ((s_greenbeltlaw16_DefineCompletes_L1 y3) KK (0, p.Defs) : Option (Bool ⊕ (List Def))).bind fun z1 => match z1 with
 | .inl r => some r
 | .inr v1 => (s_define_Order_2 p).bind fun y8 => (s_define_Order v1 p.Tables p.Zones p.Rules p.Caps p.Views p.Sun p.Hours).bind fun y9 => ((bif (decide (y9.2.2 = 0)) then some (!(decide ((List.length y9.1 : Int) = ((v1).length : Int)))) else some false)).bind fun v3 => (bif v3 then some false else ((bif y1 then (s_define_Unknown_2 v1 p.Tables p.Zones p.Rules p.Caps p.Views p.Sun p.Hours).bind fun y10 => (bif (decide ((List.length y10 : Int) = 0)) then (bif (decide (y8.2.2 = y9.2.2)) then (s_greenbeltref01_SameTexts y8.2.1 y9.2.1).bind fun y11 => some y11 else some false) else some false) else some false)).bind fun v4 => some v4))
end
end Go.Proofs.Ytconjkgifdfhdaa
