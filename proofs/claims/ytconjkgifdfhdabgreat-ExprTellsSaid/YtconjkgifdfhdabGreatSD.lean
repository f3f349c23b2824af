/- What the functions compute; printed by expr.py. -/
import Derived.Test.YtconjkgifdfhdabGreatB
set_option linter.all false
set_option maxRecDepth 100000
namespace Go.Proofs.YtconjkgifdfhdabGreat
open Go Go.RowKit Go.Eng Go.EV
theorem si {α : Type} {a b : α} (h : some a = some b) : a = b := Option.some.inj h
theorem kr {α : Sort _} {a b : α} (h : a = b := by kernel_rfl) : a = b := h
abbrev nT := @nrm_thenV
abbrev vT := @vr_text
abbrev oN := @ov_nil
abbrev vS := @v_seq
abbrev oR := @o_runs
abbrev bS := @bind_some
abbrev vK := @v_skip
abbrev oP := @o_pure
abbrev rT := @ret_thenV
abbrev rB := @ret_blkV
abbrev nB := @nrm_blkV
abbrev vB := @v_block
abbrev mI (l : List Int) := List.map EV.encI l
abbrev mS (l : List (List UInt8)) := List.map EV.encS l
abbrev mB (l : List Bool) := List.map EV.encB l
abbrev mM {α : Type} (f : α → List V) (l : List α) := List.map f l
abbrev ub : Nat := IntKind.u64.bits
abbrev uw (n : Int) : Int := IntKind.u64.wrap n
theorem bG {p : Prop} [Decidable p] {β : Type} {f : Unit → Option β} {r : β} (h : (grd p).bind f = some r) : p ∧ f () = some r := by
  obtain ⟨u, h1, h2⟩ := bind_some h; exact ⟨grd_some h1, h2⟩
theorem bE {α β : Type} {x : α} {f : α → Option β} {r : β} (h : (some x).bind f = some r) : ∃ a, x = a ∧ f a = some r := ⟨x, rfl, h⟩
abbrev Sr : Type := List UInt8
abbrev eB := encL 1 EV.encB
abbrev eI := encL 1 EV.encI
abbrev mLB (l : List (List Bool)) := List.map eB l
abbrev mLI (l : List (List Int)) := List.map eI l
abbrev uR {α β : Type} (l : List α) (x : β) := List.replicate (Int.toNat (List.length l : Int)) x
theorem lM {α β : Type} {l : List α} {f : α → β} : (List.map f l).length = l.length := List.length_map ..
abbrev pL (a : List Def) (b : List Table) (c : List Zone) (d : List Rule) (e : List Cap) (f : List View) (g : List Point3) (h : Int) : List V := [.vs 6 (mM enc_Def a), .vs 3 (mM enc_Table b), .vs 3 (mM enc_Zone c), .vs 20 (mM enc_Rule d), .vs 4 (mM enc_Cap e), .vs 6 (mM enc_View f), .vs 3 (mM enc_Point3 g), .int .i64 h]
abbrev uL (x : Int) : Int := uw ((BitVec.ofInt ub x &&& BitVec.ofInt ub 4294967295).toNat : Int)
abbrev uH (x : Int) : Int := Int.fdiv x (2 ^ (min (32 : Int).toNat ub))
theorem lh {a b : Nat} (h : a = b := by first | (simp only [List.length_map, List.length_set, cpyT_length]; done) | rfl) : a = b := h
abbrev oB := @Option.bind_some
abbrev dT := @decide_eq_true
abbrev dF := @decide_eq_false
abbrev cT := @cond_true
abbrev cF := @cond_false
abbrev ls0 : List UInt8 := ([97, 114, 101, 97] : List UInt8)
abbrev ls1 : List UInt8 := ([99, 111, 118, 101, 114] : List UInt8)
abbrev ls2 : List UInt8 := ([102, 108, 111, 111, 114] : List UInt8)
abbrev ls3 : List UInt8 := ([102, 108, 111, 111, 114, 115] : List UInt8)
abbrev ls4 : List UInt8 := ([104, 101, 105, 103, 104, 116] : List UInt8)
abbrev ls5 : List UInt8 := ([104, 111, 109, 101, 115] : List UInt8)
abbrev ls6 : List UInt8 := ([114, 117, 110, 111, 102, 102] : List UInt8)
abbrev ls7 : List UInt8 := ([115, 101, 116, 98, 97, 99, 107] : List UInt8)
abbrev ls8 : List UInt8 := ([116, 114, 97, 102, 102, 105, 99] : List UInt8)
abbrev ls9 : List UInt8 := ([99, 111, 114, 101] : List UInt8)
abbrev ls10 : List UInt8 := ([116, 97, 108, 108] : List UInt8)
abbrev bx0 : Nat × Go.EV.Obj := (1000003, .box 38 [.fn 23 [] [.ptr 1000000 0 0, .ptr 1000002 0 0, .ptr 1000003 0 0]])
abbrev bx1 : Nat × Go.EV.Obj := (10, .box 38 [.fn 23 [] [.ptr 7 0 0, .ptr 3 0 0, .ptr 10 0 0]])
abbrev lq0 : List (List UInt8) := [([97, 114, 101, 97] : List UInt8), ([99, 111, 118, 101, 114] : List UInt8), ([102, 108, 111, 111, 114] : List UInt8), ([102, 108, 111, 111, 114, 115] : List UInt8), ([104, 101, 105, 103, 104, 116] : List UInt8), ([104, 111, 109, 101, 115] : List UInt8), ([114, 117, 110, 111, 102, 102] : List UInt8), ([115, 101, 116, 98, 97, 99, 107] : List UInt8), ([116, 114, 97, 102, 102, 105, 99] : List UInt8)]
/-- The fuel of loops and recursions. -/
class Fuel where
  n : Nat
  big : 18446744073709551616 ≤ n
def KK [Fuel] : Nat := Fuel.n
section
variable [Fuel]
def s_gl17_num (n : Int) : Option Expr :=
  some (Expr.mk 0 n [] [] [])
def s_gl17_op (kind : Int) (args : (List Expr)) : Option Expr :=
  some (Expr.mk kind 0 [] [] args)
def s_gl17_name (s : (List UInt8)) : Option Expr :=
  some (Expr.mk 1 0 s [] [])
def s_expr_arity (op : Int) : Option (Int × Bool) :=
  ((bif (decide (op = 0)) then some (decide (op = 0)) else (bif (decide (op = 1)) then some (decide (op = 1)) else (bif (decide (op = 2)) then some (decide (op = 2)) else some (decide (op = 3)))))).bind fun v1 => (bif v1 then some (0, true) else ((bif (decide (op = 9)) then some (decide (op = 9)) else some (decide (op = 15)))).bind fun v2 => (bif v2 then some (1, true) else (bif (decide (op = 16)) then some (3, true) else ((bif (decide (op ≥ 0)) then some (decide (op < 17)) else some false)).bind fun v3 => some (2, v3))))
def s_expr_levels_L1 (rec_expr_levels : Expr → Int → Option Int) (e : Expr) (above : Int) : Nat → (Int × Int) → Option Int
  | 0, _ => none
  | K1 + 1, q1 => (bif (decide (q1.2 < (List.length e.Args : Int))) then (idx e.Args q1.2).bind fun x1 => (rec_expr_levels x1 (w64 (above + 1))).bind fun y2 => (s_expr_levels_L1 rec_expr_levels e above) K1 ((max q1.1 y2), (w64 (q1.2 + 1))) else some q1.1)
def s_expr_levels : Nat → Expr → Int → Option Int
  | 0, _, _ => none
  | nF + 1, e, above => (s_expr_arity e.Op).bind fun y1 => ((bif (!y1.2) then some true else (bif (!(decide (y1.1 = (List.length e.Args : Int)))) then some true else some (decide (above ≥ 12))))).bind fun v1 => (bif v1 then some 13 else ((s_expr_levels_L1 (s_expr_levels nF) e above) KK (0, 0)).bind fun v2 => some (w64 (v2 + 1)))
def s_expr_Right (e : Expr) : Option Bool :=
  (s_expr_levels KK e 0).bind fun y1 => some (decide (y1 ≤ 12))
def s_define_Measures  : Option (List (List UInt8)) :=
  some [([97, 114, 101, 97] : List UInt8), ([99, 111, 118, 101, 114] : List UInt8), ([102, 108, 111, 111, 114] : List UInt8), ([102, 108, 111, 111, 114, 115] : List UInt8), ([104, 101, 105, 103, 104, 116] : List UInt8), ([104, 111, 109, 101, 115] : List UInt8), ([114, 117, 110, 111, 102, 102] : List UInt8), ([115, 101, 116, 98, 97, 99, 107] : List UInt8), ([116, 114, 97, 102, 102, 105, 99] : List UInt8)]
def s_define_names (e : Expr) : Option (Int × Int × (List UInt8) × (List UInt8) × (List Expr)) :=
  some (e.Op, e.N, e.S, e.Key, e.Args)
def s_maps_Keys (m_ : (List ((List UInt8) × Bool))) : Option Unit :=
  some ()
def s_define_Names_L1  : List (List UInt8) → (List ((List UInt8) × Bool)) → Option (List ((List UInt8) × Bool))
  | [], q1 => some q1
  | x1 :: xs1, q1 => s_define_Names_L1 xs1 (mset x1 true q1)
def s_define_Names (e : Expr) : Option (List (List UInt8)) :=
  (s_define_names e).bind fun y1 => (s_define_Names_L1 (namesL (Expr.mk y1.1 y1.2.1 y1.2.2.1 y1.2.2.2.1 y1.2.2.2.2)) []).bind fun v1 => (s_maps_Keys v1).bind fun y2 => (grd ((List.map (·.1) v1).Nodup ∧ (∀ k ∈ List.map (·.1) v1, List.length k ≤ 9223372036854775807) ∧ List.length v1 * 16 ≤ 140737488355328)).bind fun _ => some (sortKeys v1)
def s_define_newGraph_L1 (l : (List Def)) : Nat → (Int × (List ((List UInt8) × Int))) → Option (List ((List UInt8) × Int))
  | 0, _ => none
  | K1 + 1, q1 => (bif (decide (q1.1 < (List.length l : Int))) then (idx l q1.1).bind fun x1 => (s_define_newGraph_L1 l) K1 ((w64 (q1.1 + 1)), (mset x1.Name q1.1 q1.2)) else some q1.2)
def s_define_newGraph_L3 (v1 : (List ((List UInt8) × Int))) (y1 : (List (List UInt8))) (q2 : (Int × (List (List Int)))) : Nat → (Int × (List (List Int))) → Option (List (List Int))
  | 0, _ => none
  | K3 + 1, q3 => (bif (decide (q3.1 < (List.length y1 : Int))) then (idx y1 q3.1).bind fun x3 => ((bif (Option.isSome (mfind x3 v1)) then (grd (0 ≤ q2.1 ∧ q2.1 < ((List.length q3.2) : Nat))).bind fun _ => (some (q3.2.getD (Int.toNat q2.1) default)).bind fun e1 => (grd ((List.length (e1 ++ [(Option.getD (mfind x3 v1) 0)])) * 8 ≤ 140737488355328)).bind fun _ => (grd (0 ≤ q2.1 ∧ q2.1 < ((List.length q3.2) : Nat))).bind fun _ => some (List.set q3.2 (Int.toNat q2.1) (e1 ++ [(Option.getD (mfind x3 v1) 0)])) else some q3.2)).bind fun v4 => (s_define_newGraph_L3 v1 y1 q2) K3 ((w64 (q3.1 + 1)), v4) else some q3.2)
def s_define_newGraph_L2 (l : (List Def)) (v1 : (List ((List UInt8) × Int))) : Nat → (Int × (List (List Int))) → Option (List (List Int))
  | 0, _ => none
  | K2 + 1, q2 => (bif (decide (q2.1 < (List.length l : Int))) then (idx l q2.1).bind fun x2 => (s_define_Names x2.Body).bind fun y1 => ((s_define_newGraph_L3 v1 y1 q2) KK (0, q2.2)).bind fun v3 => (s_define_newGraph_L2 l v1) K2 ((w64 (q2.1 + 1)), v3) else some q2.2)
def s_define_newGraph (l : (List Def)) : Option ((List Def) × (List (List Int))) :=
  ((s_define_newGraph_L1 l) KK (0, [])).bind fun v1 => (grd (0 ≤ (List.length l : Int) ∧ (List.length l : Int) * 24 ≤ 281474976710656 ∧ (List.length l : Int) ≤ 9223372036854775807)).bind fun _ => ((s_define_newGraph_L2 l v1) KK (0, (List.replicate (Int.toNat (List.length l : Int)) ([] : List Int)))).bind fun v2 => some (l, v2)
def s_bits_Mul64 (x : Int) (y : Int) : Option (Int × Int) :=
  some ((IntKind.u64.wrap ((IntKind.u64.wrap ((IntKind.u64.wrap ((Int.fdiv x (2 ^ (min (32 : Int).toNat IntKind.u64.bits))) * (Int.fdiv y (2 ^ (min (32 : Int).toNat IntKind.u64.bits))))) + (Int.fdiv (IntKind.u64.wrap ((IntKind.u64.wrap ((Int.fdiv x (2 ^ (min (32 : Int).toNat IntKind.u64.bits))) * (IntKind.u64.wrap ((BitVec.ofInt IntKind.u64.bits y &&& BitVec.ofInt IntKind.u64.bits 4294967295).toNat : Int)))) + (Int.fdiv (IntKind.u64.wrap ((IntKind.u64.wrap ((BitVec.ofInt IntKind.u64.bits x &&& BitVec.ofInt IntKind.u64.bits 4294967295).toNat : Int)) * (IntKind.u64.wrap ((BitVec.ofInt IntKind.u64.bits y &&& BitVec.ofInt IntKind.u64.bits 4294967295).toNat : Int)))) (2 ^ (min (32 : Int).toNat IntKind.u64.bits))))) (2 ^ (min (32 : Int).toNat IntKind.u64.bits))))) + (Int.fdiv (IntKind.u64.wrap ((IntKind.u64.wrap ((BitVec.ofInt IntKind.u64.bits (IntKind.u64.wrap ((IntKind.u64.wrap ((Int.fdiv x (2 ^ (min (32 : Int).toNat IntKind.u64.bits))) * (IntKind.u64.wrap ((BitVec.ofInt IntKind.u64.bits y &&& BitVec.ofInt IntKind.u64.bits 4294967295).toNat : Int)))) + (Int.fdiv (IntKind.u64.wrap ((IntKind.u64.wrap ((BitVec.ofInt IntKind.u64.bits x &&& BitVec.ofInt IntKind.u64.bits 4294967295).toNat : Int)) * (IntKind.u64.wrap ((BitVec.ofInt IntKind.u64.bits y &&& BitVec.ofInt IntKind.u64.bits 4294967295).toNat : Int)))) (2 ^ (min (32 : Int).toNat IntKind.u64.bits))))) &&& BitVec.ofInt IntKind.u64.bits 4294967295).toNat : Int)) + (IntKind.u64.wrap ((IntKind.u64.wrap ((BitVec.ofInt IntKind.u64.bits x &&& BitVec.ofInt IntKind.u64.bits 4294967295).toNat : Int)) * (Int.fdiv y (2 ^ (min (32 : Int).toNat IntKind.u64.bits))))))) (2 ^ (min (32 : Int).toNat IntKind.u64.bits))))), (IntKind.u64.wrap (x * y)))
def s_bits_Mul (x : Int) (y : Int) : Option (Int × Int) :=
  (s_bits_Mul64 x y).bind fun y1 => some (y1.1, y1.2)
def s_slices_Repeat_L1  : Nat → (Int × (List Int)) → Option (List Int)
  | 0, _ => none
  | K1 + 1, q1 => (bif (decide (q1.1 < ((q1.2).length : Int))) then (grd (0 ≤ q1.1 ∧ q1.1 ≤ ((q1.2).length : Int) ∧ ((q1.2).length : Int) ≤ ((q1.2).length : Nat))).bind fun _ => (grd (0 ≤ (0 : Int) ∧ (0 : Int) ≤ q1.1 ∧ q1.1 ≤ ((q1.2).length : Nat))).bind fun _ => s_slices_Repeat_L1 K1 ((w64 (q1.1 + (((min (Int.toNat q1.1 - Int.toNat 0) (Int.toNat ((q1.2).length : Int) - Int.toNat q1.1)) : Nat) : Int))), (cpyT q1.2 (Int.toNat q1.1) (List.take (min (Int.toNat q1.1 - Int.toNat 0) (Int.toNat ((q1.2).length : Int) - Int.toNat q1.1)) (List.take (Int.toNat q1.1 - Int.toNat 0) (List.drop (Int.toNat 0) q1.2))))) else some q1.2)
def s_slices_Repeat (x : (List Int)) (count : Int) : Option (List Int) :=
  (bif (decide (count < 0)) then none else (s_bits_Mul (IntKind.u64.wrap ((List.length x : Int))) (IntKind.u64.wrap (count))).bind fun y1 => ((bif (decide (y1.1 > 0)) then some true else some (decide (y1.2 > 9223372036854775807)))).bind fun v1 => (bif v1 then none else (grd (0 ≤ (w64 (y1.2)) ∧ (w64 (y1.2)) * 8 ≤ 281474976710656 ∧ (w64 (y1.2)) ≤ 9223372036854775807)).bind fun _ => (s_slices_Repeat_L1 KK ((((min (List.length x) (((List.replicate (Int.toNat (w64 (y1.2))) (0 : Int))).length)) : Nat) : Int), (cpyT (List.replicate (Int.toNat (w64 (y1.2))) (0 : Int)) 0 (List.take (min (List.length x) (((List.replicate (Int.toNat (w64 (y1.2))) (0 : Int))).length)) x)))).bind fun v2 => some v2))
def s_slices_Index_L1 (s : (List Int)) (v : Int) : Nat → Int → Option (Int ⊕ Unit)
  | 0, _ => none
  | K1 + 1, q1 => (bif (decide (q1 < (List.length s : Int))) then (idx s q1).bind fun x1 => (bif (decide (v = x1)) then some (.inl q1) else (s_slices_Index_L1 s v) K1 (w64 (q1 + 1))) else some (.inr ()))
def s_slices_Index (s : (List Int)) (v : Int) : Option Int :=
  ((s_slices_Index_L1 s v) KK 0 : Option (Int ⊕ Unit)).bind fun z1 => match z1 with
 | .inl r => some r
 | .inr v1 => some (-1)
def s_slices_Contains (s : (List Int)) (v : Int) : Option Bool :=
  (s_slices_Index s v).bind fun y1 => some (decide (y1 ≥ 0))
def s_define_graph_distances_L2 (g_uses : (List (List Int))) (e2 : Int) : Nat → (Int × (List Int) × Nat × (List Int)) → Option ((List Int) × Nat × (List Int))
  | 0, _ => none
  | K2 + 1, q2 => (bif (decide (q2.1 < (List.length g_uses : Int))) then (idx g_uses q2.1).bind fun x1 => ((grd (0 ≤ q2.1 ∧ q2.1 < ((q2.2.2.2).length : Nat))).bind fun _ => (some (q2.2.2.2.getD (Int.toNat q2.1) default)).bind fun e3 => (bif (decide (e3 < 0)) then (s_slices_Contains x1 e2).bind fun y2 => some (y2, q2.2.1, q2.2.2.1) else some (false, q2.2.1, q2.2.2.1))).bind fun v3 => ((bif v3.1 then (grd (0 ≤ e2 ∧ e2 < ((q2.2.2.2).length : Nat))).bind fun _ => (some (q2.2.2.2.getD (Int.toNat e2) default)).bind fun e4 => (grd (0 ≤ q2.1 ∧ q2.1 < ((q2.2.2.2).length : Nat))).bind fun _ => (some (q2.2.2.2.getD (Int.toNat q2.1) default)).bind fun e5 => (grd ((List.length (v3.2.1 ++ [q2.1])) * 8 ≤ 140737488355328)).bind fun _ => some ((v3.2.1 ++ [q2.1]), (v3.2.2 + 1), (List.set q2.2.2.2 (Int.toNat q2.1) (w64 (e4 + 1)))) else some (v3.2.1, v3.2.2, q2.2.2.2))).bind fun v4 => (s_define_graph_distances_L2 g_uses e2) K2 ((w64 (q2.1 + 1)), v4.1, v4.2.1, v4.2.2) else some (q2.2.1, q2.2.2.1, q2.2.2.2))
def s_define_graph_distances_L1 (g_uses : (List (List Int))) : Nat → ((List Int) × Nat × (List Int)) → Option (List Int)
  | 0, _ => none
  | K1 + 1, q1 => (bif (decide (((List.length q1.1) : Int) > 0)) then (grd (0 ≤ (0 : Int) ∧ (0 : Int) < ((List.length q1.1) : Nat))).bind fun _ => (some (q1.1.getD (Int.toNat 0) default)).bind fun e2 => (grd (1 ≤ (List.length q1.1))).bind fun _ => ((s_define_graph_distances_L2 g_uses e2) KK (0, (List.drop 1 q1.1), (q1.2.1 + 1), q1.2.2)).bind fun v2 => (s_define_graph_distances_L1 g_uses) K1 (v2.1, v2.2.1, v2.2.2) else some q1.2.2)
def s_define_graph_distances (g_defs : (List Def)) (g_uses : (List (List Int))) (to : Int) : Option ((List Int) × (List Def) × (List (List Int))) :=
  (s_slices_Repeat [(-1)] (List.length g_defs : Int)).bind fun y1 => (grd (0 ≤ to ∧ to < ((y1).length : Nat))).bind fun _ => (some (y1.getD (Int.toNat to) default)).bind fun e1 => ((s_define_graph_distances_L1 g_uses) KK ([to], 1, (List.set y1 (Int.toNat to) 0))).bind fun v1 => some (v1, g_defs, g_uses)
def s_define_graph_circle_L2 (y1 : ((List Int) × (List Def) × (List (List Int)))) (x2 : (List Int)) : Nat → (Int × Int) → Option Int
  | 0, _ => none
  | K2 + 1, q2 => (bif (decide (q2.2 < (List.length x2 : Int))) then (idx x2 q2.2).bind fun x3 => ((idx y1.1 x3).bind fun x4 => (bif (decide (x4 ≥ 0)) then (bif (decide (q2.1 < 0)) then some true else (idx y1.1 x3).bind fun x5 => (idx y1.1 q2.1).bind fun x6 => some (decide (x5 < x6))) else some false)).bind fun v3 => ((bif v3 then some x3 else some q2.1)).bind fun v4 => (s_define_graph_circle_L2 y1 x2) K2 (v4, (w64 (q2.2 + 1))) else some q2.1)
def s_define_graph_circle_L1 (from_ : Int) (y1 : ((List Int) × (List Def) × (List (List Int)))) : Nat → (Int × (List (List UInt8))) → Option (((List (List UInt8)) × (List Def) × (List (List Int))) ⊕ Unit)
  | 0, _ => none
  | K1 + 1, q1 => (idx y1.2.1 q1.1).bind fun x1 => (grd (((q1.2 ++ [x1.Name])).length * 16 ≤ 140737488355328)).bind fun _ => (idx y1.2.2 q1.1).bind fun x2 => ((s_define_graph_circle_L2 y1 x2) KK ((-1), 0)).bind fun v2 => (bif (decide (v2 < 0)) then some (.inl ([], y1.2.1, y1.2.2)) else (bif (decide (v2 = from_)) then (grd (List.isEmpty (q1.2 ++ [x1.Name]) = false)).bind fun _ => some (.inl ((q1.2 ++ [x1.Name]), y1.2.1, y1.2.2)) else (s_define_graph_circle_L1 from_ y1) K1 (v2, (q1.2 ++ [x1.Name]))))
def s_define_graph_circle (g_defs : (List Def)) (g_uses : (List (List Int))) (from_ : Int) : Option ((List (List UInt8)) × (List Def) × (List (List Int))) :=
  (s_define_graph_distances g_defs g_uses from_).bind fun y1 => ((s_define_graph_circle_L1 from_ y1) KK (from_, []) : Option (((List (List UInt8)) × (List Def) × (List (List Int))) ⊕ Unit)).bind fun z1 => match z1 with
 | .inl r => some r
 | .inr _ => none
def s_cmp_isNaN (x : (List UInt8)) : Option Bool :=
  some (!(decide (x = x)))
def s_cmp_Compare (x : (List UInt8)) (y : (List UInt8)) : Option Int :=
  (s_cmp_isNaN x).bind fun y1 => (s_cmp_isNaN y).bind fun y2 => (bif y1 then (bif y2 then some 0 else some (-1)) else (bif y2 then some 1 else (bif (Op.bytesLess x y) then some (-1) else (bif (!((Op.bytesLess x y) || (decide (x = y)))) then some 1 else some 0))))
def s_slices_Compare_L1 (s1 : (List (List UInt8))) (s2 : (List (List UInt8))) : Nat → Int → Option (Int ⊕ Unit)
  | 0, _ => none
  | K1 + 1, q1 => (bif (decide (q1 < (List.length s1 : Int))) then (idx s1 q1).bind fun x1 => (bif (decide (q1 ≥ (List.length s2 : Int))) then some (.inl 1) else (idx s2 q1).bind fun x2 => (s_cmp_Compare x1 x2).bind fun y1 => (bif (!(decide (y1 = 0))) then some (.inl y1) else (s_slices_Compare_L1 s1 s2) K1 (w64 (q1 + 1)))) else some (.inr ()))
def s_slices_Compare (s1 : (List (List UInt8))) (s2 : (List (List UInt8))) : Option Int :=
  ((s_slices_Compare_L1 s1 s2) KK 0 : Option (Int ⊕ Unit)).bind fun z1 => match z1 with
 | .inl r => some r
 | .inr v1 => (bif (decide ((List.length s1 : Int) < (List.length s2 : Int))) then some (-1) else some 0)
def s_define_graph_smallest_L1 (g_defs : (List Def)) : Nat → ((List (List UInt8)) × Int × (List Def) × (List (List Int))) → Option ((List (List UInt8)) × (List Def) × (List (List Int)))
  | 0, _ => none
  | K1 + 1, q1 => (bif (decide (q1.2.1 < (List.length g_defs : Int))) then ((s_define_graph_circle q1.2.2.1 q1.2.2.2 q1.2.1).bind fun y1 => (bif (List.isEmpty y1.1) then some (q1.1, y1.2.1, y1.2.2) else ((bif (List.isEmpty q1.1) then some (q1.1, y1.1, true) else (bif (decide ((List.length y1.1 : Int) < (List.length q1.1 : Int))) then some (q1.1, y1.1, true) else (bif (decide ((List.length y1.1 : Int) = (List.length q1.1 : Int))) then (s_slices_Compare y1.1 q1.1).bind fun y2 => some (q1.1, y1.1, (decide (y2 < 0))) else some (q1.1, y1.1, false))))).bind fun v3 => ((bif v3.2.2 then some v3.2.1 else some v3.1)).bind fun v4 => some (v4, y1.2.1, y1.2.2))).bind fun v2 => (s_define_graph_smallest_L1 g_defs) K1 (v2.1, (w64 (q1.2.1 + 1)), v2.2.1, v2.2.2) else some (q1.1, q1.2.2.1, q1.2.2.2))
def s_define_graph_smallest (g_defs : (List Def)) (g_uses : (List (List Int))) : Option ((List (List UInt8)) × (List Def) × (List (List Int))) :=
  ((s_define_graph_smallest_L1 g_defs) KK ([], 0, g_defs, g_uses)).bind fun v1 => some (v1.1, v1.2.1, v1.2.2)
def s_define_graph_order_1 (k : Int) (a1 : (List Bool)) : Option (Bool × (List Bool)) :=
  (grd (0 ≤ k ∧ k < ((a1).length : Nat))).bind fun _ => (some (a1.getD (Int.toNat k) default)).bind fun e1 => some ((!e1), a1)
def s_slices_IndexFunc_L1 (s : (List Int)) : Nat → (Int × (List Bool)) → Option ((Int × (List Bool)) ⊕ (List Bool))
  | 0, _ => none
  | K1 + 1, q1 => (bif (decide (q1.1 < (List.length s : Int))) then (idx s q1.1).bind fun x1 => (s_define_graph_order_1 x1 q1.2).bind fun y1 => (bif y1.1 then some (.inl (q1.1, y1.2)) else (s_slices_IndexFunc_L1 s) K1 ((w64 (q1.1 + 1)), y1.2)) else some (.inr q1.2))
def s_slices_IndexFunc (s : (List Int)) (k : (List Bool)) : Option (Int × (List Bool)) :=
  ((s_slices_IndexFunc_L1 s) KK (0, k) : Option ((Int × (List Bool)) ⊕ (List Bool))).bind fun z1 => match z1 with
 | .inl r => some r
 | .inr v1 => some ((-1), v1)
def s_slices_ContainsFunc (s : (List Int)) (k : (List Bool)) : Option (Bool × (List Bool)) :=
  (s_slices_IndexFunc s k).bind fun y1 => some ((decide (y1.1 ≥ 0)), y1.2)
def s_define_graph_order_L2 (g_defs : (List Def)) (g_uses : (List (List Int))) : Nat → (Int × Int × (List Bool)) → Option (Int × (List Bool))
  | 0, _ => none
  | K2 + 1, q2 => (bif (decide (q2.2.1 < (List.length g_uses : Int))) then (idx g_uses q2.2.1).bind fun x1 => (s_slices_ContainsFunc x1 q2.2.2).bind fun y1 => ((grd (0 ≤ q2.2.1 ∧ q2.2.1 < ((y1.2).length : Nat))).bind fun _ => (some (y1.2.getD (Int.toNat q2.2.1) default)).bind fun e1 => (bif (!e1) then (bif (!y1.1) then (bif (decide (q2.1 < 0)) then some true else (idx g_defs q2.2.1).bind fun x2 => (idx g_defs q2.1).bind fun x3 => some (Op.bytesLess x2.Name x3.Name)) else some false) else some false)).bind fun v3 => ((bif v3 then some q2.2.1 else some q2.1)).bind fun v4 => (s_define_graph_order_L2 g_defs g_uses) K2 (v4, (w64 (q2.2.1 + 1)), y1.2) else some (q2.1, q2.2.2))
def s_define_graph_order_L1 (g_defs : (List Def)) (g_uses : (List (List Int))) : Nat → (Int × (List Bool) × (List Int)) → Option (List Int)
  | 0, _ => none
  | K1 + 1, q1 => (bif (decide (q1.1 < (List.length g_defs : Int))) then ((s_define_graph_order_L2 g_defs g_uses) KK ((-1), 0, q1.2.1)).bind fun v2 => (grd (0 ≤ v2.1 ∧ v2.1 < ((v2.2).length : Nat))).bind fun _ => (some (v2.2.getD (Int.toNat v2.1) default)).bind fun e2 => (grd (((q1.2.2 ++ [v2.1])).length * 8 ≤ 140737488355328)).bind fun _ => (s_define_graph_order_L1 g_defs g_uses) K1 ((w64 (q1.1 + 1)), (List.set v2.2 (Int.toNat v2.1) true), (q1.2.2 ++ [v2.1])) else some q1.2.2)
def s_define_graph_order (g_defs : (List Def)) (g_uses : (List (List Int))) : Option ((List Int) × (List Def) × (List (List Int))) :=
  (grd (0 ≤ (List.length g_defs : Int) ∧ (List.length g_defs : Int) * 1 ≤ 281474976710656 ∧ (List.length g_defs : Int) ≤ 9223372036854775807)).bind fun _ => ((s_define_graph_order_L1 g_defs g_uses) KK (0, (List.replicate (Int.toNat (List.length g_defs : Int)) (false : Bool)), [])).bind fun v1 => some (v1, g_defs, g_uses)
def s_define_Order_L1 (y1 : (List (List UInt8))) : Nat → (Int × (List ((List UInt8) × Bool))) → Option (List ((List UInt8) × Bool))
  | 0, _ => none
  | K1 + 1, q1 => (bif (decide (q1.1 < (List.length y1 : Int))) then (idx y1 q1.1).bind fun x1 => (s_define_Order_L1 y1) K1 ((w64 (q1.1 + 1)), (mset x1 true q1.2)) else some q1.2)
def s_define_Order_L2 (p : Plan) : Nat → (Int × (List ((List UInt8) × Bool))) → Option (((List Int) × (List (List UInt8)) × Int) ⊕ Unit)
  | 0, _ => none
  | K2 + 1, q2 => (bif (decide (q2.1 < (List.length p.Defs : Int))) then (idx p.Defs q2.1).bind fun x2 => (bif (Option.getD (mfind x2.Name q2.2) false) then some (.inl ([], [], 5)) else (s_define_Order_L2 p) K2 ((w64 (q2.1 + 1)), (mset x2.Name true q2.2))) else some (.inr ()))
def s_define_Order (p : Plan) : Option ((List Int) × (List (List UInt8)) × Int) :=
  (s_define_Measures ).bind fun y1 => ((s_define_Order_L1 y1) KK (0, [])).bind fun v1 => ((s_define_Order_L2 p) KK (0, v1) : Option (((List Int) × (List (List UInt8)) × Int) ⊕ Unit)).bind fun z2 => match z2 with
 | .inl r => some r
 | .inr v2 => (s_define_newGraph p.Defs).bind fun y2 => (s_define_graph_smallest y2.1 y2.2).bind fun y3 => (bif (!(List.isEmpty y3.1)) then some ([], y3.1, 16) else (s_define_graph_order y3.2.1 y3.2.2).bind fun y4 => some (y4.1, [], 0))
def s_expr_context_row_1 (t : Table) (a1_Op : Int) (a1_N : Int) (a1_S : (List UInt8)) (a1_Key : (List UInt8)) (a1_Args : (List Expr)) : Option (Bool × Int × Int × (List UInt8) × (List UInt8) × (List Expr)) :=
  some ((decide (t.Name = a1_S)), a1_Op, a1_N, a1_S, a1_Key, a1_Args)
def s_slices_IndexFunc_2_L1 (s : (List Table)) : Nat → (Int × Int × Int × (List UInt8) × (List UInt8) × (List Expr)) → Option ((Int × Int × Int × (List UInt8) × (List UInt8) × (List Expr)) ⊕ (Int × Int × (List UInt8) × (List UInt8) × (List Expr)))
  | 0, _ => none
  | K1 + 1, q1 => (bif (decide (q1.1 < (List.length s : Int))) then (idx s q1.1).bind fun x1 => (s_expr_context_row_1 x1 q1.2.1 q1.2.2.1 q1.2.2.2.1 q1.2.2.2.2.1 q1.2.2.2.2.2).bind fun y1 => (bif y1.1 then some (.inl (q1.1, y1.2.1, y1.2.2.1, y1.2.2.2.1, y1.2.2.2.2.1, y1.2.2.2.2.2)) else (s_slices_IndexFunc_2_L1 s) K1 ((w64 (q1.1 + 1)), y1.2.1, y1.2.2.1, y1.2.2.2.1, y1.2.2.2.2.1, y1.2.2.2.2.2)) else some (.inr (q1.2.1, q1.2.2.1, q1.2.2.2.1, q1.2.2.2.2.1, q1.2.2.2.2.2)))
def s_slices_IndexFunc_2 (s : (List Table)) (t_Op : Int) (t_N : Int) (t_S : (List UInt8)) (t_Key : (List UInt8)) (t_Args : (List Expr)) : Option (Int × Int × Int × (List UInt8) × (List UInt8) × (List Expr)) :=
  ((s_slices_IndexFunc_2_L1 s) KK (0, t_Op, t_N, t_S, t_Key, t_Args) : Option ((Int × Int × Int × (List UInt8) × (List UInt8) × (List Expr)) ⊕ (Int × Int × (List UInt8) × (List UInt8) × (List Expr)))).bind fun z1 => match z1 with
 | .inl r => some r
 | .inr v1 => some ((-1), v1.1, v1.2.1, v1.2.2.1, v1.2.2.2.1, v1.2.2.2.2)
def s_expr_context_row_2 (r_ : Entry) (a1_Op : Int) (a1_N : Int) (a1_S : (List UInt8)) (a1_Key : (List UInt8)) (a1_Args : (List Expr)) : Option (Bool × Int × Int × (List UInt8) × (List UInt8) × (List Expr)) :=
  some ((decide (r_.Name = a1_Key)), a1_Op, a1_N, a1_S, a1_Key, a1_Args)
def s_slices_IndexFunc_3_L1 (s : (List Entry)) : Nat → (Int × Int × Int × (List UInt8) × (List UInt8) × (List Expr)) → Option ((Int × Int × Int × (List UInt8) × (List UInt8) × (List Expr)) ⊕ (Int × Int × (List UInt8) × (List UInt8) × (List Expr)))
  | 0, _ => none
  | K1 + 1, q1 => (bif (decide (q1.1 < (List.length s : Int))) then (idx s q1.1).bind fun x1 => (s_expr_context_row_2 x1 q1.2.1 q1.2.2.1 q1.2.2.2.1 q1.2.2.2.2.1 q1.2.2.2.2.2).bind fun y1 => (bif y1.1 then some (.inl (q1.1, y1.2.1, y1.2.2.1, y1.2.2.2.1, y1.2.2.2.2.1, y1.2.2.2.2.2)) else (s_slices_IndexFunc_3_L1 s) K1 ((w64 (q1.1 + 1)), y1.2.1, y1.2.2.1, y1.2.2.2.1, y1.2.2.2.2.1, y1.2.2.2.2.2)) else some (.inr (q1.2.1, q1.2.2.1, q1.2.2.2.1, q1.2.2.2.2.1, q1.2.2.2.2.2)))
def s_slices_IndexFunc_3 (s : (List Entry)) (r_Op : Int) (r_N : Int) (r_S : (List UInt8)) (r_Key : (List UInt8)) (r_Args : (List Expr)) : Option (Int × Int × Int × (List UInt8) × (List UInt8) × (List Expr)) :=
  ((s_slices_IndexFunc_3_L1 s) KK (0, r_Op, r_N, r_S, r_Key, r_Args) : Option ((Int × Int × Int × (List UInt8) × (List UInt8) × (List Expr)) ⊕ (Int × Int × (List UInt8) × (List UInt8) × (List Expr)))).bind fun z1 => match z1 with
 | .inl r => some r
 | .inr v1 => some ((-1), v1.1, v1.2.1, v1.2.2.1, v1.2.2.2.1, v1.2.2.2.2)
def s_expr_context_row (c_plan : Plan) (c_known : (List ((List UInt8) × Int))) (c_zones : (List (List UInt8))) (e : Expr) : Option Int :=
  (s_slices_IndexFunc_2 c_plan.Tables e.Op e.N e.S e.Key e.Args).bind fun y1 => (bif (decide (y1.1 < 0)) then some 0 else (idx c_plan.Tables y1.1).bind fun x1 => (s_slices_IndexFunc_3 x1.Rows y1.2.1 y1.2.2.1 y1.2.2.2.1 y1.2.2.2.2.1 y1.2.2.2.2.2).bind fun y2 => (bif (decide (y2.1 ≥ 0)) then (idx x1.Rows y2.1).bind fun x2 => some x2.N else some x1.Else))
def s_slices_Index_2_L1 (s : (List (List UInt8))) (v : (List UInt8)) : Nat → Int → Option (Int ⊕ Unit)
  | 0, _ => none
  | K1 + 1, q1 => (bif (decide (q1 < (List.length s : Int))) then (idx s q1).bind fun x1 => (bif (decide (v = x1)) then some (.inl q1) else (s_slices_Index_2_L1 s v) K1 (w64 (q1 + 1))) else some (.inr ()))
def s_slices_Index_2 (s : (List (List UInt8))) (v : (List UInt8)) : Option Int :=
  ((s_slices_Index_2_L1 s v) KK 0 : Option (Int ⊕ Unit)).bind fun z1 => match z1 with
 | .inl r => some r
 | .inr v1 => some (-1)
def s_slices_Contains_2 (s : (List (List UInt8))) (v : (List UInt8)) : Option Bool :=
  (s_slices_Index_2 s v).bind fun y1 => some (decide (y1 ≥ 0))
def s_expr_bit (ok : Bool) : Option Int :=
  (bif ok then some 1 else some 0)
def s_expr_quotient (a : Int) (b : Int) : Option Int :=
  (bif (decide (b = 0)) then some 0 else (grd (b ≠ 0)).bind fun _ => (grd (b ≠ 0)).bind fun _ => ((bif (!(decide ((Int.tmod a b) = 0))) then some (!((decide ((Int.tmod a b) < 0)) == (decide (b < 0)))) else some false)).bind fun v1 => ((bif v1 then some (w64 ((w64 (Int.tdiv a b)) - 1)) else some (w64 (Int.tdiv a b)))).bind fun v2 => some v2)
def s_expr_binary (op : Int) (a : Int) (b : Int) : Option Int :=
  (bif (decide (op = 4)) then some (w64 (a + b)) else (bif (decide (op = 5)) then some (w64 (a - b)) else (bif (decide (op = 6)) then some (w64 (a * b)) else (bif (decide (op = 7)) then (s_expr_quotient a b).bind fun y1 => some y1 else (bif (decide (op = 8)) then (bif (decide (b = 0)) then some 0 else (s_expr_quotient a b).bind fun y2 => some (w64 (a - (w64 (y2 * b))))) else (bif (decide (op = 10)) then (s_expr_bit (decide (a = b))).bind fun y3 => some y3 else (bif (decide (op = 11)) then (s_expr_bit (decide (a < b))).bind fun y4 => some y4 else (bif (decide (op = 12)) then (s_expr_bit (decide (a ≤ b))).bind fun y5 => some y5 else (bif (decide (op = 13)) then ((bif (!(decide (a = 0))) then (s_expr_bit (!(decide (b = 0)))).bind fun y7 => some y7 else (s_expr_bit false).bind fun y6 => some y6)).bind fun v1 => some v1 else ((bif (!(decide (a = 0))) then (s_expr_bit true).bind fun y9 => some y9 else (s_expr_bit (!(decide (b = 0)))).bind fun y8 => some y8)).bind fun v2 => some v2)))))))))
def s_expr_context_value_L1 (rec_expr_context_value : Plan → (List ((List UInt8) × Int)) → (List (List UInt8)) → Expr → Option Int) (c_plan : Plan) (c_known : (List ((List UInt8) × Int))) (c_zones : (List (List UInt8))) (e : Expr) : Nat → (Int × (List Int)) → Option (List Int)
  | 0, _ => none
  | K1 + 1, q1 => (bif (decide (q1.1 < (List.length e.Args : Int))) then ((idx e.Args q1.1).bind fun x1 => ((bif (decide (e.Op = 16)) then (bif (decide (q1.1 > 0)) then (grd (0 ≤ (0 : Int) ∧ (0 : Int) < ((q1.2).length : Nat))).bind fun _ => (some (q1.2.getD (Int.toNat 0) default)).bind fun e1 => some (!((!(decide (e1 = 0))) == (decide (q1.1 = 1)))) else some false) else some false)).bind fun v3 => (bif v3 then (grd (((q1.2 ++ [0])).length * 8 ≤ 140737488355328)).bind fun _ => some (q1.2 ++ [0]) else (rec_expr_context_value c_plan c_known c_zones x1).bind fun y1 => (grd (((q1.2 ++ [y1])).length * 8 ≤ 140737488355328)).bind fun _ => some (q1.2 ++ [y1]))).bind fun v2 => (s_expr_context_value_L1 rec_expr_context_value c_plan c_known c_zones e) K1 ((w64 (q1.1 + 1)), v2) else some q1.2)
def s_expr_context_value : Nat → Plan → (List ((List UInt8) × Int)) → (List (List UInt8)) → Expr → Option Int
  | 0, _, _, _, _ => none
  | nF + 1, c_plan, c_known, c_zones, e => ((s_expr_context_value_L1 (s_expr_context_value nF) c_plan c_known c_zones e) KK (0, [])).bind fun v1 => (bif (decide (e.Op = 0)) then some e.N else (bif (decide (e.Op = 1)) then some (Option.getD (mfind e.S c_known) 0) else (bif (decide (e.Op = 2)) then (s_expr_context_row c_plan c_known c_zones e).bind fun y2 => some y2 else (bif (decide (e.Op = 3)) then (s_slices_Contains_2 c_zones e.S).bind fun y3 => (s_expr_bit y3).bind fun y4 => some y4 else (bif (decide (e.Op = 9)) then (grd (0 ≤ (0 : Int) ∧ (0 : Int) < ((v1).length : Nat))).bind fun _ => (some (v1.getD (Int.toNat 0) default)).bind fun e2 => some (w64 (0 - e2)) else (bif (decide (e.Op = 15)) then (grd (0 ≤ (0 : Int) ∧ (0 : Int) < ((v1).length : Nat))).bind fun _ => (some (v1.getD (Int.toNat 0) default)).bind fun e3 => (s_expr_bit (decide (e3 = 0))).bind fun y5 => some y5 else (bif (decide (e.Op = 16)) then (grd (0 ≤ (0 : Int) ∧ (0 : Int) < ((v1).length : Nat))).bind fun _ => (some (v1.getD (Int.toNat 0) default)).bind fun e4 => (bif (!(decide (e4 = 0))) then (grd (0 ≤ (1 : Int) ∧ (1 : Int) < ((v1).length : Nat))).bind fun _ => (some (v1.getD (Int.toNat 1) default)).bind fun e5 => some e5 else (grd (0 ≤ (2 : Int) ∧ (2 : Int) < ((v1).length : Nat))).bind fun _ => (some (v1.getD (Int.toNat 2) default)).bind fun e6 => some e6) else (grd (0 ≤ (0 : Int) ∧ (0 : Int) < ((v1).length : Nat))).bind fun _ => (some (v1.getD (Int.toNat 0) default)).bind fun e7 => (grd (0 ≤ (1 : Int) ∧ (1 : Int) < ((v1).length : Nat))).bind fun _ => (some (v1.getD (Int.toNat 1) default)).bind fun e8 => (s_expr_binary e.Op e7 e8).bind fun y6 => some y6)))))))
def s_expr_prepare_L1 (measures : (List Entry)) : Nat → (Int × (List ((List UInt8) × Bool)) × (List ((List UInt8) × Int))) → Option ((List ((List UInt8) × Bool)) × (List ((List UInt8) × Int)))
  | 0, _ => none
  | K1 + 1, q1 => (bif (decide (q1.1 < (List.length measures : Int))) then (idx measures q1.1).bind fun x1 => ((bif (!(Option.getD (mfind x1.Name q1.2.1) false)) then some ((mset x1.Name true q1.2.1), (mset x1.Name x1.N q1.2.2)) else some (q1.2.1, q1.2.2))).bind fun v2 => (s_expr_prepare_L1 measures) K1 ((w64 (q1.1 + 1)), v2.1, v2.2) else some (q1.2.1, q1.2.2))
def s_expr_prepare_L2 (p : Plan) (zones : (List (List UInt8))) (v1 : ((List ((List UInt8) × Bool)) × (List ((List UInt8) × Int)))) (y1 : ((List Int) × (List (List UInt8)) × Int)) : Nat → (Int × (List Int) × (List ((List UInt8) × Int))) → Option ((List Int) × (List ((List UInt8) × Int)))
  | 0, _ => none
  | K2 + 1, q2 => (bif (decide (q2.1 < (List.length y1.1 : Int))) then (idx y1.1 q2.1).bind fun x2 => (idx p.Defs x2).bind fun x3 => (s_expr_Right x3.Body).bind fun y2 => ((bif y2 then (s_expr_context_value KK p q2.2.2 zones x3.Body).bind fun y3 => (grd (0 ≤ x2 ∧ x2 < ((q2.2.1).length : Nat))).bind fun _ => (some (q2.2.1.getD (Int.toNat x2) default)).bind fun e1 => some (List.set q2.2.1 (Int.toNat x2) y3) else some q2.2.1)).bind fun v4 => ((bif (!(Option.getD (mfind x3.Name v1.1) false)) then (grd (0 ≤ x2 ∧ x2 < ((v4).length : Nat))).bind fun _ => (some (v4.getD (Int.toNat x2) default)).bind fun e2 => some (mset x3.Name e2 q2.2.2) else some q2.2.2)).bind fun v5 => (s_expr_prepare_L2 p zones v1 y1) K2 ((w64 (q2.1 + 1)), v4, v5) else some (q2.2.1, q2.2.2))
def s_expr_prepare (p : Plan) (measures : (List Entry)) (zones : (List (List UInt8))) : Option (Plan × (List (List UInt8)) × (List Int) × (List ((List UInt8) × Int))) :=
  ((s_expr_prepare_L1 measures) KK (0, [], [])).bind fun v1 => (grd (0 ≤ (List.length p.Defs : Int) ∧ (List.length p.Defs : Int) * 8 ≤ 281474976710656 ∧ (List.length p.Defs : Int) ≤ 9223372036854775807)).bind fun _ => (s_define_Order p).bind fun y1 => (bif (!(decide (y1.2.2 = 0))) then some (p, zones, (List.replicate (Int.toNat (List.length p.Defs : Int)) (0 : Int)), v1.2) else ((s_expr_prepare_L2 p zones v1 y1) KK (0, (List.replicate (Int.toNat (List.length p.Defs : Int)) (0 : Int)), v1.2)).bind fun v3 => some (p, zones, v3.1, v3.2))
def s_expr_Eval (p_Defs : (List Def)) (p_Tables : (List Table)) (p_Zones : (List Zone)) (p_Rules : (List Rule)) (p_Caps : (List Cap)) (p_Views : (List View)) (p_Sun : (List Point3)) (p_Hours : Int) (measures : (List Entry)) (zones : (List (List UInt8))) (e : Expr) : Option Int :=
  (s_expr_Right e).bind fun y1 => (bif (!y1) then some 0 else (s_expr_prepare (Plan.mk p_Defs p_Tables p_Zones p_Rules p_Caps p_Views p_Sun p_Hours) measures zones).bind fun y2 => (s_expr_context_value KK y2.1 y2.2.2.2 y2.2.1 e).bind fun y3 => some y3)
def s_slices_Clone (s : (List (List UInt8))) : Option (List (List UInt8)) :=
  (nd ((List.length s) = 0) (some []) ((grd ((s).length * 16 ≤ 140737488355328)).bind fun _ => some s))
def s_expr_Check_1_1 (t : Table) (a1_Op : Int) (a1_N : Int) (a1_S : (List UInt8)) (a1_Key : (List UInt8)) (a1_Args : (List Expr)) : Option (Bool × Int × Int × (List UInt8) × (List UInt8) × (List Expr)) :=
  some ((decide (t.Name = a1_S)), a1_Op, a1_N, a1_S, a1_Key, a1_Args)
def s_slices_IndexFunc_4_L1 (s : (List Table)) : Nat → (Int × Int × Int × (List UInt8) × (List UInt8) × (List Expr)) → Option ((Int × Int × Int × (List UInt8) × (List UInt8) × (List Expr)) ⊕ (Int × Int × (List UInt8) × (List UInt8) × (List Expr)))
  | 0, _ => none
  | K1 + 1, q1 => (bif (decide (q1.1 < (List.length s : Int))) then (idx s q1.1).bind fun x1 => (s_expr_Check_1_1 x1 q1.2.1 q1.2.2.1 q1.2.2.2.1 q1.2.2.2.2.1 q1.2.2.2.2.2).bind fun y1 => (bif y1.1 then some (.inl (q1.1, y1.2.1, y1.2.2.1, y1.2.2.2.1, y1.2.2.2.2.1, y1.2.2.2.2.2)) else (s_slices_IndexFunc_4_L1 s) K1 ((w64 (q1.1 + 1)), y1.2.1, y1.2.2.1, y1.2.2.2.1, y1.2.2.2.2.1, y1.2.2.2.2.2)) else some (.inr (q1.2.1, q1.2.2.1, q1.2.2.2.1, q1.2.2.2.2.1, q1.2.2.2.2.2)))
def s_slices_IndexFunc_4 (s : (List Table)) (t_Op : Int) (t_N : Int) (t_S : (List UInt8)) (t_Key : (List UInt8)) (t_Args : (List Expr)) : Option (Int × Int × Int × (List UInt8) × (List UInt8) × (List Expr)) :=
  ((s_slices_IndexFunc_4_L1 s) KK (0, t_Op, t_N, t_S, t_Key, t_Args) : Option ((Int × Int × Int × (List UInt8) × (List UInt8) × (List Expr)) ⊕ (Int × Int × (List UInt8) × (List UInt8) × (List Expr)))).bind fun z1 => match z1 with
 | .inl r => some r
 | .inr v1 => some ((-1), v1.1, v1.2.1, v1.2.2.1, v1.2.2.2.1, v1.2.2.2.2)
def s_slices_ContainsFunc_2 (s : (List Table)) (t_Op : Int) (t_N : Int) (t_S : (List UInt8)) (t_Key : (List UInt8)) (t_Args : (List Expr)) : Option (Bool × Int × Int × (List UInt8) × (List UInt8) × (List Expr)) :=
  (s_slices_IndexFunc_4 s t_Op t_N t_S t_Key t_Args).bind fun y1 => some ((decide (y1.1 ≥ 0)), y1.2.1, y1.2.2.1, y1.2.2.2.1, y1.2.2.2.2.1, y1.2.2.2.2.2)
def s_expr_Check_1_2 (z : Zone) (a1_Op : Int) (a1_N : Int) (a1_S : (List UInt8)) (a1_Key : (List UInt8)) (a1_Args : (List Expr)) : Option (Bool × Int × Int × (List UInt8) × (List UInt8) × (List Expr)) :=
  some ((decide (z.Name = a1_S)), a1_Op, a1_N, a1_S, a1_Key, a1_Args)
def s_slices_IndexFunc_5_L1 (s : (List Zone)) : Nat → (Int × Int × Int × (List UInt8) × (List UInt8) × (List Expr)) → Option ((Int × Int × Int × (List UInt8) × (List UInt8) × (List Expr)) ⊕ (Int × Int × (List UInt8) × (List UInt8) × (List Expr)))
  | 0, _ => none
  | K1 + 1, q1 => (bif (decide (q1.1 < (List.length s : Int))) then (idx s q1.1).bind fun x1 => (s_expr_Check_1_2 x1 q1.2.1 q1.2.2.1 q1.2.2.2.1 q1.2.2.2.2.1 q1.2.2.2.2.2).bind fun y1 => (bif y1.1 then some (.inl (q1.1, y1.2.1, y1.2.2.1, y1.2.2.2.1, y1.2.2.2.2.1, y1.2.2.2.2.2)) else (s_slices_IndexFunc_5_L1 s) K1 ((w64 (q1.1 + 1)), y1.2.1, y1.2.2.1, y1.2.2.2.1, y1.2.2.2.2.1, y1.2.2.2.2.2)) else some (.inr (q1.2.1, q1.2.2.1, q1.2.2.2.1, q1.2.2.2.2.1, q1.2.2.2.2.2)))
def s_slices_IndexFunc_5 (s : (List Zone)) (z_Op : Int) (z_N : Int) (z_S : (List UInt8)) (z_Key : (List UInt8)) (z_Args : (List Expr)) : Option (Int × Int × Int × (List UInt8) × (List UInt8) × (List Expr)) :=
  ((s_slices_IndexFunc_5_L1 s) KK (0, z_Op, z_N, z_S, z_Key, z_Args) : Option ((Int × Int × Int × (List UInt8) × (List UInt8) × (List Expr)) ⊕ (Int × Int × (List UInt8) × (List UInt8) × (List Expr)))).bind fun z1 => match z1 with
 | .inl r => some r
 | .inr v1 => some ((-1), v1.1, v1.2.1, v1.2.2.1, v1.2.2.2.1, v1.2.2.2.2)
def s_slices_ContainsFunc_3 (s : (List Zone)) (z_Op : Int) (z_N : Int) (z_S : (List UInt8)) (z_Key : (List UInt8)) (z_Args : (List Expr)) : Option (Bool × Int × Int × (List UInt8) × (List UInt8) × (List Expr)) :=
  (s_slices_IndexFunc_5 s z_Op z_N z_S z_Key z_Args).bind fun y1 => some ((decide (y1.1 ≥ 0)), y1.2.1, y1.2.2.1, y1.2.2.2.1, y1.2.2.2.2.1, y1.2.2.2.2.2)
def s_slices_IndexFunc_6_L1 (rec_expr_Check_1 : Expr → (List (List UInt8)) → (List Def) → (List Table) → (List Zone) → (List Rule) → (List Cap) → (List View) → (List Point3) → Int → Option (Bool × (List (List UInt8)) × (List Def) × (List Table) × (List Zone) × (List Rule) × (List Cap) × (List View) × (List Point3) × Int)) (s : (List Expr)) : Nat → (Int × (List (List UInt8)) × (List Def) × (List Table) × (List Zone) × (List Rule) × (List Cap) × (List View) × (List Point3) × Int) → Option ((Int × (List (List UInt8)) × (List Def) × (List Table) × (List Zone) × (List Rule) × (List Cap) × (List View) × (List Point3) × Int) ⊕ ((List (List UInt8)) × (List Def) × (List Table) × (List Zone) × (List Rule) × (List Cap) × (List View) × (List Point3) × Int))
  | 0, _ => none
  | K1 + 1, q1 => (bif (decide (q1.1 < (List.length s : Int))) then (idx s q1.1).bind fun x1 => (rec_expr_Check_1 x1 q1.2.1 q1.2.2.1 q1.2.2.2.1 q1.2.2.2.2.1 q1.2.2.2.2.2.1 q1.2.2.2.2.2.2.1 q1.2.2.2.2.2.2.2.1 q1.2.2.2.2.2.2.2.2.1 q1.2.2.2.2.2.2.2.2.2).bind fun y1 => (bif y1.1 then some (.inl (q1.1, y1.2.1, y1.2.2.1, y1.2.2.2.1, y1.2.2.2.2.1, y1.2.2.2.2.2.1, y1.2.2.2.2.2.2.1, y1.2.2.2.2.2.2.2.1, y1.2.2.2.2.2.2.2.2.1, y1.2.2.2.2.2.2.2.2.2)) else (s_slices_IndexFunc_6_L1 rec_expr_Check_1 s) K1 ((w64 (q1.1 + 1)), y1.2.1, y1.2.2.1, y1.2.2.2.1, y1.2.2.2.2.1, y1.2.2.2.2.2.1, y1.2.2.2.2.2.2.1, y1.2.2.2.2.2.2.2.1, y1.2.2.2.2.2.2.2.2.1, y1.2.2.2.2.2.2.2.2.2)) else some (.inr (q1.2.1, q1.2.2.1, q1.2.2.2.1, q1.2.2.2.2.1, q1.2.2.2.2.2.1, q1.2.2.2.2.2.2.1, q1.2.2.2.2.2.2.2.1, q1.2.2.2.2.2.2.2.2.1, q1.2.2.2.2.2.2.2.2.2)))
mutual
def s_slices_IndexFunc_6 : Nat → (List Expr) → (List (List UInt8)) → (List Def) → (List Table) → (List Zone) → (List Rule) → (List Cap) → (List View) → (List Point3) → Int → Option (Int × (List (List UInt8)) × (List Def) × (List Table) × (List Zone) × (List Rule) × (List Cap) × (List View) × (List Point3) × Int)
  | 0, _, _, _, _, _, _, _, _, _, _ => none
  | nF + 1, s, c_2, c_1_Defs, c_1_Tables, c_1_Zones, c_1_Rules, c_1_Caps, c_1_Views, c_1_Sun, c_1_Hours => ((s_slices_IndexFunc_6_L1 (s_expr_Check_1 nF) s) KK (0, c_2, c_1_Defs, c_1_Tables, c_1_Zones, c_1_Rules, c_1_Caps, c_1_Views, c_1_Sun, c_1_Hours) : Option ((Int × (List (List UInt8)) × (List Def) × (List Table) × (List Zone) × (List Rule) × (List Cap) × (List View) × (List Point3) × Int) ⊕ ((List (List UInt8)) × (List Def) × (List Table) × (List Zone) × (List Rule) × (List Cap) × (List View) × (List Point3) × Int))).bind fun z1 => match z1 with
 | .inl r => some r
 | .inr v1 => some ((-1), v1.1, v1.2.1, v1.2.2.1, v1.2.2.2.1, v1.2.2.2.2.1, v1.2.2.2.2.2.1, v1.2.2.2.2.2.2.1, v1.2.2.2.2.2.2.2.1, v1.2.2.2.2.2.2.2.2)
def s_slices_ContainsFunc_4 : Nat → (List Expr) → (List (List UInt8)) → (List Def) → (List Table) → (List Zone) → (List Rule) → (List Cap) → (List View) → (List Point3) → Int → Option (Bool × (List (List UInt8)) × (List Def) × (List Table) × (List Zone) × (List Rule) × (List Cap) × (List View) × (List Point3) × Int)
  | 0, _, _, _, _, _, _, _, _, _, _ => none
  | nF + 1, s, c_2, c_1_Defs, c_1_Tables, c_1_Zones, c_1_Rules, c_1_Caps, c_1_Views, c_1_Sun, c_1_Hours => ((s_slices_IndexFunc_6 nF) s c_2 c_1_Defs c_1_Tables c_1_Zones c_1_Rules c_1_Caps c_1_Views c_1_Sun c_1_Hours).bind fun y1 => some ((decide (y1.1 ≥ 0)), y1.2.1, y1.2.2.1, y1.2.2.2.1, y1.2.2.2.2.1, y1.2.2.2.2.2.1, y1.2.2.2.2.2.2.1, y1.2.2.2.2.2.2.2.1, y1.2.2.2.2.2.2.2.2.1, y1.2.2.2.2.2.2.2.2.2)
def s_expr_Check_1 : Nat → Expr → (List (List UInt8)) → (List Def) → (List Table) → (List Zone) → (List Rule) → (List Cap) → (List View) → (List Point3) → Int → Option (Bool × (List (List UInt8)) × (List Def) × (List Table) × (List Zone) × (List Rule) × (List Cap) × (List View) × (List Point3) × Int)
  | 0, _, _, _, _, _, _, _, _, _, _ => none
  | nF + 1, e, a1, a2_Defs, a2_Tables, a2_Zones, a2_Rules, a2_Caps, a2_Views, a2_Sun, a2_Hours => (bif (decide (e.Op = 1)) then (s_slices_Contains_2 a1 e.S).bind fun y1 => some ((!y1), a1, a2_Defs, a2_Tables, a2_Zones, a2_Rules, a2_Caps, a2_Views, a2_Sun, a2_Hours) else (bif (decide (e.Op = 2)) then (s_slices_ContainsFunc_2 a2_Tables e.Op e.N e.S e.Key e.Args).bind fun y2 => some ((!y2.1), a1, a2_Defs, a2_Tables, a2_Zones, a2_Rules, a2_Caps, a2_Views, a2_Sun, a2_Hours) else (bif (decide (e.Op = 3)) then (s_slices_ContainsFunc_3 a2_Zones e.Op e.N e.S e.Key e.Args).bind fun y3 => some ((!y3.1), a1, a2_Defs, a2_Tables, a2_Zones, a2_Rules, a2_Caps, a2_Views, a2_Sun, a2_Hours) else ((s_slices_ContainsFunc_4 nF) e.Args a1 a2_Defs a2_Tables a2_Zones a2_Rules a2_Caps a2_Views a2_Sun a2_Hours).bind fun y4 => some (y4.1, y4.2.1, y4.2.2.1, y4.2.2.2.1, y4.2.2.2.2.1, y4.2.2.2.2.2.1, y4.2.2.2.2.2.2.1, y4.2.2.2.2.2.2.2.1, y4.2.2.2.2.2.2.2.2.1, y4.2.2.2.2.2.2.2.2.2))))
end
def s_expr_Check_L1 (p_Defs : (List Def)) : Nat → (Int × (List (List UInt8))) → Option (List (List UInt8))
  | 0, _ => none
  | K1 + 1, q1 => (bif (decide (q1.1 < (List.length p_Defs : Int))) then (idx p_Defs q1.1).bind fun x1 => (grd (((q1.2 ++ [x1.Name])).length * 16 ≤ 140737488355328)).bind fun _ => (s_expr_Check_L1 p_Defs) K1 ((w64 (q1.1 + 1)), (q1.2 ++ [x1.Name])) else some q1.2)
def s_expr_Check (p_Defs : (List Def)) (p_Tables : (List Table)) (p_Zones : (List Zone)) (p_Rules : (List Rule)) (p_Caps : (List Cap)) (p_Views : (List View)) (p_Sun : (List Point3)) (p_Hours : Int) (measures : (List (List UInt8))) (e : Expr) : Option Int :=
  (s_expr_Right e).bind fun y1 => (bif (!y1) then some 1 else (s_slices_Clone measures).bind fun y2 => ((s_expr_Check_L1 p_Defs) KK (0, y2)).bind fun v1 => (s_expr_Check_1 KK e v1 p_Defs p_Tables p_Zones p_Rules p_Caps p_Views p_Sun p_Hours).bind fun y3 => (bif y3.1 then some 15 else some 0))
def s_gl17_small  : Option Bool :=
  (s_gl17_num 30).bind fun y1 => (s_gl17_num 12).bind fun y2 => (s_gl17_op 16 [(Expr.mk 3 0 ([99, 111, 114, 101] : List UInt8) [] []), y1, y2]).bind fun y3 => (s_gl17_num 0).bind fun y4 => (s_gl17_num 7).bind fun y5 => (s_gl17_op 5 [y4, y5]).bind fun y6 => ((s_gl17_name ([104, 101, 105, 103, 104, 116] : List UInt8)).bind fun y7 => (s_gl17_name ([116, 97, 108, 108] : List UInt8)).bind fun y8 => (s_gl17_op 12 [y7, y8]).bind fun y9 => (s_expr_Eval [(Def.mk ([116, 97, 108, 108] : List UInt8) y3)] [] [(Zone.mk ([99, 111, 114, 101] : List UInt8) false [])] [] [] [] [] 0 [(Entry.mk ([104, 101, 105, 103, 104, 116] : List UInt8) 14), (Entry.mk ([97, 114, 101, 97] : List UInt8) 200)] [([99, 111, 114, 101] : List UInt8)] y9).bind fun y10 => (bif (decide (y10 = 1)) then (s_gl17_name ([104, 101, 105, 103, 104, 116] : List UInt8)).bind fun y11 => (s_gl17_name ([116, 97, 108, 108] : List UInt8)).bind fun y12 => (s_gl17_op 12 [y11, y12]).bind fun y13 => (s_expr_Eval [(Def.mk ([116, 97, 108, 108] : List UInt8) y3)] [] [(Zone.mk ([99, 111, 114, 101] : List UInt8) false [])] [] [] [] [] 0 [(Entry.mk ([104, 101, 105, 103, 104, 116] : List UInt8) 14), (Entry.mk ([97, 114, 101, 97] : List UInt8) 200)] [] y13).bind fun y14 => some (decide (y14 = 0)) else some false)).bind fun v1 => ((s_gl17_name ([97, 114, 101, 97] : List UInt8)).bind fun y15 => (s_gl17_num 0).bind fun y16 => (s_gl17_op 7 [y15, y16]).bind fun y17 => (s_expr_Eval [(Def.mk ([116, 97, 108, 108] : List UInt8) y3)] [] [(Zone.mk ([99, 111, 114, 101] : List UInt8) false [])] [] [] [] [] 0 [(Entry.mk ([104, 101, 105, 103, 104, 116] : List UInt8) 14), (Entry.mk ([97, 114, 101, 97] : List UInt8) 200)] [] y17).bind fun y18 => (bif (decide (y18 = 0)) then (s_gl17_num 2).bind fun y19 => (s_gl17_op 7 [y6, y19]).bind fun y20 => (s_expr_Eval [(Def.mk ([116, 97, 108, 108] : List UInt8) y3)] [] [(Zone.mk ([99, 111, 114, 101] : List UInt8) false [])] [] [] [] [] 0 [(Entry.mk ([104, 101, 105, 103, 104, 116] : List UInt8) 14), (Entry.mk ([97, 114, 101, 97] : List UInt8) 200)] [] y20).bind fun y21 => (bif (decide (y21 = (-4))) then (s_gl17_num 2).bind fun y22 => (s_gl17_op 8 [y6, y22]).bind fun y23 => (s_expr_Eval [(Def.mk ([116, 97, 108, 108] : List UInt8) y3)] [] [(Zone.mk ([99, 111, 114, 101] : List UInt8) false [])] [] [] [] [] 0 [(Entry.mk ([104, 101, 105, 103, 104, 116] : List UInt8) 14), (Entry.mk ([97, 114, 101, 97] : List UInt8) 200)] [] y23).bind fun y24 => some (decide (y24 = 1)) else some false) else some false)).bind fun v2 => ((bif v1 then (bif v2 then (s_gl17_name ([104, 101, 105, 103, 104, 116] : List UInt8)).bind fun y25 => (s_expr_Check [(Def.mk ([116, 97, 108, 108] : List UInt8) y3)] [] [(Zone.mk ([99, 111, 114, 101] : List UInt8) false [])] [] [] [] [] 0 [([104, 101, 105, 103, 104, 116] : List UInt8)] y25).bind fun y26 => (bif (decide (y26 = 0)) then (s_gl17_name ([104, 101, 105, 103, 104, 116] : List UInt8)).bind fun y27 => (s_expr_Check [(Def.mk ([116, 97, 108, 108] : List UInt8) y3)] [] [(Zone.mk ([99, 111, 114, 101] : List UInt8) false [])] [] [] [] [] 0 [] y27).bind fun y28 => (bif (decide (y28 = 15)) then (s_gl17_op 15 []).bind fun y29 => (s_expr_Right y29).bind fun y30 => some (!y30) else some false) else some false) else some false) else some false)).bind fun v3 => some v3
def s_gl17_nodes_L1 (rec_gl17_nodes : Expr → Int → Int → Option Int) (e : Expr) (most : Int) (levels : Int) : Nat → (Int × Int) → Option Int
  | 0, _ => none
  | K1 + 1, q1 => ((bif (decide (q1.2 < (List.length e.Args : Int))) then some (decide (q1.1 ≤ most)) else some false)).bind fun v2 => (bif v2 then (idx e.Args q1.2).bind fun x1 => (rec_gl17_nodes x1 (w64 (most - q1.1)) (w64 (levels - 1))).bind fun y1 => (s_gl17_nodes_L1 rec_gl17_nodes e most levels) K1 ((w64 (q1.1 + y1)), (w64 (q1.2 + 1))) else some q1.1)
def s_gl17_nodes : Nat → Expr → Int → Int → Option Int
  | 0, _, _, _ => none
  | nF + 1, e, most, levels => (bif (decide (levels < 1)) then some (w64 (most + 1)) else ((s_gl17_nodes_L1 (s_gl17_nodes nF) e most levels) KK (1, 0)).bind fun v1 => some v1)
def s_gl17_light (e : Expr) : Option Bool :=
  (s_gl17_nodes KK e 100 20).bind fun y1 => some (decide (y1 ≤ 100))
def s_gl17_few_L1 (p : Plan) : Nat → Int → Option (Bool ⊕ Unit)
  | 0, _ => none
  | K1 + 1, q1 => ((bif (decide (q1 < (List.length p.Defs : Int))) then some (decide (q1 < 13)) else some false)).bind fun v2 => (bif v2 then (idx p.Defs q1).bind fun x1 => (s_gl17_light x1.Body).bind fun y1 => (bif (!y1) then some (.inl false) else (s_gl17_few_L1 p) K1 (w64 (q1 + 1))) else some (.inr ()))
def s_gl17_few_L2 (p : Plan) : Nat → Int → Option (Bool ⊕ Unit)
  | 0, _ => none
  | K2 + 1, q2 => ((bif (decide (q2 < (List.length p.Tables : Int))) then some (decide (q2 < 6)) else some false)).bind fun v4 => (bif v4 then (idx p.Tables q2).bind fun x2 => (bif (decide ((List.length x2.Rows : Int) > 10)) then some (.inl false) else (s_gl17_few_L2 p) K2 (w64 (q2 + 1))) else some (.inr ()))
def s_gl17_few (p : Plan) : Option Bool :=
  ((s_gl17_few_L1 p) KK 0 : Option (Bool ⊕ Unit)).bind fun z1 => match z1 with
 | .inl r => some r
 | .inr v1 => ((s_gl17_few_L2 p) KK 0 : Option (Bool ⊕ Unit)).bind fun z3 => match z3 with
 | .inl r => some r
 | .inr v3 => ((bif (decide ((List.length p.Defs : Int) ≤ 12)) then (bif (decide ((List.length p.Tables : Int) ≤ 5)) then some (decide ((List.length p.Zones : Int) ≤ 10)) else some false) else some false)).bind fun v5 => some v5
def s_gr17_arity (op : Int) : Option Int :=
  ((bif (decide (op = 0)) then some (decide (op = 0)) else (bif (decide (op = 1)) then some (decide (op = 1)) else (bif (decide (op = 2)) then some (decide (op = 2)) else some (decide (op = 3)))))).bind fun v1 => (bif v1 then some 0 else ((bif (decide (op = 9)) then some (decide (op = 9)) else some (decide (op = 15)))).bind fun v2 => (bif v2 then some 1 else (bif (decide (op = 16)) then some 3 else ((bif (decide (op < 0)) then some true else some (decide (op ≥ 17)))).bind fun v3 => (bif v3 then some (-1) else some 2))))
def s_gr17_fits_L1 (rec_gr17_fits : Expr → Int → Option Bool) (e : Expr) (levels : Int) : Nat → Int → Option (Bool ⊕ Unit)
  | 0, _ => none
  | K1 + 1, q1 => (bif (decide (q1 < (List.length e.Args : Int))) then (idx e.Args q1).bind fun x1 => (rec_gr17_fits x1 (w64 (levels - 1))).bind fun y2 => (bif (!y2) then some (.inl false) else (s_gr17_fits_L1 rec_gr17_fits e levels) K1 (w64 (q1 + 1))) else some (.inr ()))
def s_gr17_fits : Nat → Expr → Int → Option Bool
  | 0, _, _ => none
  | nF + 1, e, levels => ((bif (decide (levels < 1)) then some true else (s_gr17_arity e.Op).bind fun y1 => some (!(decide (y1 = (List.length e.Args : Int)))))).bind fun v1 => (bif v1 then some false else ((s_gr17_fits_L1 (s_gr17_fits nF) e levels) KK 0 : Option (Bool ⊕ Unit)).bind fun z2 => match z2 with
 | .inl r => some r
 | .inr v2 => some true)
def s_gr17_Right (e : Expr) : Option Bool :=
  (s_gr17_fits KK e 12).bind fun y1 => some y1
def s_expr_Check_2_L1 (p : Plan) : Nat → (Int × (List (List UInt8))) → Option (List (List UInt8))
  | 0, _ => none
  | K1 + 1, q1 => (bif (decide (q1.1 < (List.length p.Defs : Int))) then (idx p.Defs q1.1).bind fun x1 => (grd (((q1.2 ++ [x1.Name])).length * 16 ≤ 140737488355328)).bind fun _ => (s_expr_Check_2_L1 p) K1 ((w64 (q1.1 + 1)), (q1.2 ++ [x1.Name])) else some q1.2)
def s_expr_Check_2 (p : Plan) (measures : (List (List UInt8))) (e : Expr) : Option Int :=
  (s_expr_Right e).bind fun y1 => (bif (!y1) then some 1 else (s_slices_Clone measures).bind fun y2 => ((s_expr_Check_2_L1 p) KK (0, y2)).bind fun v1 => (s_expr_Check_1 KK e v1 p.Defs p.Tables p.Zones p.Rules p.Caps p.Views p.Sun p.Hours).bind fun y3 => (bif y3.1 then some 15 else some 0))
def s_gr17_has_L1 (l : (List (List UInt8))) (s : (List UInt8)) : Nat → Int → Option (Bool ⊕ Unit)
  | 0, _ => none
  | K1 + 1, q1 => (bif (decide (q1 < (List.length l : Int))) then (idx l q1).bind fun x1 => (bif (decide (x1 = s)) then some (.inl true) else (s_gr17_has_L1 l s) K1 (w64 (q1 + 1))) else some (.inr ()))
def s_gr17_has (l : (List (List UInt8))) (s : (List UInt8)) : Option Bool :=
  ((s_gr17_has_L1 l s) KK 0 : Option (Bool ⊕ Unit)).bind fun z1 => match z1 with
 | .inl r => some r
 | .inr v1 => some false
def s_gr17_known_L1 (p : Plan) (e : Expr) : Nat → (Bool × Int) → Option Bool
  | 0, _ => none
  | K1 + 1, q1 => (bif (decide (q1.2 < (List.length p.Defs : Int))) then ((bif q1.1 then some true else (idx p.Defs q1.2).bind fun x1 => some (decide (x1.Name = e.S)))).bind fun v3 => (s_gr17_known_L1 p e) K1 (v3, (w64 (q1.2 + 1))) else some q1.1)
def s_gr17_known_L2 (p : Plan) (e : Expr) : Nat → (Bool × Int) → Option Bool
  | 0, _ => none
  | K2 + 1, q2 => (bif (decide (q2.2 < (List.length p.Tables : Int))) then ((bif q2.1 then some true else (idx p.Tables q2.2).bind fun x2 => some (decide (x2.Name = e.S)))).bind fun v5 => (s_gr17_known_L2 p e) K2 (v5, (w64 (q2.2 + 1))) else some q2.1)
def s_gr17_known_L3 (p : Plan) (e : Expr) : Nat → (Bool × Int) → Option Bool
  | 0, _ => none
  | K3 + 1, q3 => (bif (decide (q3.2 < (List.length p.Zones : Int))) then ((bif q3.1 then some true else (idx p.Zones q3.2).bind fun x3 => some (decide (x3.Name = e.S)))).bind fun v7 => (s_gr17_known_L3 p e) K3 (v7, (w64 (q3.2 + 1))) else some q3.1)
def s_gr17_known_L4 (rec_gr17_known : Plan → (List (List UInt8)) → Expr → Option Bool) (p : Plan) (measures : (List (List UInt8))) (e : Expr) : Nat → (Bool × Int) → Option Bool
  | 0, _ => none
  | K4 + 1, q4 => (bif (decide (q4.2 < (List.length e.Args : Int))) then (idx e.Args q4.2).bind fun x4 => (rec_gr17_known p measures x4).bind fun y2 => ((bif q4.1 then some y2 else some false)).bind fun v9 => (s_gr17_known_L4 rec_gr17_known p measures e) K4 (v9, (w64 (q4.2 + 1))) else some q4.1)
def s_gr17_known : Nat → Plan → (List (List UInt8)) → Expr → Option Bool
  | 0, _, _, _ => none
  | nF + 1, p, measures, e => ((bif (decide (e.Op = 1)) then (s_gr17_has measures e.S).bind fun y1 => ((s_gr17_known_L1 p e) KK (y1, 0)).bind fun v2 => some v2 else (bif (decide (e.Op = 2)) then ((s_gr17_known_L2 p e) KK (false, 0)).bind fun v4 => some v4 else (bif (decide (e.Op = 3)) then ((s_gr17_known_L3 p e) KK (false, 0)).bind fun v6 => some v6 else some true)))).bind fun v1 => ((s_gr17_known_L4 (s_gr17_known nF) p measures e) KK (v1, 0)).bind fun v8 => some v8
def s_gr17_Check (p : Plan) (measures : (List (List UInt8))) (e : Expr) : Option Int :=
  (s_gr17_Right e).bind fun y1 => (bif (!y1) then some 1 else (s_gr17_known KK p measures e).bind fun y2 => (bif (!y2) then some 15 else some 0))
def s_expr_Eval_2 (p : Plan) (measures : (List Entry)) (zones : (List (List UInt8))) (e : Expr) : Option Int :=
  (s_expr_Right e).bind fun y1 => (bif (!y1) then some 0 else (s_expr_prepare p measures zones).bind fun y2 => (s_expr_context_value KK y2.1 y2.2.2.2 y2.2.1 e).bind fun y3 => some y3)
def s_gr16_Measures  : Option Unit :=
  some ()
def s_gr16_Has_L1 (l : (List (List UInt8))) (s : (List UInt8)) : Nat → Int → Option (Bool ⊕ Unit)
  | 0, _ => none
  | K1 + 1, q1 => (bif (decide (q1 < (List.length l : Int))) then (idx l q1).bind fun x1 => (bif (decide (x1 = s)) then some (.inl true) else (s_gr16_Has_L1 l s) K1 (w64 (q1 + 1))) else some (.inr ()))
def s_gr16_Has (l : (List (List UInt8))) (s : (List UInt8)) : Option Bool :=
  ((s_gr16_Has_L1 l s) KK 0 : Option (Bool ⊕ Unit)).bind fun z1 => match z1 with
 | .inl r => some r
 | .inr v1 => some false
def s_gr16_twice_L2 (p : Plan) (q1 : Int) : Nat → Int → Option (Bool ⊕ Unit)
  | 0, _ => none
  | K2 + 1, q2 => (bif (decide (q2 < q1)) then (idx p.Defs q2).bind fun x1 => (idx p.Defs q1).bind fun x2 => (bif (decide (x1.Name = x2.Name)) then some (.inl true) else (s_gr16_twice_L2 p q1) K2 (w64 (q2 + 1))) else some (.inr ()))
def s_gr16_twice_L1 (p : Plan) : Nat → Int → Option (Bool ⊕ Unit)
  | 0, _ => none
  | K1 + 1, q1 => (bif (decide (q1 < (List.length p.Defs : Int))) then ((s_gr16_twice_L2 p q1) KK 0 : Option (Bool ⊕ Unit)).bind fun z2 => match z2 with
 | .inl r => some (.inl r)
 | .inr v2 => (s_gr16_Measures ).bind fun y1 => (idx p.Defs q1).bind fun x3 => (s_gr16_Has [([97, 114, 101, 97] : List UInt8), ([99, 111, 118, 101, 114] : List UInt8), ([102, 108, 111, 111, 114] : List UInt8), ([102, 108, 111, 111, 114, 115] : List UInt8), ([104, 101, 105, 103, 104, 116] : List UInt8), ([104, 111, 109, 101, 115] : List UInt8), ([114, 117, 110, 111, 102, 102] : List UInt8), ([115, 101, 116, 98, 97, 99, 107] : List UInt8), ([116, 114, 97, 102, 102, 105, 99] : List UInt8)] x3.Name).bind fun y2 => (bif y2 then some (.inl true) else (s_gr16_twice_L1 p) K1 (w64 (q1 + 1))) else some (.inr ()))
def s_gr16_twice (p : Plan) : Option Bool :=
  ((s_gr16_twice_L1 p) KK 0 : Option (Bool ⊕ Unit)).bind fun z1 => match z1 with
 | .inl r => some r
 | .inr v1 => some false
def s_gr16_With_L1 (l : (List (List UInt8))) (s : (List UInt8)) : Nat → Int → Option Int
  | 0, _ => none
  | K1 + 1, q1 => ((bif (decide (q1 < (List.length l : Int))) then (idx l q1).bind fun x1 => some (Op.bytesLess x1 s) else some false)).bind fun v2 => (bif v2 then (s_gr16_With_L1 l s) K1 (w64 (q1 + 1)) else some q1)
def s_gr16_With (l : (List (List UInt8))) (s : (List UInt8)) : Option (List (List UInt8)) :=
  (s_gr16_Has l s).bind fun y1 => (bif y1 then some l else ((s_gr16_With_L1 l s) KK 0).bind fun v1 => (cut l 0 v1).bind fun x2 => (grd ((x2).length * 16 ≤ 140737488355328)).bind fun _ => (grd (((x2 ++ [s])).length * 16 ≤ 140737488355328)).bind fun _ => (cut l v1 (List.length l : Int)).bind fun x3 => (grd ((((x2 ++ [s]) ++ x3)).length * 16 ≤ 140737488355328)).bind fun _ => some ((x2 ++ [s]) ++ x3))
def s_gr16_Names_L2 (y2 : (List (List UInt8))) : Nat → ((List (List UInt8)) × Int) → Option (List (List UInt8))
  | 0, _ => none
  | K2 + 1, q2 => (bif (decide (q2.2 < (List.length y2 : Int))) then (idx y2 q2.2).bind fun x2 => (s_gr16_With q2.1 x2).bind fun y3 => (s_gr16_Names_L2 y2) K2 (y3, (w64 (q2.2 + 1))) else some q2.1)
def s_gr16_Names_L1 (rec_gr16_Names : Expr → Option (List (List UInt8))) (e : Expr) : Nat → ((List (List UInt8)) × Int) → Option (List (List UInt8))
  | 0, _ => none
  | K1 + 1, q1 => (bif (decide (q1.2 < (List.length e.Args : Int))) then (idx e.Args q1.2).bind fun x1 => (rec_gr16_Names x1).bind fun y2 => ((s_gr16_Names_L2 y2) KK (q1.1, 0)).bind fun v3 => (s_gr16_Names_L1 rec_gr16_Names e) K1 (v3, (w64 (q1.2 + 1))) else some q1.1)
def s_gr16_Names : Nat → Expr → Option (List (List UInt8))
  | 0, _ => none
  | nF + 1, e => ((bif (decide (e.Op = 1)) then (s_gr16_With [] e.S).bind fun y1 => some y1 else some [])).bind fun v1 => ((s_gr16_Names_L1 (s_gr16_Names nF) e) KK (v1, 0)).bind fun v2 => some v2
def s_gr16_uses_L2 (p : Plan) (y1 : (List (List UInt8))) : Nat → (Int × (List Bool)) → Option (List Bool)
  | 0, _ => none
  | K2 + 1, q2 => (bif (decide (q2.1 < (List.length p.Defs : Int))) then (idx p.Defs q2.1).bind fun x2 => (s_gr16_Has y1 x2.Name).bind fun y2 => (grd (0 ≤ q2.1 ∧ q2.1 < ((q2.2).length : Nat))).bind fun _ => (some (q2.2.getD (Int.toNat q2.1) default)).bind fun e1 => (s_gr16_uses_L2 p y1) K2 ((w64 (q2.1 + 1)), (List.set q2.2 (Int.toNat q2.1) y2)) else some q2.2)
def s_gr16_uses_L1 (p : Plan) : Nat → (Int × (List (List Bool))) → Option (List (List Bool))
  | 0, _ => none
  | K1 + 1, q1 => (bif (decide (q1.1 < (List.length p.Defs : Int))) then (idx p.Defs q1.1).bind fun x1 => (s_gr16_Names KK x1.Body).bind fun y1 => (grd (0 ≤ (List.length p.Defs : Int) ∧ (List.length p.Defs : Int) * 1 ≤ 281474976710656 ∧ (List.length p.Defs : Int) ≤ 9223372036854775807)).bind fun _ => ((s_gr16_uses_L2 p y1) KK (0, (List.replicate (Int.toNat (List.length p.Defs : Int)) (false : Bool)))).bind fun v2 => (grd (((q1.2 ++ [v2])).length * 24 ≤ 140737488355328)).bind fun _ => (s_gr16_uses_L1 p) K1 ((w64 (q1.1 + 1)), (q1.2 ++ [v2])) else some q1.2)
def s_gr16_uses (p : Plan) : Option (List (List Bool)) :=
  ((s_gr16_uses_L1 p) KK (0, [])).bind fun v1 => some v1
def s_gr16_back_L3 (use : (List (List Bool))) (q1 : (Int × (List (List Bool)))) (q2 : (Int × (List Bool))) : Nat → (Int × (List Bool)) → Option (List Bool)
  | 0, _ => none
  | K3 + 1, q3 => (bif (decide (q3.1 < (List.length use : Int))) then ((grd (0 ≤ q2.1 ∧ q2.1 < ((q3.2).length : Nat))).bind fun _ => (some (q3.2.getD (Int.toNat q2.1) default)).bind fun e2 => (bif e2 then (grd (0 ≤ q2.1 ∧ q2.1 < ((q3.2).length : Nat))).bind fun _ => (some (q3.2.getD (Int.toNat q2.1) default)).bind fun e6 => some (List.set q3.2 (Int.toNat q2.1) true) else (idx use q2.1).bind fun x1 => (idx x1 q3.1).bind fun x2 => (bif x2 then (grd (0 ≤ (w64 (q1.1 - 1)) ∧ (w64 (q1.1 - 1)) < ((q1.2).length : Nat))).bind fun _ => (some (q1.2.getD (Int.toNat (w64 (q1.1 - 1))) default)).bind fun e4 => (idx e4 q3.1).bind fun x3 => (grd (0 ≤ q2.1 ∧ q2.1 < ((q3.2).length : Nat))).bind fun _ => (some (q3.2.getD (Int.toNat q2.1) default)).bind fun e5 => some (List.set q3.2 (Int.toNat q2.1) x3) else (grd (0 ≤ q2.1 ∧ q2.1 < ((q3.2).length : Nat))).bind fun _ => (some (q3.2.getD (Int.toNat q2.1) default)).bind fun e3 => some (List.set q3.2 (Int.toNat q2.1) false)))).bind fun v4 => (s_gr16_back_L3 use q1 q2) K3 ((w64 (q3.1 + 1)), v4) else some q3.2)
def s_gr16_back_L2 (use : (List (List Bool))) (q1 : (Int × (List (List Bool)))) : Nat → (Int × (List Bool)) → Option (List Bool)
  | 0, _ => none
  | K2 + 1, q2 => (bif (decide (q2.1 < (List.length use : Int))) then ((s_gr16_back_L3 use q1 q2) KK (0, q2.2)).bind fun v3 => (s_gr16_back_L2 use q1) K2 ((w64 (q2.1 + 1)), v3) else some q2.2)
def s_gr16_back_L1 (use : (List (List Bool))) (most : Int) : Nat → (Int × (List (List Bool))) → Option (List (List Bool))
  | 0, _ => none
  | K1 + 1, q1 => (bif (decide (q1.1 ≤ most)) then (grd (0 ≤ (List.length use : Int) ∧ (List.length use : Int) * 1 ≤ 281474976710656 ∧ (List.length use : Int) ≤ 9223372036854775807)).bind fun _ => ((s_gr16_back_L2 use q1) KK (0, (List.replicate (Int.toNat (List.length use : Int)) (false : Bool)))).bind fun v2 => (grd (((q1.2 ++ [v2])).length * 24 ≤ 140737488355328)).bind fun _ => (s_gr16_back_L1 use most) K1 ((w64 (q1.1 + 1)), (q1.2 ++ [v2])) else some q1.2)
def s_gr16_back (use : (List (List Bool))) (to : Int) (most : Int) : Option (List (List Bool)) :=
  (grd (0 ≤ (List.length use : Int) ∧ (List.length use : Int) * 1 ≤ 281474976710656 ∧ (List.length use : Int) ≤ 9223372036854775807)).bind fun _ => (grd (0 ≤ to ∧ to < (((List.replicate (Int.toNat (List.length use : Int)) (false : Bool))).length : Nat))).bind fun _ => (some ((List.replicate (Int.toNat (List.length use : Int)) (false : Bool)).getD (Int.toNat to) default)).bind fun e1 => ((s_gr16_back_L1 use most) KK (1, [(List.set (List.replicate (Int.toNat (List.length use : Int)) (false : Bool)) (Int.toNat to) true)])).bind fun v1 => some v1
def s_gr16_circle_L2 (p : Plan) (y1 : (List (List Bool))) (q1 : (Int × Int × Int)) : Nat → (Int × Int × Int) → Option (Int × Int)
  | 0, _ => none
  | K2 + 1, q2 => ((bif (decide (q2.2.2 < (List.length y1 : Int))) then some (decide (q2.2.2 ≤ q2.1)) else some false)).bind fun v3 => (bif v3 then ((idx y1 q2.2.2).bind fun x1 => (idx x1 q1.2.2).bind fun x2 => (bif x2 then (bif (decide (q2.2.2 < q2.1)) then some true else (idx p.Defs q1.2.2).bind fun x3 => (idx p.Defs (max q2.2.1 0)).bind fun x4 => some (Op.bytesLess x3.Name x4.Name)) else some false)).bind fun v4 => ((bif v4 then some (q2.2.2, q1.2.2) else some (q2.1, q2.2.1))).bind fun v5 => (s_gr16_circle_L2 p y1 q1) K2 (v5.1, v5.2, (w64 (q2.2.2 + 1))) else some (q2.1, q2.2.1))
def s_gr16_circle_L1 (p : Plan) (use : (List (List Bool))) : Nat → (Int × Int × Int) → Option (Int × Int)
  | 0, _ => none
  | K1 + 1, q1 => (bif (decide (q1.2.2 < (List.length use : Int))) then (s_gr16_back use q1.2.2 (List.length use : Int)).bind fun y1 => ((s_gr16_circle_L2 p y1 q1) KK (q1.1, q1.2.1, 1)).bind fun v2 => (s_gr16_circle_L1 p use) K1 (v2.1, v2.2, (w64 (q1.2.2 + 1))) else some (q1.1, q1.2.1))
def s_gr16_circle_L4 (p : Plan) (use : (List (List Bool))) (y2 : (List (List Bool))) (q3 : (Int × Int × (List (List UInt8)))) : Nat → (Int × Int) → Option Int
  | 0, _ => none
  | K4 + 1, q4 => (bif (decide (q4.2 < (List.length use : Int))) then ((idx use q3.1).bind fun x6 => (idx x6 q4.2).bind fun x7 => (bif x7 then (idx y2 q3.2.1).bind fun x8 => (idx x8 q4.2).bind fun x9 => (bif x9 then (bif (decide (q4.1 < 0)) then some true else (idx p.Defs q4.2).bind fun x10 => (idx p.Defs (max q4.1 0)).bind fun x11 => some (Op.bytesLess x10.Name x11.Name)) else some false) else some false)).bind fun v8 => ((bif v8 then some q4.2 else some q4.1)).bind fun v9 => (s_gr16_circle_L4 p use y2 q3) K4 (v9, (w64 (q4.2 + 1))) else some q4.1)
def s_gr16_circle_L3 (p : Plan) (use : (List (List Bool))) (y2 : (List (List Bool))) : Nat → (Int × Int × (List (List UInt8))) → Option (List (List UInt8))
  | 0, _ => none
  | K3 + 1, q3 => (bif (decide (q3.2.1 ≥ 0)) then (idx p.Defs q3.1).bind fun x5 => (grd (((q3.2.2 ++ [x5.Name])).length * 16 ≤ 140737488355328)).bind fun _ => ((s_gr16_circle_L4 p use y2 q3) KK ((-1), 0)).bind fun v7 => (s_gr16_circle_L3 p use y2) K3 ((max v7 0), (w64 (q3.2.1 - 1)), (q3.2.2 ++ [x5.Name])) else some q3.2.2)
def s_gr16_circle (p : Plan) (use : (List (List Bool))) : Option (List (List UInt8)) :=
  ((s_gr16_circle_L1 p use) KK ((w64 ((List.length use : Int) + 1)), (-1), 0)).bind fun v1 => (bif (decide (v1.2 < 0)) then some [] else (s_gr16_back use v1.2 v1.1).bind fun y2 => ((s_gr16_circle_L3 p use y2) KK (v1.2, (w64 (v1.1 - 1)), [])).bind fun v6 => some v6)
def s_gr16_ready_L2 (use : (List (List Bool))) (done : (List Bool)) (q1 : (Int × Int)) : Nat → (Bool × Int) → Option Bool
  | 0, _ => none
  | K2 + 1, q2 => (bif (decide (q2.2 < (List.length use : Int))) then ((bif q2.1 then (idx done q2.2).bind fun x2 => (bif x2 then some true else (idx use q1.2).bind fun x3 => (idx x3 q2.2).bind fun x4 => some (!x4)) else some false)).bind fun v3 => (s_gr16_ready_L2 use done q1) K2 (v3, (w64 (q2.2 + 1))) else some q2.1)
def s_gr16_ready_L1 (p : Plan) (use : (List (List Bool))) (done : (List Bool)) : Nat → (Int × Int) → Option Int
  | 0, _ => none
  | K1 + 1, q1 => (bif (decide (q1.2 < (List.length use : Int))) then (idx done q1.2).bind fun x1 => ((s_gr16_ready_L2 use done q1) KK ((!x1), 0)).bind fun v2 => ((bif v2 then (bif (decide (q1.1 < 0)) then some true else (idx p.Defs q1.2).bind fun x5 => (idx p.Defs (max q1.1 0)).bind fun x6 => some (Op.bytesLess x5.Name x6.Name)) else some false)).bind fun v4 => ((bif v4 then some q1.2 else some q1.1)).bind fun v5 => (s_gr16_ready_L1 p use done) K1 (v5, (w64 (q1.2 + 1))) else some q1.1)
def s_gr16_ready (p : Plan) (use : (List (List Bool))) (done : (List Bool)) : Option Int :=
  ((s_gr16_ready_L1 p use done) KK ((-1), 0)).bind fun v1 => some v1
def s_gr16_Order_L1 (p : Plan) (y2 : (List (List Bool))) : Nat → (Int × (List Bool) × (List Int)) → Option (List Int)
  | 0, _ => none
  | K1 + 1, q1 => (bif (decide (q1.1 < (List.length y2 : Int))) then (s_gr16_ready p y2 q1.2.1).bind fun y4 => (grd (0 ≤ (max y4 0) ∧ (max y4 0) < ((q1.2.1).length : Nat))).bind fun _ => (some (q1.2.1.getD (Int.toNat (max y4 0)) default)).bind fun e1 => (grd (((q1.2.2 ++ [(max y4 0)])).length * 8 ≤ 140737488355328)).bind fun _ => (s_gr16_Order_L1 p y2) K1 ((w64 (q1.1 + 1)), (List.set q1.2.1 (Int.toNat (max y4 0)) true), (q1.2.2 ++ [(max y4 0)])) else some q1.2.2)
def s_gr16_Order (p : Plan) : Option ((List Int) × (List (List UInt8)) × Int) :=
  (s_gr16_twice p).bind fun y1 => (bif y1 then some ([], [], 5) else (s_gr16_uses p).bind fun y2 => (s_gr16_circle p y2).bind fun y3 => (bif (decide ((List.length y3 : Int) > 0)) then some ([], y3, 16) else (grd (0 ≤ (List.length y2 : Int) ∧ (List.length y2 : Int) * 1 ≤ 281474976710656 ∧ (List.length y2 : Int) ≤ 9223372036854775807)).bind fun _ => ((s_gr16_Order_L1 p y2) KK (0, (List.replicate (Int.toNat (List.length y2 : Int)) (false : Bool)), [])).bind fun v1 => some (v1, [], 0)))
def s_gr17_named_L1 (measures : (List Entry)) (s : (List UInt8)) : Nat → Int → Option (Int ⊕ Unit)
  | 0, _ => none
  | K1 + 1, q1 => (bif (decide (q1 < (List.length measures : Int))) then (idx measures q1).bind fun x1 => (bif (decide (x1.Name = s)) then (idx measures q1).bind fun x2 => some (.inl x2.N) else (s_gr17_named_L1 measures s) K1 (w64 (q1 + 1))) else some (.inr ()))
def s_gr17_named_L2 (p : Plan) (defs : (List Int)) (s : (List UInt8)) : Nat → Int → Option (Int ⊕ Unit)
  | 0, _ => none
  | K2 + 1, q2 => ((bif (decide (q2 < (List.length p.Defs : Int))) then some (decide (q2 < (List.length defs : Int))) else some false)).bind fun v3 => (bif v3 then (idx p.Defs q2).bind fun x3 => (bif (decide (x3.Name = s)) then (idx defs q2).bind fun x4 => some (.inl x4) else (s_gr17_named_L2 p defs s) K2 (w64 (q2 + 1))) else some (.inr ()))
def s_gr17_named (p : Plan) (measures : (List Entry)) (defs : (List Int)) (s : (List UInt8)) : Option Int :=
  ((s_gr17_named_L1 measures s) KK 0 : Option (Int ⊕ Unit)).bind fun z1 => match z1 with
 | .inl r => some r
 | .inr v1 => ((s_gr17_named_L2 p defs s) KK 0 : Option (Int ⊕ Unit)).bind fun z2 => match z2 with
 | .inl r => some r
 | .inr v2 => some 0
def s_gr17_row_L2 (key : (List UInt8)) (x2 : Table) : Nat → Int → Option (Int ⊕ Unit)
  | 0, _ => none
  | K2 + 1, q2 => (bif (decide (q2 < (List.length x2.Rows : Int))) then (idx x2.Rows q2).bind fun x3 => (bif (decide (x3.Name = key)) then (idx x2.Rows q2).bind fun x4 => some (.inl x4.N) else (s_gr17_row_L2 key x2) K2 (w64 (q2 + 1))) else some (.inr ()))
def s_gr17_row_L1 (p : Plan) (name : (List UInt8)) (key : (List UInt8)) : Nat → Int → Option (Int ⊕ Unit)
  | 0, _ => none
  | K1 + 1, q1 => (bif (decide (q1 < (List.length p.Tables : Int))) then (idx p.Tables q1).bind fun x1 => (bif (!(decide (x1.Name = name))) then (s_gr17_row_L1 p name key) K1 (w64 (q1 + 1)) else (idx p.Tables q1).bind fun x2 => ((s_gr17_row_L2 key x2) KK 0 : Option (Int ⊕ Unit)).bind fun z2 => match z2 with
 | .inl r => some (.inl r)
 | .inr v2 => some (.inl x2.Else)) else some (.inr ()))
def s_gr17_row (p : Plan) (name : (List UInt8)) (key : (List UInt8)) : Option Int :=
  ((s_gr17_row_L1 p name key) KK 0 : Option (Int ⊕ Unit)).bind fun z1 => match z1 with
 | .inl r => some r
 | .inr v1 => some 0
def s_gr17_bit (ok : Bool) : Option Int :=
  (bif ok then some 1 else some 0)
def s_gr17_Floor (a : Int) (b : Int) : Option Int :=
  (bif (decide (b = 0)) then some 0 else (grd (b ≠ 0)).bind fun _ => ((grd (b ≠ 0)).bind fun _ => (bif (!(decide ((Int.tmod a b) = 0))) then some (!((decide (a < 0)) == (decide (b < 0)))) else some false)).bind fun v1 => ((bif v1 then some (w64 ((w64 (Int.tdiv a b)) - 1)) else some (w64 (Int.tdiv a b)))).bind fun v2 => some v2)
def s_gr17_two (op : Int) (a : Int) (b : Int) : Option Int :=
  (bif (decide (op = 4)) then some (w64 (a + b)) else (bif (decide (op = 5)) then some (w64 (a - b)) else (bif (decide (op = 6)) then some (w64 (a * b)) else (bif (decide (op = 7)) then (s_gr17_Floor a b).bind fun y1 => some y1 else (bif (decide (op = 8)) then (bif (decide (b = 0)) then some 0 else (s_gr17_Floor a b).bind fun y2 => some (w64 (a - (w64 (b * y2))))) else (bif (decide (op = 10)) then (s_gr17_bit (decide (a = b))).bind fun y3 => some y3 else (bif (decide (op = 11)) then (s_gr17_bit (decide (a < b))).bind fun y4 => some y4 else (bif (decide (op = 12)) then (s_gr17_bit (decide (a ≤ b))).bind fun y5 => some y5 else (bif (decide (op = 13)) then ((bif (!(decide (a = 0))) then (s_gr17_bit (!(decide (b = 0)))).bind fun y7 => some y7 else (s_gr17_bit false).bind fun y6 => some y6)).bind fun v1 => some v1 else ((bif (!(decide (a = 0))) then (s_gr17_bit true).bind fun y9 => some y9 else (s_gr17_bit (!(decide (b = 0)))).bind fun y8 => some y8)).bind fun v2 => some v2)))))))))
def s_gr17_value : Nat → Plan → (List Entry) → (List (List UInt8)) → (List Int) → Expr → Option Int
  | 0, _, _, _, _, _ => none
  | nF + 1, p, measures, zones, defs, e => (bif (decide (e.Op = 0)) then some e.N else (bif (decide (e.Op = 1)) then (s_gr17_named p measures defs e.S).bind fun y1 => some y1 else (bif (decide (e.Op = 2)) then (s_gr17_row p e.S e.Key).bind fun y2 => some y2 else (bif (decide (e.Op = 3)) then (s_gr17_has zones e.S).bind fun y3 => (s_gr17_bit y3).bind fun y4 => some y4 else (idx e.Args 0).bind fun x1 => ((s_gr17_value nF) p measures zones defs x1).bind fun y5 => (bif (decide (e.Op = 9)) then some (w64 (0 - y5)) else (bif (decide (e.Op = 15)) then (s_gr17_bit (decide (y5 = 0))).bind fun y6 => some y6 else (bif (decide (e.Op = 16)) then ((bif (!(decide (y5 = 0))) then some 1 else some 2)).bind fun v1 => (idx e.Args v1).bind fun x2 => ((s_gr17_value nF) p measures zones defs x2).bind fun y7 => some y7 else (idx e.Args 1).bind fun x3 => ((s_gr17_value nF) p measures zones defs x3).bind fun y8 => (s_gr17_two e.Op y5 y8).bind fun y9 => some y9)))))))
def s_gr17_All_L1 (p : Plan) (measures : (List Entry)) (zones : (List (List UInt8))) (y1 : ((List Int) × (List (List UInt8)) × Int)) : Nat → (Int × (List Int)) → Option (List Int)
  | 0, _ => none
  | K1 + 1, q1 => (bif (decide (q1.1 < (List.length y1.1 : Int))) then (idx y1.1 q1.1).bind fun x1 => (idx p.Defs x1).bind fun x2 => (s_gr17_Right x2.Body).bind fun y2 => ((bif y2 then (idx y1.1 q1.1).bind fun x3 => (s_gr17_value KK p measures zones q1.2 x2.Body).bind fun y3 => (grd (0 ≤ x3 ∧ x3 < ((q1.2).length : Nat))).bind fun _ => (some (q1.2.getD (Int.toNat x3) default)).bind fun e1 => some (List.set q1.2 (Int.toNat x3) y3) else some q1.2)).bind fun v2 => (s_gr17_All_L1 p measures zones y1) K1 ((w64 (q1.1 + 1)), v2) else some q1.2)
def s_gr17_All (p : Plan) (measures : (List Entry)) (zones : (List (List UInt8))) : Option (List Int) :=
  (grd (0 ≤ (List.length p.Defs : Int) ∧ (List.length p.Defs : Int) * 8 ≤ 281474976710656 ∧ (List.length p.Defs : Int) ≤ 9223372036854775807)).bind fun _ => (s_gr16_Order p).bind fun y1 => (bif (!(decide (y1.2.2 = 0))) then some (List.replicate (Int.toNat (List.length p.Defs : Int)) (0 : Int)) else ((s_gr17_All_L1 p measures zones y1) KK (0, (List.replicate (Int.toNat (List.length p.Defs : Int)) (0 : Int)))).bind fun v1 => some v1)
def s_gr17_Eval (p : Plan) (measures : (List Entry)) (zones : (List (List UInt8))) (e : Expr) : Option Int :=
  (s_gr17_Right e).bind fun y1 => (bif (!y1) then some 0 else (s_gr17_All p measures zones).bind fun y2 => (s_gr17_value KK p measures zones y2 e).bind fun y3 => some y3)
def s_expr_All (p : Plan) (measures : (List Entry)) (zones : (List (List UInt8))) : Option (List Int) :=
  (s_expr_prepare p measures zones).bind fun y1 => some y1.2.2.1
def s_gl17_ints_L1 (a : (List Int)) (b : (List Int)) : Nat → Int → Option (Bool ⊕ Unit)
  | 0, _ => none
  | K1 + 1, q1 => (bif (decide (q1 < (List.length a : Int))) then (idx a q1).bind fun x1 => (idx b q1).bind fun x2 => (bif (!(decide (x1 = x2))) then some (.inl false) else (s_gl17_ints_L1 a b) K1 (w64 (q1 + 1))) else some (.inr ()))
def s_gl17_ints (a : (List Int)) (b : (List Int)) : Option Bool :=
  (bif (!(decide ((List.length a : Int) = (List.length b : Int)))) then some false else ((s_gl17_ints_L1 a b) KK 0 : Option (Bool ⊕ Unit)).bind fun z1 => match z1 with
 | .inl r => some r
 | .inr v1 => some true)
def s_gl17_ExprTells_L1 (measures : (List Entry)) : Nat → (Int × (List (List UInt8))) → Option (List (List UInt8))
  | 0, _ => none
  | K1 + 1, q1 => (bif (decide (q1.1 < (List.length measures : Int))) then (idx measures q1.1).bind fun x1 => (grd (((q1.2 ++ [x1.Name])).length * 16 ≤ 140737488355328)).bind fun _ => (s_gl17_ExprTells_L1 measures) K1 ((w64 (q1.1 + 1)), (q1.2 ++ [x1.Name])) else some q1.2)
def s_gl17_ExprTells (p : Plan) (measures : (List Entry)) (zones : (List (List UInt8))) (e : Expr) : Option Bool :=
  (s_gl17_small ).bind fun y1 => ((s_gl17_few p).bind fun y2 => (bif (!y2) then some true else (bif (decide ((List.length measures : Int) > 20)) then some true else (bif (decide ((List.length zones : Int) > 20)) then some true else (s_gl17_light e).bind fun y3 => some (!y3))))).bind fun v1 => (bif v1 then some y1 else ((s_gl17_ExprTells_L1 measures) KK (0, [])).bind fun v2 => ((s_expr_Right e).bind fun y4 => (s_gr17_Right e).bind fun y5 => (bif (y4 == y5) then (s_expr_Check_2 p v2 e).bind fun y6 => (s_gr17_Check p v2 e).bind fun y7 => some (decide (y6 = y7)) else some false)).bind fun v3 => ((bif y1 then (bif v3 then (s_expr_Eval_2 p measures zones e).bind fun y8 => (s_gr17_Eval p measures zones e).bind fun y9 => (bif (decide (y8 = y9)) then (s_expr_All p measures zones).bind fun y10 => (s_gr17_All p measures zones).bind fun y11 => (s_gl17_ints y10 y11).bind fun y12 => some y12 else some false) else some false) else some false)).bind fun v4 => some v4)
end
end Go.Proofs.YtconjkgifdfhdabGreat
