/- The shell of the rows: arguments opened; printed by mkshell3.py. -/
import Derived.Test.YtconjkgifdfhdaaT
import Derived.Test.YtconjkgifdfhdaaB
set_option linter.all false
set_option maxRecDepth 100000
namespace Go.Proofs.Ytconjkgifdfhdaa
open Go Go.ChangeShapes Go.WideShapes Go.ChangeAt Go.RowKit Go.Deep Go.Joins Go.EV
theorem good_9 {c : List V} (h : GoodC Try.prog 9 c) : ∃ s, c = EV.encS s ∧ okS s := good_str Try.underlying9 h
theorem good_3 {c : List V} (h : GoodC Try.prog 3 c) : ∃ n, c = EV.encI n ∧ okK .i64 n := good_int Try.underlying3 h
mutual
def okE : Expr → Prop
  | ⟨_, _, s, _, args⟩ => s.length ≤ 9223372036854775807 ∧ args.length ≤ 9223372036854775807 ∧ okEs args
def okEs : List Expr → Prop
  | [] => True
  | x :: r => okE x ∧ okEs r
end
theorem okEs_mem : ∀ {l : List Expr}, okEs l → ∀ x ∈ l, okE x
  | [], _, _, h => by cases h
  | y :: l, h, x, hx => by
    rw [okEs] at h
    rcases List.mem_cons.1 hx with rfl | hx
    · exact h.1
    · exact okEs_mem h.2 x hx
theorem okE_eq (e : Expr) : okE e = (e.S.length ≤ 9223372036854775807 ∧ e.Args.length ≤ 9223372036854775807 ∧ okEs e.Args) := by cases e; rw [okE]
theorem arg_size {e x : Expr} (h : x ∈ e.Args) : SizeOf.sizeOf x < SizeOf.sizeOf e := by
  have h1 := List.sizeOf_lt_of_mem h
  obtain ⟨a, b, c, d, l⟩ := e
  rw [Expr.mk.sizeOf_spec]
  simp only at h1
  omega
theorem namesLs_mem {k : List UInt8} : ∀ {l : List Expr}, k ∈ namesLs l → ∃ x ∈ l, k ∈ namesL x
  | [], h => by rw [namesLs] at h; cases h
  | y :: l, h => by
    rw [namesLs, List.mem_append] at h
    rcases h with h | h
    · exact ⟨y, List.mem_cons_self .., h⟩
    · obtain ⟨x, h1, h2⟩ := namesLs_mem h
      exact ⟨x, List.mem_cons_of_mem _ h1, h2⟩
theorem okE_names : ∀ (d : Nat) (e : Expr), SizeOf.sizeOf e ≤ d → okE e → ∀ k ∈ namesL e, k.length ≤ 9223372036854775807
  | 0, e, h, _ => by
    exfalso
    cases e
    rw [Expr.mk.sizeOf_spec] at h; omega
  | d + 1, e, h, ho => by
    intro k hk
    rw [okE_eq] at ho
    rw [namesL_eq, List.mem_append] at hk
    rcases hk with hk | hk
    · split at hk
      · rw [List.mem_singleton] at hk; subst hk; exact ho.1
      · cases hk
    · obtain ⟨x, h1, h2⟩ := namesLs_mem hk
      have := arg_size h1
      exact okE_names d x (by omega) (okEs_mem ho.2.2 x h1) k h2

theorem okEs_of : ∀ {l : List Expr}, (∀ x ∈ l, okE x) → okEs l
  | [], _ => by rw [okEs]; trivial
  | x :: l, h => by rw [okEs]; exact ⟨h x (List.mem_cons_self ..), okEs_of fun y hy => h y (List.mem_cons_of_mem _ hy)⟩
theorem list_enc {α : Type} {enc : α → List V} {ok : α → Prop} : ∀ {els : List (List V)}, (∀ x ∈ els, ∃ a, x = enc a ∧ ok a) → ∃ l : List α, els = l.map enc ∧ ∀ a ∈ l, ok a
  | [], _ => ⟨[], rfl, fun _ h => by cases h⟩
  | c :: els, h => by
    obtain ⟨a, rfl, ha⟩ := h c (List.mem_cons_self ..)
    obtain ⟨l, rfl, hl⟩ := list_enc (fun x hx => h x (List.mem_cons_of_mem _ hx))
    exact ⟨a :: l, rfl, fun b hb => by
      rcases List.mem_cons.1 hb with rfl | hb
      · exact ha
      · exact hl b hb⟩
theorem good_expr {t : TypeId} {cs : List V} (h : GoodC Try.prog t cs) : (t = 44 → ∃ e : Expr, cs = enc_Expr e ∧ okE e) ∧ (t = 42 → ∃ l : List Expr, cs = [.vs 5 (encs_Expr l)] ∧ l.length ≤ maxLen ∧ okEs l) := by
  induction h with
  | bool h | int h | str h => exact ⟨fun e => by (subst e; rw [Try.underlying44] at h; cases h), fun e => by subst e; rw [Try.underlying42] at h; cases h⟩
  | array h => exact ⟨fun e => by (subst e; rw [Try.underlying44] at h; cases h), fun e => by subst e; rw [Try.underlying42] at h; cases h⟩
  | other h => exact ⟨fun e => by (subst e; unfold plainT at h; rw [Try.underlying44] at h; cases h), fun e => by subst e; unfold plainT at h; rw [Try.underlying42] at h; cases h⟩
  | slice h hl hx ih =>
    refine ⟨fun e => by (subst e; rw [Try.underlying44] at h; cases h), fun e => ?_⟩
    subst e
    rw [Try.underlying42] at h
    cases h
    obtain ⟨l, rfl, h2⟩ := list_enc (fun x hx' => (ih x hx').1 rfl)
    rw [List.length_map] at hl
    exact ⟨l, by rw [show Try.prog.cellsOf 44 = 5 by kernel_rfl, encs_Expr_eq], hl, okEs_of h2⟩
  | @struct t' fs cs' h hc hx ih =>
    refine ⟨fun e => ?_, fun e => by subst e; rw [Try.underlying42] at h; cases h⟩
    subst e
    have hall : GoodC Try.prog 44 cs' := .struct h hc hx
    rw [Try.underlying44] at h
    cases h
    have hl := hc.trans (show Try.prog.cellsOf 44 = 5 by kernel_rfl)
    clear hc
    match cs', hl, hall, ih with
    | [c0, c1, c2, c3, c4], _, h, ih =>
      have h0 : GoodC Try.prog 3 [c0] := good_field Try.underlying44 h 0 0 3 1 rfl rfl rfl (by kernel_rfl)
      have h1 : GoodC Try.prog 3 [c1] := good_field Try.underlying44 h 1 1 3 1 rfl rfl rfl (by kernel_rfl)
      have h2 : GoodC Try.prog 9 [c2] := good_field Try.underlying44 h 2 2 9 1 rfl rfl rfl (by kernel_rfl)
      have h3 : GoodC Try.prog 9 [c3] := good_field Try.underlying44 h 3 3 9 1 rfl rfl rfl (by kernel_rfl)
      obtain ⟨l, e4, k4, o4⟩ := (ih _ (List.mem_of_getElem? (i := 4) rfl)).2 rfl
      obtain ⟨n0, e0, k0⟩ := good_3 h0
      obtain ⟨n1, e1, k1⟩ := good_3 h1
      obtain ⟨n2, e2, k2⟩ := good_9 h2
      obtain ⟨n3, e3, k3⟩ := good_9 h3
      have e4' : [c4] = [.vs 5 (encs_Expr l)] := by
        rw [← e4]
        exact (congrArg (fun n => (List.drop 4 [c0, c1, c2, c3, c4]).take n) (show Try.prog.cellsOf 42 = 1 by kernel_rfl)).symm
      cases e0; cases e1; cases e2; cases e3; cases e4'
      exact ⟨⟨n0, n1, n2, n3, l⟩, rfl, by rw [okE_eq]; exact ⟨k2, k4, o4⟩⟩
theorem good_Expr {c : List V} (h : GoodC Try.prog 44 c) : ∃ e : Expr, c = enc_Expr e ∧ okE e := (good_expr h).1 rfl

theorem good_Exprs {c : List V} (h : GoodC Try.prog 42 c) : ∃ l : List Expr, c = [.vs 5 (encs_Expr l)] ∧ okEs l := by
  obtain ⟨l, h1, _, h2⟩ := (good_expr h).2 rfl; exact ⟨l, h1, h2⟩

def okDef (x : Def) : Prop := okS x.Name ∧ okE x.Body
theorem good_46 {c : List V} (h : GoodC Try.prog 46 c) : ∃ x : Def, c = enc_Def x ∧ okDef x := by
  have hl := (good_struct Try.underlying46 h).1.trans (show Try.prog.cellsOf 46 = 6 by kernel_rfl)
  match c, hl, h with
  | [c0, c1, c2, c3, c4, c5], _, h =>
    have h0 : GoodC Try.prog 9 [c0] := good_field Try.underlying46 h 0 0 9 1 rfl rfl rfl (by kernel_rfl)
    have h1 : GoodC Try.prog 44 [c1, c2, c3, c4, c5] := good_field Try.underlying46 h 1 1 44 5 rfl rfl rfl (by kernel_rfl)
    obtain ⟨n0, e0, k0⟩ := good_9 h0
    obtain ⟨n1, e1, k1⟩ := good_Expr h1
    cases e0; cases e1
    exact ⟨⟨n0, n1⟩, rfl, k0, k1⟩
theorem good_22 {c : List V} (h : GoodC Try.prog 22 c) : ∃ l : List Def, c = [.vs 6 (l.map enc_Def)] ∧ okLs okDef l := by
  obtain ⟨els, rfl, hl, hx⟩ := good_slice Try.underlying22 h
  obtain ⟨l, rfl, h2⟩ := good_list (fun c h => good_46 h) hx
  rw [List.length_map] at hl
  exact ⟨l, by rw [show Try.prog.cellsOf 46 = 6 by kernel_rfl], hl, h2⟩
def okEntry (x : Entry) : Prop := okS x.Name ∧ okK .i64 x.N
theorem good_56 {c : List V} (h : GoodC Try.prog 56 c) : ∃ x : Entry, c = enc_Entry x ∧ okEntry x := by
  have hl := (good_struct Try.underlying56 h).1.trans (show Try.prog.cellsOf 56 = 2 by kernel_rfl)
  match c, hl, h with
  | [c0, c1], _, h =>
    have h0 : GoodC Try.prog 9 [c0] := good_field Try.underlying56 h 0 0 9 1 rfl rfl rfl (by kernel_rfl)
    have h1 : GoodC Try.prog 3 [c1] := good_field Try.underlying56 h 1 1 3 1 rfl rfl rfl (by kernel_rfl)
    obtain ⟨n0, e0, k0⟩ := good_9 h0
    obtain ⟨n1, e1, k1⟩ := good_3 h1
    cases e0; cases e1
    exact ⟨⟨n0, n1⟩, rfl, k0, k1⟩
theorem good_53 {c : List V} (h : GoodC Try.prog 53 c) : ∃ l : List Entry, c = [.vs 2 (l.map enc_Entry)] ∧ okLs okEntry l := by
  obtain ⟨els, rfl, hl, hx⟩ := good_slice Try.underlying53 h
  obtain ⟨l, rfl, h2⟩ := good_list (fun c h => good_56 h) hx
  rw [List.length_map] at hl
  exact ⟨l, by rw [show Try.prog.cellsOf 56 = 2 by kernel_rfl], hl, h2⟩
def okTable (x : Table) : Prop := okS x.Name ∧ (okLs okEntry) x.Rows ∧ okK .i64 x.Else
theorem good_90 {c : List V} (h : GoodC Try.prog 90 c) : ∃ x : Table, c = enc_Table x ∧ okTable x := by
  have hl := (good_struct Try.underlying90 h).1.trans (show Try.prog.cellsOf 90 = 3 by kernel_rfl)
  match c, hl, h with
  | [c0, c1, c2], _, h =>
    have h0 : GoodC Try.prog 9 [c0] := good_field Try.underlying90 h 0 0 9 1 rfl rfl rfl (by kernel_rfl)
    have h1 : GoodC Try.prog 53 [c1] := good_field Try.underlying90 h 1 1 53 1 rfl rfl rfl (by kernel_rfl)
    have h2 : GoodC Try.prog 3 [c2] := good_field Try.underlying90 h 2 2 3 1 rfl rfl rfl (by kernel_rfl)
    obtain ⟨n0, e0, k0⟩ := good_9 h0
    obtain ⟨n1, e1, k1⟩ := good_53 h1
    obtain ⟨n2, e2, k2⟩ := good_3 h2
    cases e0; cases e1; cases e2
    exact ⟨⟨n0, n1, n2⟩, rfl, k0, k1, k2⟩
theorem good_23 {c : List V} (h : GoodC Try.prog 23 c) : ∃ l : List Table, c = [.vs 3 (l.map enc_Table)] ∧ okLs okTable l := by
  obtain ⟨els, rfl, hl, hx⟩ := good_slice Try.underlying23 h
  obtain ⟨l, rfl, h2⟩ := good_list (fun c h => good_90 h) hx
  rw [List.length_map] at hl
  exact ⟨l, by rw [show Try.prog.cellsOf 90 = 3 by kernel_rfl], hl, h2⟩
theorem good_4 {c : List V} (h : GoodC Try.prog 4 c) : ∃ b : Bool, c = [.bool b] ∧ True := by
  obtain ⟨b, e⟩ := good_bool Try.underlying4 h; exact ⟨b, e, trivial⟩
def okPoint (x : Point) : Prop := okK .i64 x.X ∧ okK .i64 x.Y
theorem good_183 {c : List V} (h : GoodC Try.prog 183 c) : ∃ x : Point, c = enc_Point x ∧ okPoint x := by
  have hl := (good_struct Try.underlying183 h).1.trans (show Try.prog.cellsOf 183 = 2 by kernel_rfl)
  match c, hl, h with
  | [c0, c1], _, h =>
    have h0 : GoodC Try.prog 3 [c0] := good_field Try.underlying183 h 0 0 3 1 rfl rfl rfl (by kernel_rfl)
    have h1 : GoodC Try.prog 3 [c1] := good_field Try.underlying183 h 1 1 3 1 rfl rfl rfl (by kernel_rfl)
    obtain ⟨n0, e0, k0⟩ := good_3 h0
    obtain ⟨n1, e1, k1⟩ := good_3 h1
    cases e0; cases e1
    exact ⟨⟨n0, n1⟩, rfl, k0, k1⟩
theorem good_85 {c : List V} (h : GoodC Try.prog 85 c) : ∃ l : List Point, c = [.vs 2 (l.map enc_Point)] ∧ okLs okPoint l := by
  obtain ⟨els, rfl, hl, hx⟩ := good_slice Try.underlying85 h
  obtain ⟨l, rfl, h2⟩ := good_list (fun c h => good_183 h) hx
  rw [List.length_map] at hl
  exact ⟨l, by rw [show Try.prog.cellsOf 183 = 2 by kernel_rfl], hl, h2⟩
def okZone (x : Zone) : Prop := okS x.Name ∧ True ∧ (okLs okPoint) x.Corners
theorem good_87 {c : List V} (h : GoodC Try.prog 87 c) : ∃ x : Zone, c = enc_Zone x ∧ okZone x := by
  have hl := (good_struct Try.underlying87 h).1.trans (show Try.prog.cellsOf 87 = 3 by kernel_rfl)
  match c, hl, h with
  | [c0, c1, c2], _, h =>
    have h0 : GoodC Try.prog 9 [c0] := good_field Try.underlying87 h 0 0 9 1 rfl rfl rfl (by kernel_rfl)
    have h1 : GoodC Try.prog 4 [c1] := good_field Try.underlying87 h 1 1 4 1 rfl rfl rfl (by kernel_rfl)
    have h2 : GoodC Try.prog 85 [c2] := good_field Try.underlying87 h 2 2 85 1 rfl rfl rfl (by kernel_rfl)
    obtain ⟨n0, e0, k0⟩ := good_9 h0
    obtain ⟨n1, e1, k1⟩ := good_4 h1
    obtain ⟨n2, e2, k2⟩ := good_85 h2
    cases e0; cases e1; cases e2
    exact ⟨⟨n0, n1, n2⟩, rfl, k0, k1, k2⟩
theorem good_24 {c : List V} (h : GoodC Try.prog 24 c) : ∃ l : List Zone, c = [.vs 3 (l.map enc_Zone)] ∧ okLs okZone l := by
  obtain ⟨els, rfl, hl, hx⟩ := good_slice Try.underlying24 h
  obtain ⟨l, rfl, h2⟩ := good_list (fun c h => good_87 h) hx
  rw [List.length_map] at hl
  exact ⟨l, by rw [show Try.prog.cellsOf 87 = 3 by kernel_rfl], hl, h2⟩
theorem good_34 {c : List V} (h : GoodC Try.prog 34 c) : ∃ l : List (List UInt8), c = [.vs 1 (l.map EV.encS)] ∧ okLs okS l := by
  obtain ⟨els, rfl, hl, hx⟩ := good_slice Try.underlying34 h
  obtain ⟨l, rfl, h2⟩ := good_list (fun c h => good_9 h) hx
  rw [List.length_map] at hl
  exact ⟨l, by rw [show Try.prog.cellsOf 9 = 1 by kernel_rfl], hl, h2⟩
def okPlane (x : Plane) : Prop := okK .i64 x.Side ∧ okK .i64 x.Base ∧ okK .i64 x.Num ∧ okK .i64 x.Den
theorem good_64 {c : List V} (h : GoodC Try.prog 64 c) : ∃ x : Plane, c = enc_Plane x ∧ okPlane x := by
  have hl := (good_struct Try.underlying64 h).1.trans (show Try.prog.cellsOf 64 = 4 by kernel_rfl)
  match c, hl, h with
  | [c0, c1, c2, c3], _, h =>
    have h0 : GoodC Try.prog 3 [c0] := good_field Try.underlying64 h 0 0 3 1 rfl rfl rfl (by kernel_rfl)
    have h1 : GoodC Try.prog 3 [c1] := good_field Try.underlying64 h 1 1 3 1 rfl rfl rfl (by kernel_rfl)
    have h2 : GoodC Try.prog 3 [c2] := good_field Try.underlying64 h 2 2 3 1 rfl rfl rfl (by kernel_rfl)
    have h3 : GoodC Try.prog 3 [c3] := good_field Try.underlying64 h 3 3 3 1 rfl rfl rfl (by kernel_rfl)
    obtain ⟨n0, e0, k0⟩ := good_3 h0
    obtain ⟨n1, e1, k1⟩ := good_3 h1
    obtain ⟨n2, e2, k2⟩ := good_3 h2
    obtain ⟨n3, e3, k3⟩ := good_3 h3
    cases e0; cases e1; cases e2; cases e3
    exact ⟨⟨n0, n1, n2, n3⟩, rfl, k0, k1, k2, k3⟩
def okRule (x : Rule) : Prop := okS x.Name ∧ (okLs okS) x.Zones ∧ (okLs okS) x.Except ∧ okK .i64 x.From ∧ okK .i64 x.Until ∧ okK .i64 x.Grace ∧ True ∧ okK .i64 x.Kind ∧ okE x.Test ∧ okPlane x.Plane ∧ okK .i64 x.Uses ∧ okK .i64 x.Other ∧ okK .i64 x.N
theorem good_66 {c : List V} (h : GoodC Try.prog 66 c) : ∃ x : Rule, c = enc_Rule x ∧ okRule x := by
  have hl := (good_struct Try.underlying66 h).1.trans (show Try.prog.cellsOf 66 = 20 by kernel_rfl)
  match c, hl, h with
  | [c0, c1, c2, c3, c4, c5, c6, c7, c8, c9, c10, c11, c12, c13, c14, c15, c16, c17, c18, c19], _, h =>
    have h0 : GoodC Try.prog 9 [c0] := good_field Try.underlying66 h 0 0 9 1 rfl rfl rfl (by kernel_rfl)
    have h1 : GoodC Try.prog 34 [c1] := good_field Try.underlying66 h 1 1 34 1 rfl rfl rfl (by kernel_rfl)
    have h2 : GoodC Try.prog 34 [c2] := good_field Try.underlying66 h 2 2 34 1 rfl rfl rfl (by kernel_rfl)
    have h3 : GoodC Try.prog 3 [c3] := good_field Try.underlying66 h 3 3 3 1 rfl rfl rfl (by kernel_rfl)
    have h4 : GoodC Try.prog 3 [c4] := good_field Try.underlying66 h 4 4 3 1 rfl rfl rfl (by kernel_rfl)
    have h5 : GoodC Try.prog 3 [c5] := good_field Try.underlying66 h 5 5 3 1 rfl rfl rfl (by kernel_rfl)
    have h6 : GoodC Try.prog 4 [c6] := good_field Try.underlying66 h 6 6 4 1 rfl rfl rfl (by kernel_rfl)
    have h7 : GoodC Try.prog 3 [c7] := good_field Try.underlying66 h 7 7 3 1 rfl rfl rfl (by kernel_rfl)
    have h8 : GoodC Try.prog 44 [c8, c9, c10, c11, c12] := good_field Try.underlying66 h 8 8 44 5 rfl rfl rfl (by kernel_rfl)
    have h9 : GoodC Try.prog 64 [c13, c14, c15, c16] := good_field Try.underlying66 h 9 13 64 4 rfl rfl rfl (by kernel_rfl)
    have h10 : GoodC Try.prog 3 [c17] := good_field Try.underlying66 h 10 17 3 1 rfl rfl rfl (by kernel_rfl)
    have h11 : GoodC Try.prog 3 [c18] := good_field Try.underlying66 h 11 18 3 1 rfl rfl rfl (by kernel_rfl)
    have h12 : GoodC Try.prog 3 [c19] := good_field Try.underlying66 h 12 19 3 1 rfl rfl rfl (by kernel_rfl)
    obtain ⟨n0, e0, k0⟩ := good_9 h0
    obtain ⟨n1, e1, k1⟩ := good_34 h1
    obtain ⟨n2, e2, k2⟩ := good_34 h2
    obtain ⟨n3, e3, k3⟩ := good_3 h3
    obtain ⟨n4, e4, k4⟩ := good_3 h4
    obtain ⟨n5, e5, k5⟩ := good_3 h5
    obtain ⟨n6, e6, k6⟩ := good_4 h6
    obtain ⟨n7, e7, k7⟩ := good_3 h7
    obtain ⟨n8, e8, k8⟩ := good_Expr h8
    obtain ⟨n9, e9, k9⟩ := good_64 h9
    obtain ⟨n10, e10, k10⟩ := good_3 h10
    obtain ⟨n11, e11, k11⟩ := good_3 h11
    obtain ⟨n12, e12, k12⟩ := good_3 h12
    cases e0; cases e1; cases e2; cases e3; cases e4; cases e5; cases e6; cases e7; cases e8; cases e9; cases e10; cases e11; cases e12
    exact ⟨⟨n0, n1, n2, n3, n4, n5, n6, n7, n8, n9, n10, n11, n12⟩, rfl, k0, k1, k2, k3, k4, k5, k6, k7, k8, k9, k10, k11, k12⟩
theorem good_25 {c : List V} (h : GoodC Try.prog 25 c) : ∃ l : List Rule, c = [.vs 20 (l.map enc_Rule)] ∧ okLs okRule l := by
  obtain ⟨els, rfl, hl, hx⟩ := good_slice Try.underlying25 h
  obtain ⟨l, rfl, h2⟩ := good_list (fun c h => good_66 h) hx
  rw [List.length_map] at hl
  exact ⟨l, by rw [show Try.prog.cellsOf 66 = 20 by kernel_rfl], hl, h2⟩
def okCap (x : Cap) : Prop := okS x.Name ∧ okK .i64 x.Load ∧ okK .i64 x.Limit ∧ (okLs okPoint) x.Corners
theorem good_177 {c : List V} (h : GoodC Try.prog 177 c) : ∃ x : Cap, c = enc_Cap x ∧ okCap x := by
  have hl := (good_struct Try.underlying177 h).1.trans (show Try.prog.cellsOf 177 = 4 by kernel_rfl)
  match c, hl, h with
  | [c0, c1, c2, c3], _, h =>
    have h0 : GoodC Try.prog 9 [c0] := good_field Try.underlying177 h 0 0 9 1 rfl rfl rfl (by kernel_rfl)
    have h1 : GoodC Try.prog 3 [c1] := good_field Try.underlying177 h 1 1 3 1 rfl rfl rfl (by kernel_rfl)
    have h2 : GoodC Try.prog 3 [c2] := good_field Try.underlying177 h 2 2 3 1 rfl rfl rfl (by kernel_rfl)
    have h3 : GoodC Try.prog 85 [c3] := good_field Try.underlying177 h 3 3 85 1 rfl rfl rfl (by kernel_rfl)
    obtain ⟨n0, e0, k0⟩ := good_9 h0
    obtain ⟨n1, e1, k1⟩ := good_3 h1
    obtain ⟨n2, e2, k2⟩ := good_3 h2
    obtain ⟨n3, e3, k3⟩ := good_85 h3
    cases e0; cases e1; cases e2; cases e3
    exact ⟨⟨n0, n1, n2, n3⟩, rfl, k0, k1, k2, k3⟩
theorem good_26 {c : List V} (h : GoodC Try.prog 26 c) : ∃ l : List Cap, c = [.vs 4 (l.map enc_Cap)] ∧ okLs okCap l := by
  obtain ⟨els, rfl, hl, hx⟩ := good_slice Try.underlying26 h
  obtain ⟨l, rfl, h2⟩ := good_list (fun c h => good_177 h) hx
  rw [List.length_map] at hl
  exact ⟨l, by rw [show Try.prog.cellsOf 177 = 4 by kernel_rfl], hl, h2⟩
def okPoint3 (x : Point3) : Prop := okK .i64 x.X ∧ okK .i64 x.Y ∧ okK .i64 x.Z_
theorem good_179 {c : List V} (h : GoodC Try.prog 179 c) : ∃ x : Point3, c = enc_Point3 x ∧ okPoint3 x := by
  have hl := (good_struct Try.underlying179 h).1.trans (show Try.prog.cellsOf 179 = 3 by kernel_rfl)
  match c, hl, h with
  | [c0, c1, c2], _, h =>
    have h0 : GoodC Try.prog 3 [c0] := good_field Try.underlying179 h 0 0 3 1 rfl rfl rfl (by kernel_rfl)
    have h1 : GoodC Try.prog 3 [c1] := good_field Try.underlying179 h 1 1 3 1 rfl rfl rfl (by kernel_rfl)
    have h2 : GoodC Try.prog 3 [c2] := good_field Try.underlying179 h 2 2 3 1 rfl rfl rfl (by kernel_rfl)
    obtain ⟨n0, e0, k0⟩ := good_3 h0
    obtain ⟨n1, e1, k1⟩ := good_3 h1
    obtain ⟨n2, e2, k2⟩ := good_3 h2
    cases e0; cases e1; cases e2
    exact ⟨⟨n0, n1, n2⟩, rfl, k0, k1, k2⟩
theorem good_28 {c : List V} (h : GoodC Try.prog 28 c) : ∃ l : List Point3, c = [.vs 3 (l.map enc_Point3)] ∧ okLs okPoint3 l := by
  obtain ⟨els, rfl, hl, hx⟩ := good_slice Try.underlying28 h
  obtain ⟨l, rfl, h2⟩ := good_list (fun c h => good_179 h) hx
  rw [List.length_map] at hl
  exact ⟨l, by rw [show Try.prog.cellsOf 179 = 3 by kernel_rfl], hl, h2⟩
def okView (x : View) : Prop := okS x.Name ∧ okPoint3 x.Eye ∧ okK .i64 x.Least ∧ (okLs okPoint3) x.Targets
theorem good_181 {c : List V} (h : GoodC Try.prog 181 c) : ∃ x : View, c = enc_View x ∧ okView x := by
  have hl := (good_struct Try.underlying181 h).1.trans (show Try.prog.cellsOf 181 = 6 by kernel_rfl)
  match c, hl, h with
  | [c0, c1, c2, c3, c4, c5], _, h =>
    have h0 : GoodC Try.prog 9 [c0] := good_field Try.underlying181 h 0 0 9 1 rfl rfl rfl (by kernel_rfl)
    have h1 : GoodC Try.prog 179 [c1, c2, c3] := good_field Try.underlying181 h 1 1 179 3 rfl rfl rfl (by kernel_rfl)
    have h2 : GoodC Try.prog 3 [c4] := good_field Try.underlying181 h 2 4 3 1 rfl rfl rfl (by kernel_rfl)
    have h3 : GoodC Try.prog 28 [c5] := good_field Try.underlying181 h 3 5 28 1 rfl rfl rfl (by kernel_rfl)
    obtain ⟨n0, e0, k0⟩ := good_9 h0
    obtain ⟨n1, e1, k1⟩ := good_179 h1
    obtain ⟨n2, e2, k2⟩ := good_3 h2
    obtain ⟨n3, e3, k3⟩ := good_28 h3
    cases e0; cases e1; cases e2; cases e3
    exact ⟨⟨n0, n1, n2, n3⟩, rfl, k0, k1, k2, k3⟩
theorem good_27 {c : List V} (h : GoodC Try.prog 27 c) : ∃ l : List View, c = [.vs 6 (l.map enc_View)] ∧ okLs okView l := by
  obtain ⟨els, rfl, hl, hx⟩ := good_slice Try.underlying27 h
  obtain ⟨l, rfl, h2⟩ := good_list (fun c h => good_181 h) hx
  rw [List.length_map] at hl
  exact ⟨l, by rw [show Try.prog.cellsOf 181 = 6 by kernel_rfl], hl, h2⟩
def okPlan (x : Plan) : Prop := (okLs okDef) x.Defs ∧ (okLs okTable) x.Tables ∧ (okLs okZone) x.Zones ∧ (okLs okRule) x.Rules ∧ (okLs okCap) x.Caps ∧ (okLs okView) x.Views ∧ (okLs okPoint3) x.Sun ∧ okK .i64 x.Hours
theorem good_30 {c : List V} (h : GoodC Try.prog 30 c) : ∃ x : Plan, c = enc_Plan x ∧ okPlan x := by
  have hl := (good_struct Try.underlying30 h).1.trans (show Try.prog.cellsOf 30 = 8 by kernel_rfl)
  match c, hl, h with
  | [c0, c1, c2, c3, c4, c5, c6, c7], _, h =>
    have h0 : GoodC Try.prog 22 [c0] := good_field Try.underlying30 h 0 0 22 1 rfl rfl rfl (by kernel_rfl)
    have h1 : GoodC Try.prog 23 [c1] := good_field Try.underlying30 h 1 1 23 1 rfl rfl rfl (by kernel_rfl)
    have h2 : GoodC Try.prog 24 [c2] := good_field Try.underlying30 h 2 2 24 1 rfl rfl rfl (by kernel_rfl)
    have h3 : GoodC Try.prog 25 [c3] := good_field Try.underlying30 h 3 3 25 1 rfl rfl rfl (by kernel_rfl)
    have h4 : GoodC Try.prog 26 [c4] := good_field Try.underlying30 h 4 4 26 1 rfl rfl rfl (by kernel_rfl)
    have h5 : GoodC Try.prog 27 [c5] := good_field Try.underlying30 h 5 5 27 1 rfl rfl rfl (by kernel_rfl)
    have h6 : GoodC Try.prog 28 [c6] := good_field Try.underlying30 h 6 6 28 1 rfl rfl rfl (by kernel_rfl)
    have h7 : GoodC Try.prog 3 [c7] := good_field Try.underlying30 h 7 7 3 1 rfl rfl rfl (by kernel_rfl)
    obtain ⟨n0, e0, k0⟩ := good_22 h0
    obtain ⟨n1, e1, k1⟩ := good_23 h1
    obtain ⟨n2, e2, k2⟩ := good_24 h2
    obtain ⟨n3, e3, k3⟩ := good_25 h3
    obtain ⟨n4, e4, k4⟩ := good_26 h4
    obtain ⟨n5, e5, k5⟩ := good_27 h5
    obtain ⟨n6, e6, k6⟩ := good_28 h6
    obtain ⟨n7, e7, k7⟩ := good_3 h7
    cases e0; cases e1; cases e2; cases e3; cases e4; cases e5; cases e6; cases e7
    exact ⟨⟨n0, n1, n2, n3, n4, n5, n6, n7⟩, rfl, k0, k1, k2, k3, k4, k5, k6, k7⟩
section
variable {H : Type} {enc : TypeId × Value → H} {W : World} {b0 : Nat} {r : Reach} {v : Value} {d : DataW H} {p : List MemPlace} {t : TypeId}
theorem open_30 (hv : Value.okWide Try.prog W r b0 30 v) (h : DataW.Trod enc Try.prog W 0 (fun _ => true) true 30 v d p) : ∃ x : Plan, okPlan x ∧ Rep none W.cell? (.agg (enc_Plan x)) v ∧ wtL (enc_Plan x) ≤ Rows.uptoBulk d := by
  obtain ⟨vs, h1, h2, hw⟩ := arg_of (by kernel_rfl) h
  obtain ⟨x, rfl, hx⟩ := good_30 h1
  obtain ⟨cs, rfl, _⟩ := okWide_struct Try.underlying30 hv
  exact ⟨x, hx, ⟨cs.toList, by simp, h2⟩, hw⟩
theorem open_9 (hv : Value.okWide Try.prog W r b0 9 v) (h : DataW.Trod enc Try.prog W 0 (fun _ => true) true 9 v d p) : ∃ s : List UInt8, okS s ∧ Rep none W.cell? (.str s) v ∧ wtL [.str s] ≤ Rows.uptoBulk d := by
  obtain ⟨vs, h1, h2, hw⟩ := arg_of (by kernel_rfl) h
  obtain ⟨s, rfl, hs⟩ := good_9 h1
  obtain ⟨s', rfl, _⟩ := Go.ChangeMaps.open_string Try.underlying9 hv h
  obtain ⟨x, xs, e1, h3, _⟩ := h2
  cases e1; exact ⟨s, hs, h3, hw⟩
end
theorem plan_names {p : Plan} (h : okPlan p) : ∀ d ∈ p.Defs, ∀ k ∈ namesL d.Body, k.length ≤ 9223372036854775807 := fun d hd => okE_names _ _ (Nat.le_refl _) (h.1.2 d hd).2
theorem plan_rules {p : Plan} (h : okPlan p) : ∀ d ∈ p.Rules, ∀ k ∈ namesL d.Test, k.length ≤ 9223372036854775807 := fun d hd => okE_names _ _ (Nat.le_refl _) ((h.2.2.2.1.2 d hd).2.2.2.2.2.2.2.2.1)
end Go.Proofs.Ytconjkgifdfhdaa
