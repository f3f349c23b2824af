/- The shell of the rows: arguments opened. -/
import Derived.Test.YtenljipeggacjaaGreatRows
import Derived.Test.YtenljipeggacjaaGreatS
import Derived.Test.YtenljipeggacjaaGreatM
import Derived.Test.YtenljipeggacjaaGreatEvTwo
import Derived.Test.YtenljipeggacjaaGreatEwOne
import Derived.JoinedCond
import Derived.LaidMore
set_option linter.all false
set_option maxRecDepth 100000
namespace Go.Proofs.YtenljipeggacjaaGreat
open Go Go.ChangeShapes Go.WideShapes Go.ChangeAt Go.RowKit Go.Deep Go.Joins Go.EV
open Go.ChangeMaps (open_string)
theorem own : ownKnob Tryz.prog.godebug = none := by kernel_rfl
theorem laidOut : laidOutB Tryz.prog = true := by kernel_rfl
theorem tilesAll : ∀ t, t < Tryz.prog.types.size → tileT Tryz.prog t = true ∧ childB Tryz.prog t = true := tiles_of (by kernel_rfl)
theorem good_field {P : Program} {t : TypeId} {fs : Array Field} {cs : List V} (ht : P.underlying t = some (.struct fs)) (h : GoodC P t cs) (i : Nat) (off ty n : Nat) {f : Field} (hf : fs[i]? = some f) (ho : f.offset = off) (hy : f.type = ty) (hn : P.cellsOf ty = n) : GoodC P ty ((cs.drop off).take n) := by
  subst ho; subst hy; subst hn
  refine (good_struct ht h).2 f ?_
  rw [← Array.getElem?_toList] at hf
  exact List.mem_of_getElem? hf
theorem good_i64 {c : List V} (h : GoodC Tryz.prog 3 c) : ∃ n, c = EV.encI n ∧ okK .i64 n := good_int Tryz.underlying3 h
theorem good_string {c : List V} (h : GoodC Tryz.prog 9 c) : ∃ s, c = EV.encS s ∧ okS s := good_str Tryz.underlying9 h
theorem good_boole {c : List V} (h : GoodC Tryz.prog 4 c) : ∃ b : Bool, c = [.bool b] ∧ True := by
  obtain ⟨b, e⟩ := good_bool Tryz.underlying4 h; exact ⟨b, e, trivial⟩
def okFact (f : Fact) : Prop := okS f.Key ∧ okK .i64 f.Value ∧ okK .i64 f.From ∧ okK .i64 f.Until ∧ okK .i64 f.Known
def okAsked (f : Asked) : Prop := okS f.Key ∧ okK .i64 f.Day ∧ okK .i64 f.Value ∧ True
theorem good_Fact {c : List V} (h : GoodC Tryz.prog 49 c) : ∃ x : Fact, c = enc_Fact x ∧ okFact x := by
  have hl := (good_struct Tryz.underlying49 h).1.trans (show Tryz.prog.cellsOf 49 = 5 by kernel_rfl)
  match c, hl, h with
  | [c0, c1, c2, c3, c4], _, h =>
    have h0 : GoodC Tryz.prog 9 [c0] := good_field Tryz.underlying49 h 0 0 9 1 rfl rfl rfl (by kernel_rfl)
    have h1 : GoodC Tryz.prog 3 [c1] := good_field Tryz.underlying49 h 1 1 3 1 rfl rfl rfl (by kernel_rfl)
    have h2 : GoodC Tryz.prog 3 [c2] := good_field Tryz.underlying49 h 2 2 3 1 rfl rfl rfl (by kernel_rfl)
    have h3 : GoodC Tryz.prog 3 [c3] := good_field Tryz.underlying49 h 3 3 3 1 rfl rfl rfl (by kernel_rfl)
    have h4 : GoodC Tryz.prog 3 [c4] := good_field Tryz.underlying49 h 4 4 3 1 rfl rfl rfl (by kernel_rfl)
    obtain ⟨n0, e0, k0⟩ := good_string h0
    obtain ⟨n1, e1, k1⟩ := good_i64 h1
    obtain ⟨n2, e2, k2⟩ := good_i64 h2
    obtain ⟨n3, e3, k3⟩ := good_i64 h3
    obtain ⟨n4, e4, k4⟩ := good_i64 h4
    cases e0; cases e1; cases e2; cases e3; cases e4
    exact ⟨⟨n0, n1, n2, n3, n4⟩, rfl, k0, k1, k2, k3, k4⟩
theorem good_Facts {c : List V} (h : GoodC Tryz.prog 22 c) : ∃ l : List Fact, c = [.vs 5 (l.map enc_Fact)] ∧ okLs okFact l := by
  obtain ⟨els, rfl, hl, hx⟩ := good_slice Tryz.underlying22 h
  obtain ⟨l, rfl, h2⟩ := good_list (fun c h => good_Fact h) hx
  rw [List.length_map] at hl
  exact ⟨l, by rw [show Tryz.prog.cellsOf 49 = 5 by kernel_rfl], hl, h2⟩
theorem good_Asked {c : List V} (h : GoodC Tryz.prog 52 c) : ∃ x : Asked, c = enc_Asked x ∧ okAsked x := by
  have hl := (good_struct Tryz.underlying52 h).1.trans (show Tryz.prog.cellsOf 52 = 4 by kernel_rfl)
  match c, hl, h with
  | [c0, c1, c2, c3], _, h =>
    have h0 : GoodC Tryz.prog 9 [c0] := good_field Tryz.underlying52 h 0 0 9 1 rfl rfl rfl (by kernel_rfl)
    have h1 : GoodC Tryz.prog 3 [c1] := good_field Tryz.underlying52 h 1 1 3 1 rfl rfl rfl (by kernel_rfl)
    have h2 : GoodC Tryz.prog 3 [c2] := good_field Tryz.underlying52 h 2 2 3 1 rfl rfl rfl (by kernel_rfl)
    have h3 : GoodC Tryz.prog 4 [c3] := good_field Tryz.underlying52 h 3 3 4 1 rfl rfl rfl (by kernel_rfl)
    obtain ⟨n0, e0, k0⟩ := good_string h0
    obtain ⟨n1, e1, k1⟩ := good_i64 h1
    obtain ⟨n2, e2, k2⟩ := good_i64 h2
    obtain ⟨n3, e3, k3⟩ := good_boole h3
    cases e0; cases e1; cases e2; cases e3
    exact ⟨⟨n0, n1, n2, n3⟩, rfl, k0, k1, k2, k3⟩
theorem good_Askeds {c : List V} (h : GoodC Tryz.prog 29 c) : ∃ l : List Asked, c = [.vs 4 (l.map enc_Asked)] ∧ okLs okAsked l := by
  obtain ⟨els, rfl, hl, hx⟩ := good_slice Tryz.underlying29 h
  obtain ⟨l, rfl, h2⟩ := good_list (fun c h => good_Asked h) hx
  rw [List.length_map] at hl
  exact ⟨l, by rw [show Tryz.prog.cellsOf 52 = 4 by kernel_rfl], hl, h2⟩
theorem okEs_of : ∀ {l : List Expr}, (∀ x ∈ l, okE x) → okEs l
  | [], _ => by rw [okEs]; trivial
  | x :: l, h => by rw [okEs]; exact ⟨h x (List.mem_cons_self ..), okEs_of fun y hy => h y (List.mem_cons_of_mem _ hy)⟩
theorem list_enc {α : Type} {enc : α → List V} {ok : α → Prop} : ∀ {els : List (List V)}, (∀ x ∈ els, ∃ a, x = enc a ∧ ok a) → ∃ l : List α, els = l.map enc ∧ ∀ a ∈ l, ok a
  | [], _ => ⟨[], rfl, fun _ h => by cases h⟩
  | c :: els, h => by
    obtain ⟨a, rfl, ha⟩ := h c (List.mem_cons_self ..)
    obtain ⟨l, rfl, hl⟩ := list_enc (fun x hx => h x (List.mem_cons_of_mem _ hx))
    exact ⟨a :: l, rfl, fun b hb => by
      rcases List.mem_cons.1 hb with rfl | hb
      · exact ha
      · exact hl b hb⟩
theorem good_expr {t : TypeId} {cs : List V} (h : GoodC Tryz.prog t cs) : (t = 28 → ∃ e : Expr, cs = enc_Expr e ∧ okE e) ∧ (t = 26 → ∃ l : List Expr, cs = [.vs 5 (encs_Expr l)] ∧ l.length ≤ maxLen ∧ okEs l) := by
  induction h with
  | bool h | int h | str h => exact ⟨fun e => by (subst e; rw [Tryz.underlying28] at h; cases h), fun e => by subst e; rw [Tryz.underlying26] at h; cases h⟩
  | array h => exact ⟨fun e => by (subst e; rw [Tryz.underlying28] at h; cases h), fun e => by subst e; rw [Tryz.underlying26] at h; cases h⟩
  | other h => exact ⟨fun e => by (subst e; unfold plainT at h; rw [Tryz.underlying28] at h; cases h), fun e => by subst e; unfold plainT at h; rw [Tryz.underlying26] at h; cases h⟩
  | slice h hl hx ih =>
    refine ⟨fun e => by (subst e; rw [Tryz.underlying28] at h; cases h), fun e => ?_⟩
    subst e
    rw [Tryz.underlying26] at h
    cases h
    obtain ⟨l, rfl, h2⟩ := list_enc (fun x hx' => (ih x hx').1 rfl)
    rw [List.length_map] at hl
    exact ⟨l, by rw [show Tryz.prog.cellsOf 28 = 5 by kernel_rfl, encs_Expr_eq], hl, okEs_of h2⟩
  | @struct t' fs cs' h hc hx ih =>
    refine ⟨fun e => ?_, fun e => by subst e; rw [Tryz.underlying26] at h; cases h⟩
    subst e
    have hall : GoodC Tryz.prog 28 cs' := .struct h hc hx
    rw [Tryz.underlying28] at h
    cases h
    have hl := hc.trans (show Tryz.prog.cellsOf 28 = 5 by kernel_rfl)
    clear hc
    match cs', hl, hall, ih with
    | [c0, c1, c2, c3, c4], _, h, ih =>
      have h0 : GoodC Tryz.prog 3 [c0] := good_field Tryz.underlying28 h 0 0 3 1 rfl rfl rfl (by kernel_rfl)
      have h1 : GoodC Tryz.prog 3 [c1] := good_field Tryz.underlying28 h 1 1 3 1 rfl rfl rfl (by kernel_rfl)
      have h2 : GoodC Tryz.prog 9 [c2] := good_field Tryz.underlying28 h 2 2 9 1 rfl rfl rfl (by kernel_rfl)
      have h3 : GoodC Tryz.prog 9 [c3] := good_field Tryz.underlying28 h 3 3 9 1 rfl rfl rfl (by kernel_rfl)
      obtain ⟨l, e4, k4, o4⟩ := (ih _ (List.mem_of_getElem? (i := 4) rfl)).2 rfl
      obtain ⟨n0, e0, k0⟩ := good_i64 h0
      obtain ⟨n1, e1, k1⟩ := good_i64 h1
      obtain ⟨n2, e2, k2⟩ := good_string h2
      obtain ⟨n3, e3, k3⟩ := good_string h3
      have e4' : [c4] = [.vs 5 (encs_Expr l)] := by
        rw [← e4]
        exact (congrArg (fun n => (List.drop 4 [c0, c1, c2, c3, c4]).take n) (show Tryz.prog.cellsOf 26 = 1 by kernel_rfl)).symm
      cases e0; cases e1; cases e2; cases e3; cases e4'
      exact ⟨⟨n0, n1, n2, n3, l⟩, rfl, by rw [okE_eq]; exact ⟨k2, k4, o4⟩⟩
theorem good_Expr {c : List V} (h : GoodC Tryz.prog 28 c) : ∃ e : Expr, c = enc_Expr e ∧ okE e := (good_expr h).1 rfl
def okFormula (f : Formula) : Prop := okK .i64 f.Id ∧ okK .i64 f.Day ∧ okK .i64 f.Known ∧ okE f.Body ∧ okK .i64 f.Result ∧ okLs okAsked f.Asked
theorem good_Formula {c : List V} (h : GoodC Tryz.prog 31 c) : ∃ x : Formula, c = enc_Formula x ∧ okFormula x := by
  have hl := (good_struct Tryz.underlying31 h).1.trans (show Tryz.prog.cellsOf 31 = 10 by kernel_rfl)
  match c, hl, h with
  | [c0, c1, c2, c3, c4, c5, c6, c7, c8, c9], _, h =>
    have h0 : GoodC Tryz.prog 3 [c0] := good_field Tryz.underlying31 h 0 0 3 1 rfl rfl rfl (by kernel_rfl)
    have h1 : GoodC Tryz.prog 3 [c1] := good_field Tryz.underlying31 h 1 1 3 1 rfl rfl rfl (by kernel_rfl)
    have h2 : GoodC Tryz.prog 3 [c2] := good_field Tryz.underlying31 h 2 2 3 1 rfl rfl rfl (by kernel_rfl)
    have h3 : GoodC Tryz.prog 28 [c3, c4, c5, c6, c7] := good_field Tryz.underlying31 h 3 3 28 5 rfl rfl rfl (by kernel_rfl)
    have h4 : GoodC Tryz.prog 3 [c8] := good_field Tryz.underlying31 h 4 8 3 1 rfl rfl rfl (by kernel_rfl)
    have h5 : GoodC Tryz.prog 29 [c9] := good_field Tryz.underlying31 h 5 9 29 1 rfl rfl rfl (by kernel_rfl)
    obtain ⟨n0, e0, k0⟩ := good_i64 h0
    obtain ⟨n1, e1, k1⟩ := good_i64 h1
    obtain ⟨n2, e2, k2⟩ := good_i64 h2
    obtain ⟨n3, e3, k3⟩ := good_Expr h3
    obtain ⟨n4, e4, k4⟩ := good_i64 h4
    obtain ⟨n5, e5, k5⟩ := good_Askeds h5
    cases e0; cases e1; cases e2; cases e3; cases e4; cases e5
    exact ⟨⟨n0, n1, n2, n3, n4, n5⟩, rfl, k0, k1, k2, k3, k4, k5⟩
theorem good_Formulas {c : List V} (h : GoodC Tryz.prog 23 c) : ∃ l : List Formula, c = [.vs 10 (l.map enc_Formula)] ∧ okLs okFormula l := by
  obtain ⟨els, rfl, hl, hx⟩ := good_slice Tryz.underlying23 h
  obtain ⟨l, rfl, h2⟩ := good_list (fun c h => good_Formula h) hx
  rw [List.length_map] at hl
  exact ⟨l, by rw [show Tryz.prog.cellsOf 31 = 10 by kernel_rfl], hl, h2⟩
theorem bulk_sum {H : Type} : ∀ l : List (DataW H), (l.map Rows.uptoBulk).sum = Rows.uptoBulkAll l
  | [] => by simp [Rows.uptoBulkAll]
  | x :: l => by rw [List.map_cons, List.sum_cons, bulk_sum l]; simp only [Rows.uptoBulkAll]
theorem bulk_is {H : Type} : Bulk (H := H) Rows.uptoBulk where
  one d := by
    cases d with
    | lit l => cases l <;> simp [Rows.uptoBulk]
    | nil => simp [Rows.uptoBulk]
    | ptr d => simp [Rows.uptoBulk]
    | slice elems spare => simp [Rows.uptoBulk]
    | agg parts => simp [Rows.uptoBulk]
    | iface t d => simp [Rows.uptoBulk]
    | map entries => simp [Rows.uptoBulk]
    | held h => simp [Rows.uptoBulk]
  str s := by simp [Rows.uptoBulk]
  agg l := by rw [bulk_sum]; simp only [Rows.uptoBulk]; omega
  slice e s := by rw [bulk_sum]; simp only [Rows.uptoBulk]; omega
theorem bulk_part {H : Type} {d : DataW H} {l : List (DataW H)} (h : d ∈ l) : Rows.uptoBulk d ≤ Rows.uptoBulkAll l := by
  induction l with
  | nil => cases h
  | cons x r ih =>
    simp only [Rows.uptoBulkAll]
    cases List.mem_cons.1 h with
    | inl e => subst e; omega
    | inr e => have := ih e; omega
theorem wt_formulas {l : List Formula} {f : Formula} (h : f ∈ l) : wtE f.Body ≤ wtLL (l.map enc_Formula) := by
  induction l with
  | nil => cases h
  | cons g l ih =>
    rw [List.map_cons, wtLL]
    rcases List.mem_cons.1 h with rfl | h
    · have := wtE_eq f.Body
      unfold enc_Formula
      simp only [wtL, wtV, wtLL_encs]; omega
    · have := ih h; omega
section
variable {H : Type} {enc : TypeId × Value → H} {W : World} {b0 : Nat} {r : Reach} {v : Value} {d : DataW H} {p : List MemPlace} {t : TypeId}
theorem arg_of (ht : Nat.ble (t + 1) Tryz.prog.types.size = true) (h : DataW.Trod enc Tryz.prog W 0 (fun _ => true) true t v d p) : ∃ vs, GoodC Tryz.prog t vs ∧ RepL none W.cell? vs v.cells.toList ∧ wtL vs ≤ Rows.uptoBulk d := by
  obtain ⟨fuel, hf⟩ := h
  exact good_ofW bulk_is tilesAll fuel t _ _ (Nat.le_of_ble_eq_true ht) hf
theorem arg_slice {e : TypeId} {c : V} (ht : Tryz.prog.underlying t = some (.slice e)) (hv : Value.okWide Tryz.prog W r b0 t v) (h : RepL none W.cell? [c] v.cells.toList) : Rep none W.cell? c v := by
  obtain ⟨a0, len0, cap0, rfl⟩ := okWide_slice ht hv
  obtain ⟨x, xs, e1, h2, h3⟩ := h
  cases e1; exact h2
theorem open_Fact (hv : Value.okWide Tryz.prog W r b0 49 v) (h : DataW.Trod enc Tryz.prog W 0 (fun _ => true) true 49 v d p) : ∃ x : Fact, okFact x ∧ Rep none W.cell? (.agg (enc_Fact x)) v := by
  obtain ⟨vs, h1, h2, hw⟩ := arg_of (by kernel_rfl) h
  obtain ⟨x, rfl, hx⟩ := good_Fact h1
  obtain ⟨cs, rfl, _⟩ := okWide_struct Tryz.underlying49 hv
  exact ⟨x, hx, cs.toList, by simp, h2⟩
theorem open_Facts (hv : Value.okWide Tryz.prog W r b0 22 v) (h : DataW.Trod enc Tryz.prog W 0 (fun _ => true) true 22 v d p) : ∃ l : List Fact, okLs okFact l ∧ Rep none W.cell? (.vs 5 (l.map enc_Fact)) v := by
  obtain ⟨vs, h1, h2, hw⟩ := arg_of (by kernel_rfl) h
  obtain ⟨l, rfl, hl⟩ := good_Facts h1
  exact ⟨l, hl, arg_slice Tryz.underlying22 hv h2⟩
theorem open_Formulas (hv : Value.okWide Tryz.prog W r b0 23 v) (h : DataW.Trod enc Tryz.prog W 0 (fun _ => true) true 23 v d p) : ∃ l : List Formula, okLs okFormula l ∧ (∀ f ∈ l, wtE f.Body ≤ Rows.uptoBulk d) ∧ Rep none W.cell? (.vs 10 (l.map enc_Formula)) v := by
  obtain ⟨vs, h1, h2, hw⟩ := arg_of (by kernel_rfl) h
  obtain ⟨l, rfl, hl⟩ := good_Formulas h1
  exact ⟨l, hl, fun f hf => by (have := wt_formulas hf; simp only [wtL, wtV] at hw; omega), arg_slice Tryz.underlying23 hv h2⟩
theorem open_num (hv : Value.okWide Tryz.prog W r b0 3 v) (h : DataW.Trod enc Tryz.prog W 0 (fun _ => true) true 3 v d p) : ∃ n : Int, okK .i64 n ∧ Rep none W.cell? (.int .i64 n) v := by
  obtain ⟨vs, h1, h2, hw⟩ := arg_of (by kernel_rfl) h
  obtain ⟨s, rfl, hs⟩ := good_i64 h1
  obtain ⟨n, rfl, _⟩ := open_int Tryz.underlying3 hv h
  obtain ⟨x, xs, e1, h3, _⟩ := h2
  cases e1; exact ⟨s, hs, h3⟩
end
/-- Fuel for these formulas. -/
theorem fuel_for : ∀ l : List Formula, (∀ f ∈ l, okFormula f) → ∃ i : Fuel, ∀ f ∈ l, @okF i f := fun l hl => by
  obtain ⟨n, hn⟩ : ∃ n : Nat, ∀ f ∈ l, SizeOf.sizeOf f.Body ≤ n := by
    clear hl
    induction l with
    | nil => exact ⟨0, fun f hf => by cases hf⟩
    | cons g l ih =>
      obtain ⟨n, hn⟩ := ih
      refine ⟨n + SizeOf.sizeOf g.Body, fun f hf => ?_⟩
      rcases List.mem_cons.1 hf with rfl | hf
      · omega
      · have := hn f hf; omega
  refine ⟨⟨18446744073709551616 + n + 1, by omega⟩, fun f hf => ⟨(hl f hf).2.2.2.1, ?_⟩⟩
  have := hn f hf
  show SizeOf.sizeOf f.Body < 18446744073709551616 + n + 1
  omega
/-- A law's call. -/
theorem law_calls {f : FuncId} {args : List V} {vals : List Value} {W : World} (h : FnA Tryz.prog f args [] (.bool true) []) (hv : RepL none W.cell? args vals) :
    Calls Tryz.prog f vals.toArray W fun e W' => e = .returned (.bool true) ∧ Below W.heap.size W W' := by
  refine Calls.mono (fnIs_of (r := .bool true) (fun _ _ _ h => h) h hv) fun e W' ⟨v, he, hb, hx⟩ => ?_
  subst hx
  exact ⟨he, hb⟩
end Go.Proofs.YtenljipeggacjaaGreat
