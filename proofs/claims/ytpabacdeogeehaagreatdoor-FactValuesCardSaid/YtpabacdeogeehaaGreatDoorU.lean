/- FactValues is true. -/
import Derived.Test.YtpabacdeogeehaaGreatDoorR
set_option linter.all false
set_option maxRecDepth 100000
namespace Go.Proofs.YtpabacdeogeehaaGreatDoor
open Go Go.RowKit Go.Eng Go.EV
def numsF (f : Fact) : List Int := [f.Value, f.From, f.Until, f.Known]
def encH (f : Fact) : List UInt8 := encL eI (numsF f)
theorem numsF_ok {f : Fact} (h : goodF f) : ∀ x ∈ numsF f, I64 x := fun x hx => by
 simp only [numsF, List.mem_cons, List.not_mem_nil, or_false] at hx
 rcases hx with rfl | rfl | rfl | rfl
 ·exact h.1
 ·exact h.2.1
 ·exact h.2.2.1
 ·exact h.2.2.2
theorem encH_len {f : Fact} (h : goodF f) : (encH f).length ≤ 200 := by
 have h1 := itoa_len h.1
 have h2 := itoa_len h.2.1
 have h3 := itoa_len h.2.2.1
 have h4 := itoa_len h.2.2.2
 have h5 := itoa_len (n := ((numsF f).length : Int)) ⟨by simp [numsF], by simp [numsF]⟩
 unfold encH encL
 simp only [numsF, List.flatMap_cons, List.flatMap_nil, eI, encN, List.length_append, List.length_cons, List.length_nil] at *
 omega
theorem flat_len : ∀ l : List Fact, (∀ f ∈ l, goodF f) → (l.flatMap encH).length ≤ 200 * l.length
 | [], _ => by simp
 | f :: l, h => by
  have h1 := encH_len (h f (List.mem_cons_self ..))
  have h2 := flat_len l fun x hx => h x (List.mem_cons_of_mem _ hx)
  rw [List.flatMap_cons, List.length_append, List.length_cons]; omega
variable [Fuel]
theorem nums_of {f : Fact} (h : goodF f) : s_wire_Nums [f.Value, f.From, f.Until, f.Known] = some (encH f) := by
 have hl := encH_len h
 exact s_Nums (l := numsF f) (numsF_ok h) (by show (encH f).length ≤ _; omega) (by simp [numsF])
theorem write_fold : ∀ (l : List Fact) (s : List UInt8), (∀ f ∈ l, goodF f) → s.length + 200 * l.length ≤ 1000000 →
  l.foldlM (m := Option) (fun s f => (s_wire_Nums [f.Value, f.From, f.Until, f.Known]).bind fun y9 => (grd (List.length s + List.length y9 ≤ 9223372036854775807)).bind fun _ => some (s ++ y9)) s = some (s ++ l.flatMap encH)
 | [], s, _, _ => by simp
 | f :: l, s, h, hl => by
  rw [List.length_cons] at hl
  have hf := h f (List.mem_cons_self ..)
  have h1 := encH_len hf
  rw [List.foldlM_cons, nums_of hf, Option.bind_some, grd_of (by omega)]
  show List.foldlM _ (s ++ encH f) l = _
  rw [write_fold l _ (fun x hx => h x (List.mem_cons_of_mem _ hx)) (by rw [List.length_append]; omega)]
  simp
theorem write_L2 {l : List Fact} (h : ∀ f ∈ l, goodF f) (hl : l.length ≤ 100) : s_greenbeltlaw44_FactValues_L2 l KK ([], 0) = some (l.flatMap encH) := by
 have key := fold_loopS (L := s_greenbeltlaw44_FactValues_L2 l) (l := l) (fun f s => (s_wire_Nums [f.Value, f.From, f.Until, f.Known]).bind fun y9 => (grd (List.length s + List.length y9 ≤ 9223372036854775807)).bind fun _ => some (s ++ y9)) id (by omega) (fun K i s => by
  rw [s_greenbeltlaw44_FactValues_L2]
  cases decide (i < (l.length : Int)) with
  | false => simp only [cond_false, id]
  | true =>
   simp only [cond_true]
   cases idx l i with
   | none => simp only [Option.bind_none]
   | some x =>
    simp only [Option.bind_some]
    cases s_wire_Nums [x.Value, x.From, x.Until, x.Known] with
    | none => simp only [Option.bind_none]
    | some y =>
     simp only [Option.bind_some]
     cases grd (List.length s + List.length y ≤ 9223372036854775807) with
     | none => simp only [Option.bind_none]
     | some u => simp only [Option.bind_some]) l.length 0 KK [] (by omega) (by have := KK_big; omega)
 rw [show ((0 : Nat) : Int) = 0 from rfl, List.drop_zero, write_fold l [] h (by simp; omega)] at key
 exact key
theorem read_L3 {l : List Fact} (h : ∀ f ∈ l, goodF f) (hl : l.length ≤ 100) : ∀ (n i K : Nat), i + n = l.length → n < K → s_greenbeltlaw44_FactValues_L3 l K ((i : Int), (l.drop i).flatMap encH, false) = some (.inr ([], false))
 | 0, i, K, hi, hK => by
  obtain ⟨K, rfl⟩ : ∃ K', K = K' + 1 := ⟨K - 1, by omega⟩
  rw [s_greenbeltlaw44_FactValues_L3, decide_eq_false (by simp only; omega), cond_false, List.drop_of_length_le (by omega)]; rfl
 | n + 1, i, K, hi, hK => by
  obtain ⟨K, rfl⟩ : ∃ K', K = K' + 1 := ⟨K - 1, by omega⟩
  have hlt : i < l.length := by omega
  have hf := h _ (getD_mem hlt)
  have hrest := flat_len (l.drop i) fun x hx => h x (List.mem_of_mem_drop hx)
  rw [List.length_drop] at hrest
  have ih := read_L3 h hl n (i + 1) K (by omega) (by omega)
  have hsp : (l.drop i).flatMap encH = encH (l.getD i default) ++ (l.drop (i + 1)).flatMap encH := by rw [drop_cons hlt, List.flatMap_cons]
  have hN : s_wire_Reader_Nums ((l.drop i).flatMap encH) false = some (numsF (l.getD i default), (l.drop (i + 1)).flatMap encH, false) := by
   rw [Nums_spec (fun h => by cases h) (by omega), Dec_of (pf_list pfI) (x := numsF (l.getD i default)) (t := (l.drop (i + 1)).flatMap encH) ⟨by simp [numsF], fun x hx => ⟨numsF_ok hf x hx, (numsF_ok hf x hx).1⟩⟩ hsp]; rfl
  rw [s_greenbeltlaw44_FactValues_L3, decide_eq_true (by simp only; omega), cond_true]
  simp only
  rw [hN, idx_of hlt]
  simp only [Option.bind_some]
  have i0 : idx (numsF (l.getD i default)) 0 = some (l.getD i default).Value := rfl
  have i1 : idx (numsF (l.getD i default)) 1 = some (l.getD i default).From := rfl
  have i2 : idx (numsF (l.getD i default)) 2 = some (l.getD i default).Until := rfl
  have i3 : idx (numsF (l.getD i default)) 3 = some (l.getD i default).Known := rfl
  rw [i0, i1, i2, i3, w64_id (by omega) (by omega), show ((i : Int) + 1) = ((i + 1 : Nat) : Int) by omega]
  simp only [Option.bind_some, decide_true, Bool.not_true, cond_false]
  rw [show decide (((numsF (l.getD i default)).length : Int) = 4) = true from rfl]
  simp only [Bool.not_true, cond_false]
  exact ih
omit [Fuel] in
theorem right_x : ∀ (i : Fuel) (key : List UInt8) (n : Int), @s_expr_Right i (Expr.mk 5 0 [] [] [Expr.mk 1 0 key [] [], Expr.mk 0 n [] [] []]) = some true := by
 rintro ⟨N, hb⟩ key n
 obtain ⟨m, rfl⟩ : ∃ m, N = m + 100 := ⟨N - 100, by omega⟩
 rfl
omit [Fuel] in
theorem value_x : ∀ (i : Fuel) (known : List (List UInt8 × Int)) (key : List UInt8) (n : Int), @s_expr_context_value i (@KK i) plan0 known [] (Expr.mk 5 0 [] [] [Expr.mk 1 0 key [] [], Expr.mk 0 n [] [] []]) = some (w64 ((mfind key known).getD 0 - n)) := by
 rintro ⟨N, hb⟩ known key n
 obtain ⟨m, rfl⟩ : ∃ m, N = m + 100 := ⟨N - 100, by omega⟩
 rfl
theorem eval_x {m : List Entry} (h : m.length < 2 ^ 62) (key : List UInt8) (n : Int) : s_expr_Eval plan0 m [] 5 0 [] [] [Expr.mk 1 0 key [] [], Expr.mk 0 n [] [] []] = some (w64 ((firstE m key).getD 0 - n)) := by
 obtain ⟨known, hp, hk⟩ := prepare_known h
 unfold s_expr_Eval
 rw [right_x, hp]
 simp only [Option.bind_some, Bool.not_true, cond_false]
 rw [value_x, hk]; rfl
theorem few_ex (base : List Fact) (hl : base.length ≤ 9223372036854775807) : ∃ b, s_greenbeltlaw44_few base = some b ∧ (b = true → base.length ≤ 16) := by
 have key : ∀ (n i K : Nat), i + n = base.length → n < K → ∃ r, s_greenbeltlaw44_few_L1 base K (i : Int) = some r ∧ ∀ b, r = .inl b → b = false := by
  intro n
  induction n with
  | zero =>
   intro i K hi hK
   obtain ⟨K, rfl⟩ : ∃ K', K = K' + 1 := ⟨K - 1, by omega⟩
   rw [s_greenbeltlaw44_few_L1, decide_eq_false (by omega), cond_false]
   exact ⟨_, rfl, fun b e => by cases e⟩
  | succ n ih =>
   intro i K hi hK
   obtain ⟨K, rfl⟩ : ∃ K', K = K' + 1 := ⟨K - 1, by omega⟩
   rw [s_greenbeltlaw44_few_L1, decide_eq_true (by omega), cond_true, idx_of (by omega), Option.bind_some, w64_id (by omega) (by omega), show ((i : Int) + 1) = ((i + 1 : Nat) : Int) by omega]
   cases decide (((base.getD i default).Key.length : Int) > 40) with
   | true => exact ⟨_, rfl, fun b e => by cases e; rfl⟩
   | false => exact ih (i + 1) K (by omega) (by omega)
 obtain ⟨r, h1, h2⟩ := key base.length 0 KK (by omega) (by have := KK_big; omega)
 rw [show ((0 : Nat) : Int) = 0 from rfl] at h1
 unfold s_greenbeltlaw44_few
 rw [h1, Option.bind_some]
 cases r with
 | inl b => exact ⟨b, rfl, fun e => by have := h2 b rfl; rw [e] at this; cases this⟩
 | inr u => exact ⟨_, rfl, fun e => by have := of_decide_eq_true e; omega⟩
end Go.Proofs.YtpabacdeogeehaaGreatDoor
