/- The reference returns the same names. -/
import Derived.Test.YtenljipeggacjaaGreatK
import Derived.Test.YtenljipeggacjaaGreatEwOne
set_option linter.all false
set_option maxRecDepth 100000
namespace Go.Proofs.YtenljipeggacjaaGreat
open Go Go.RowKit Go.Eng Go.EV
def wtE (e : Expr) : Nat := wtL (enc_Expr e)
def wtEs (l : List Expr) : Nat := (l.map wtE).sum
theorem wtLL_encs : ∀ l : List Expr, wtLL (encs_Expr l) = wtEs l
 | [] => by rw [encs_Expr, wtLL]; rfl
 | x :: l => by rw [encs_Expr, wtLL, wtLL_encs l, enc0_Expr_eq]; simp [wtEs, wtE]
theorem wtE_eq (e : Expr) : wtE e = e.S.length + e.Key.length + wtEs e.Args + 5 := by
 unfold wtE enc_Expr
 simp only [wtL, wtV, wtLL_encs]; omega
theorem wtEs_mem {l : List Expr} {x : Expr} (h : x ∈ l) : wtE x ≤ wtEs l := by
 induction l with
 | nil => cases h
 | cons y l ih =>
  simp only [wtEs, List.map_cons, List.sum_cons] at *
  rcases List.mem_cons.1 h with rfl | h
  ·omega
  ·have := ih h; omega
theorem wtEs_len : ∀ l : List Expr, l.length ≤ wtEs l
 | [] => by simp
 | x :: l => by
  have := wtEs_len l
  have h2 := wtE_eq x
  simp only [wtEs, List.map_cons, List.sum_cons, List.length_cons] at *
  omega
theorem arg_wt {e x : Expr} (h : x ∈ e.Args) : wtE x < wtE e := by
 have := wtEs_mem h
 have := wtE_eq e
 omega
theorem names_wt : ∀ (d : Nat) (e : Expr), wtE e ≤ d → 5 * (namesL e).length ≤ wtE e
 | 0, e, h => by have := wtE_eq e; omega
 | d + 1, e, h => by
  have h1 := wtE_eq e
  have h2 : ∀ l : List Expr, (∀ x ∈ l, 5 * (namesL x).length ≤ wtE x) → 5 * (namesLs l).length ≤ wtEs l := by
   intro l
   induction l with
   | nil => intro _; simp [namesLs]
   | cons y l ih =>
    intro hh
    have a := hh y (List.mem_cons_self ..)
    have b := ih fun x hx => hh x (List.mem_cons_of_mem _ hx)
    rw [namesLs, List.length_append]
    simp only [wtEs, List.map_cons, List.sum_cons] at *
    omega
  have h3 := h2 e.Args fun x hx => names_wt d x (by have := arg_wt hx; omega)
  rw [namesL_eq, List.length_append]
  split
  ·simp; omega
  ·simp; omega
abbrev asc (l : List (List UInt8)) : Prop := l.Pairwise (· < ·)
theorem lt_of_not {a b : List UInt8} (h : ¬ a < b) (h2 : a ≠ b) : b < a := Std.lt_of_le_of_ne (List.not_lt.1 h) (Ne.symm h2)
theorem asc_ext : ∀ {a b : List (List UInt8)}, asc a → asc b → (∀ x, x ∈ a ↔ x ∈ b) → a = b
 | [], [], _, _, _ => rfl
 | [], y :: b, _, _, h => by have := (h y).2 (List.mem_cons_self ..); cases this
 | x :: a, [], _, _, h => by have := (h x).1 (List.mem_cons_self ..); cases this
 | x :: a, y :: b, ha, hb, h => by
  obtain ⟨ha1, ha2⟩ := List.pairwise_cons.1 ha
  obtain ⟨hb1, hb2⟩ := List.pairwise_cons.1 hb
  have hxy : x = y := by
   rcases List.mem_cons.1 ((h x).1 (List.mem_cons_self ..)) with h1 | h1
   ·exact h1
   ·rcases List.mem_cons.1 ((h y).2 (List.mem_cons_self ..)) with h2 | h2
    ·exact h2.symm
    ·exact absurd (List.lt_trans (hb1 x h1) (ha1 y h2)) (List.lt_irrefl _)
  subst hxy
  rw [asc_ext ha2 hb2 fun z => ⟨fun hz => by
   rcases List.mem_cons.1 ((h z).1 (List.mem_cons_of_mem _ hz)) with rfl | h1
   ·exact absurd (ha1 z hz) (List.lt_irrefl _)
   ·exact h1, fun hz => by
   rcases List.mem_cons.1 ((h z).2 (List.mem_cons_of_mem _ hz)) with rfl | h1
   ·exact absurd (hb1 z hz) (List.lt_irrefl _)
   ·exact h1⟩]
variable [Fuel]
theorem namesV_asc (e : Expr) : asc (namesV e) := by
 obtain ⟨h1, _, _⟩ := set_keys (namesL e) [] (by simp)
 have tr : ∀ x y z : List UInt8, decide (x ≤ y) = true → decide (y ≤ z) = true → decide (x ≤ z) = true := fun x y z h1 h2 => by
  simp only [decide_eq_true_eq] at *; exact List.le_trans h1 h2
 have to : ∀ x y : List UInt8, (decide (x ≤ y) || decide (y ≤ x)) = true := fun x y => by
  simp only [Bool.or_eq_true, decide_eq_true_eq]; exact List.le_total x y
 have h2 := List.pairwise_mergeSort tr to (((namesL e).foldl (fun m x => mset x true m) ([] : List (List UInt8 × Bool))).map (·.1))
 have h3 : (((namesL e).foldl (fun m x => mset x true m) ([] : List (List UInt8 × Bool))).map (·.1)).mergeSort (fun x y => decide (x ≤ y)) |>.Nodup := (List.mergeSort_perm _ _).symm.nodup h1
 unfold namesV sortKeys
 refine (h2.and h3).imp fun h => ?_
 exact Std.lt_of_le_of_ne (of_decide_eq_true h.1) h.2
def insV (s : List UInt8) (l : List (List UInt8)) : List (List UInt8) := if s ∈ l then l else l.takeWhile (fun x => decide (x < s)) ++ [s] ++ l.dropWhile (fun x => decide (x < s))
theorem insV_mem {s x : List UInt8} {l : List (List UInt8)} : x ∈ insV s l ↔ x ∈ l ∨ x = s := by
 unfold insV
 split
 ·rename_i h
  exact ⟨.inl, fun h2 => h2.elim id fun e => e ▸ h⟩
 ·have := List.takeWhile_append_dropWhile (p := fun x => decide (x < s)) (l := l)
  rw [List.mem_append, List.mem_append, List.mem_singleton]
  conv => rhs; rw [← this, List.mem_append]
  constructor
  ·rintro ((h | h) | h)
   ·exact .inl (.inl h)
   ·exact .inr h
   ·exact .inl (.inr h)
  ·rintro ((h | h) | h)
   ·exact .inl (.inl h)
   ·exact .inr h
   ·exact .inl (.inr h)
theorem insV_len (s : List UInt8) (l : List (List UInt8)) : (insV s l).length ≤ l.length + 1 := by
 unfold insV
 split
 ·omega
 ·have := congrArg List.length (List.takeWhile_append_dropWhile (p := fun x => decide (x < s)) (l := l))
  simp only [List.length_append] at *
  simp; omega
theorem insV_asc {s : List UInt8} : ∀ {l : List (List UInt8)}, asc l → asc (insV s l)
 | [], _ => by unfold insV; rw [if_neg (by simp)]; exact List.pairwise_singleton ..
 | y :: l, h => by
  obtain ⟨h1, h2⟩ := List.pairwise_cons.1 h
  by_cases hm : s ∈ y :: l
  ·unfold insV; rw [if_pos hm]; exact h
  ·have hne : s ≠ y := fun e => hm (e ▸ List.mem_cons_self ..)
   have hnl : s ∉ l := fun e => hm (List.mem_cons_of_mem _ e)
   have ih := insV_asc (s := s) h2
   by_cases hlt : y < s
   ·have e : insV s (y :: l) = y :: insV s l := by
     unfold insV
     rw [if_neg hm, if_neg hnl, List.takeWhile_cons, List.dropWhile_cons, decide_eq_true hlt]; rfl
    rw [e]
    refine List.pairwise_cons.2 ⟨fun z hz => ?_, ih⟩
    rcases insV_mem.1 hz with h3 | rfl
    ·exact h1 z h3
    ·exact hlt
   ·have e : insV s (y :: l) = s :: y :: l := by
     unfold insV
     rw [if_neg hm, List.takeWhile_cons, List.dropWhile_cons, decide_eq_false hlt]; rfl
    have hsy := lt_of_not hlt (Ne.symm hne)
    rw [e]
    refine List.pairwise_cons.2 ⟨fun z hz => ?_, h⟩
    rcases List.mem_cons.1 hz with rfl | hz
    ·exact hsy
    ·exact List.lt_trans hsy (h1 z hz)
theorem s_Has16 {l : List (List UInt8)} {s : List UInt8} (hl : l.length < 2 ^ 62) : s_greenbeltref16_Has l s = some (decide (s ∈ l)) := by
 have key := any_loop (L := s_greenbeltref16_Has_L1 l s) (l := l) (fun x => decide (x = s)) hl (fun K i => by rw [s_greenbeltref16_Has_L1]) l.length 0 KK (by omega) (by have := KK_big; omega)
 rw [show ((0 : Nat) : Int) = 0 from rfl, List.drop_zero] at key
 unfold s_greenbeltref16_Has
 rw [key, Option.bind_some]
 have : (l.any fun x => decide (x = s)) = decide (s ∈ l) := by
  rw [Bool.eq_iff_iff, List.any_eq_true, decide_eq_true_eq]
  constructor
  ·rintro ⟨x, hx, h⟩; rw [decide_eq_true_eq] at h; subst h; exact hx
  ·intro h; exact ⟨s, h, by simp⟩
 rw [this]
 cases decide (s ∈ l) <;> rfl
theorem with_loop {l : List (List UInt8)} {s : List UInt8} (hl : l.length < 2 ^ 62) : ∀ (n i K : Nat), i + n = l.length → n < K → s_greenbeltref16_With_L1 l s K (i : Int) = some ((i + ((l.drop i).takeWhile (fun x => decide (x < s))).length : Nat) : Int)
 | 0, i, K, hi, hK => by
  obtain ⟨K, rfl⟩ : ∃ K', K = K' + 1 := ⟨K - 1, by omega⟩
  rw [s_greenbeltref16_With_L1, decide_eq_false (by omega), List.drop_of_length_le (by omega)]; simp
 | n + 1, i, K, hi, hK => by
  obtain ⟨K, rfl⟩ : ∃ K', K = K' + 1 := ⟨K - 1, by omega⟩
  have hlt : i < l.length := by omega
  rw [s_greenbeltref16_With_L1, decide_eq_true (by omega), cond_true, idx_of hlt, Option.bind_some, Option.bind_some, w64_id (by omega) (by omega), show ((i : Int) + 1) = ((i + 1 : Nat) : Int) by omega, with_loop hl n (i + 1) K (by omega) (by omega), drop_cons hlt, List.takeWhile_cons, bytesLess_eq]
  cases decide (l.getD i default < s) with
  | false => simp
  | true => simp only [cond_true, if_true, List.length_cons]; congr 2; omega
theorem take_takeWhile {α : Type} (p : α → Bool) (l : List α) : l.take (l.takeWhile p).length = l.takeWhile p ∧ l.drop (l.takeWhile p).length = l.dropWhile p := by
 have h := List.takeWhile_append_dropWhile (p := p) (l := l)
 constructor
 ·conv => lhs; arg 2; rw [← h]
  rw [List.take_left]
 ·conv => lhs; arg 2; rw [← h]
  rw [List.drop_left]
theorem s_With {l : List (List UInt8)} {s : List UInt8} (hl : l.length ≤ 4000000) : s_greenbeltref16_With l s = some (insV s l) := by
 unfold s_greenbeltref16_With insV
 rw [s_Has16 (by omega), Option.bind_some]
 by_cases hm : s ∈ l
 ·rw [decide_eq_true hm, if_pos hm]; rfl
 ·have key := with_loop (s := s) (show l.length < 2 ^ 62 by omega) l.length 0 KK (by omega) (by have := KK_big; omega)
  obtain ⟨t1, t2⟩ := take_takeWhile (fun x => decide (x < s)) l
  have hlen := congrArg List.length (List.takeWhile_append_dropWhile (p := fun x => decide (x < s)) (l := l))
  rw [List.length_append] at hlen
  rw [show ((0 : Nat) : Int) = 0 from rfl, List.drop_zero, Nat.zero_add] at key
  rw [decide_eq_false hm, if_neg hm, cond_false, key, Option.bind_some]
  have c1 : cut l 0 (((l.takeWhile (fun x => decide (x < s))).length : Nat) : Int) = some (l.takeWhile (fun x => decide (x < s))) := by
   unfold cut
   rw [if_pos ⟨by omega, by omega, by omega⟩, Int.toNat_natCast, t1]; rfl
  have c2 : cut l (((l.takeWhile (fun x => decide (x < s))).length : Nat) : Int) (l.length : Int) = some (l.dropWhile (fun x => decide (x < s))) := by
   unfold cut
   rw [if_pos ⟨by omega, by omega, by omega⟩, Int.toNat_natCast, Int.toNat_natCast, List.take_length, t2]
  rw [c1, Option.bind_some, grd_of (by omega), Option.bind_some, grd_of (by simp; omega), Option.bind_some, c2, Option.bind_some, grd_of (by simp; omega)]; rfl
theorem with_fold : ∀ (ys : List (List UInt8)) (s : List (List UInt8)), asc s → s.length + ys.length ≤ 4000000 → ∃ r, ys.foldlM (m := Option) (fun s x => s_greenbeltref16_With s x) s = some r ∧ asc r ∧ (∀ x, x ∈ r ↔ x ∈ s ∨ x ∈ ys) ∧ r.length ≤ s.length + ys.length
 | [], s, ha, hl => ⟨s, rfl, ha, fun x => by simp, by simp⟩
 | y :: ys, s, ha, hl => by
  rw [List.length_cons] at hl
  have h1 := insV_len y s
  obtain ⟨r, h2, h3, h4, h5⟩ := with_fold ys (insV y s) (insV_asc ha) (by omega)
  refine ⟨r, by rw [List.foldlM_cons, s_With (by omega)]; exact h2, h3, fun x => ?_, by rw [List.length_cons]; omega⟩
  rw [h4, insV_mem, List.mem_cons]
  constructor
  ·rintro ((h | h) | h)
   ·exact .inl h
   ·exact .inr (.inl h)
   ·exact .inr (.inr h)
  ·rintro (h | h | h)
   ·exact .inl (.inl h)
   ·exact .inl (.inr h)
   ·exact .inr h
theorem names_L2 {y s : List (List UInt8)} (ha : asc s) (hl : s.length + y.length ≤ 4000000) : ∃ r, s_greenbeltref16_Names_L2 y KK (s, 0) = some r ∧ asc r ∧ (∀ x, x ∈ r ↔ x ∈ s ∨ x ∈ y) ∧ r.length ≤ s.length + y.length := by
 obtain ⟨r, h1, h2⟩ := with_fold y s ha hl
 have key := fold_loopS (L := s_greenbeltref16_Names_L2 y) (l := y) (fun x s => s_greenbeltref16_With s x) id (by omega) (fun K i s => by
  rw [s_greenbeltref16_Names_L2]
  cases decide (i < (y.length : Int)) <;> rfl) y.length 0 KK s (by omega) (by have := KK_big; omega)
 rw [show ((0 : Nat) : Int) = 0 from rfl, List.drop_zero, h1] at key
 exact ⟨r, key, h2⟩
theorem names_fold {rc : Expr → Option (List (List UInt8))} : ∀ (l : List Expr) (s : List (List UInt8)), asc s → s.length + wtEs l ≤ 4000000 →
  (∀ x ∈ l, ∃ r, rc x = some r ∧ asc r ∧ (∀ y, y ∈ r ↔ y ∈ namesL x) ∧ r.length ≤ wtE x) →
  ∃ r, l.foldlM (m := Option) (fun s x => (rc x).bind fun y2 => (s_greenbeltref16_Names_L2 y2 KK (s, 0)).bind fun v3 => some v3) s = some r ∧ asc r ∧ (∀ x, x ∈ r ↔ x ∈ s ∨ x ∈ namesLs l) ∧ r.length ≤ s.length + wtEs l
 | [], s, ha, _, _ => ⟨s, rfl, ha, fun x => by simp [namesLs], by simp [wtEs]⟩
 | x :: l, s, ha, hl, hr => by
  have hw : wtEs (x :: l) = wtE x + wtEs l := by simp [wtEs]
  rw [hw] at hl
  obtain ⟨r1, a1, a2, a3, a4⟩ := hr x (List.mem_cons_self ..)
  obtain ⟨r2, b1, b2, b3, b4⟩ := names_L2 (y := r1) ha (by omega)
  obtain ⟨r3, c1, c2, c3, c4⟩ := names_fold l r2 b2 (by omega) fun z hz => hr z (List.mem_cons_of_mem _ hz)
  refine ⟨r3, ?_, c2, fun z => ?_, by rw [hw]; omega⟩
  ·rw [List.foldlM_cons, a1, Option.bind_some, b1]; exact c1
  ·rw [c3, b3, a3, namesLs, List.mem_append]
   constructor
   ·rintro ((h | h) | h)
    ·exact .inl h
    ·exact .inr (.inl h)
    ·exact .inr (.inr h)
   ·rintro (h | h | h)
    ·exact .inl (.inl h)
    ·exact .inl (.inr h)
    ·exact .inr h
theorem s_Names16 : ∀ (d : Nat) (e : Expr), wtE e ≤ d → wtE e ≤ 1048576 → ∀ K, d < K → ∃ r, s_greenbeltref16_Names K e = some r ∧ asc r ∧ (∀ y, y ∈ r ↔ y ∈ namesL e) ∧ r.length ≤ wtE e
 | 0, e, h, _ => by have := wtE_eq e; omega
 | d + 1, e, h, hw => by
  intro K hK
  obtain ⟨K, rfl⟩ : ∃ K', K = K' + 1 := ⟨K - 1, by omega⟩
  have h1 := wtE_eq e
  have h2 := wtEs_len e.Args
  have h0 : ∃ s0, (bif decide (e.Op = 1) then (s_greenbeltref16_With [] e.S).bind fun y1 => some y1 else some []) = some s0 ∧ asc s0 ∧ (∀ x, x ∈ s0 ↔ x ∈ (if e.Op = 1 then [e.S] else [])) ∧ s0.length ≤ 1 := by
   by_cases ho : e.Op = 1
   ·rw [decide_eq_true ho, if_pos ho, cond_true, s_With (by simp)]
    exact ⟨_, rfl, insV_asc List.Pairwise.nil, fun x => by rw [insV_mem]; simp, by have := insV_len e.S []; simpa using this⟩
   ·rw [decide_eq_false ho, if_neg ho]
    exact ⟨[], rfl, List.Pairwise.nil, fun x => by simp, by simp⟩
  obtain ⟨s0, e0, a0, m0, l0⟩ := h0
  obtain ⟨r, b1, b2, b3, b4⟩ := names_fold (rc := s_greenbeltref16_Names K) e.Args s0 a0 (by omega) fun x hx => by
   have := arg_wt hx
   exact s_Names16 d x (by omega) (by omega) K (by omega)
  have key := fold_loopS (L := s_greenbeltref16_Names_L1 (s_greenbeltref16_Names K) e) (l := e.Args) (fun x s => (s_greenbeltref16_Names K x).bind fun y2 => (s_greenbeltref16_Names_L2 y2 KK (s, 0)).bind fun v3 => some v3) id (by omega) (fun K' i s => by
   rw [s_greenbeltref16_Names_L1]
   cases decide (i < (e.Args.length : Int)) with
   | false => rfl
   | true =>
    simp only [cond_true]
    cases idx e.Args i with
    | none => rfl
    | some x =>
     simp only [Option.bind_some]
     cases s_greenbeltref16_Names K x with
     | none => rfl
     | some y2 =>
      simp only [Option.bind_some]
      cases s_greenbeltref16_Names_L2 y2 KK (s, 0) <;> rfl) e.Args.length 0 KK s0 (by omega) (by have := KK_big; omega)
  rw [show ((0 : Nat) : Int) = 0 from rfl, List.drop_zero, b1] at key
  refine ⟨r, ?_, b2, fun y => ?_, by omega⟩
  ·rw [s_greenbeltref16_Names, e0, Option.bind_some, key]; rfl
  ·rw [b3, m0, namesL_eq, List.mem_append]
theorem s_NamesR {e : Expr} (hw : wtE e ≤ 1048576) : s_greenbeltref16_Names KK e = some (namesV e) := by
 obtain ⟨r, h1, h2, h3, _⟩ := s_Names16 (wtE e) e (Nat.le_refl _) hw KK (by have := KK_big; omega)
 rw [h1, asc_ext h2 (namesV_asc e) fun x => by rw [h3, mem_namesV]]
end Go.Proofs.YtenljipeggacjaaGreat
