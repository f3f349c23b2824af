/- The law's bounds, and the reference's names. -/
import Derived.Test.YtconjkgifdfhdabGreatF
set_option linter.all false
set_option maxRecDepth 100000
namespace Go.Proofs.YtconjkgifdfhdabGreat
open Go Go.RowKit Go.Eng Go.EV Go.Grf
theorem w64_succ' {i : Nat} (h : i < 4611686018427387904) : w64 ((i : Int) + 1) = ((i + 1 : Nat) : Int) := by rw [w64_id (by omega) (by omega)]; omega
/- how many nodes -/
mutual
def cnt : Expr → Nat
 | ⟨_, _, _, _, l⟩ => cnts l + 1
def cnts : List Expr → Nat
 | [] => 0
 | x :: r => cnt x + cnts r
end
theorem cnt_eq (e : Expr) : cnt e = cnts e.Args + 1 := by cases e; rw [cnt]
theorem cnt_pos (e : Expr) : 1 ≤ cnt e := by rw [cnt_eq]; omega
theorem cnts_app : ∀ a b : List Expr, cnts (a ++ b) = cnts a + cnts b
 | [], b => by simp [cnts]
 | x :: a, b => by rw [List.cons_append, cnts, cnts, cnts_app a b]; omega
theorem len_cnts : ∀ l : List Expr, l.length ≤ cnts l
 | [] => by simp
 | x :: l => by have := len_cnts l; have := cnt_pos x; rw [cnts, List.length_cons]; omega
theorem mem_cnts {x : Expr} : ∀ {l : List Expr}, x ∈ l → cnt x ≤ cnts l
 | y :: l, h => by
  rw [cnts]
  rcases List.mem_cons.1 h with rfl | h
  ·omega
  ·have := mem_cnts h; omega
def lvl : Nat → Expr → Prop
 | 0, _ => False
 | n + 1, e => ∀ x ∈ e.Args, lvl n x
theorem names_cnt : ∀ (n : Nat) (e : Expr), lvl n e → (namesL e).length ≤ cnt e
 | 0, e, h => h.elim
 | n + 1, e, h => by
  have h2 : ∀ l : List Expr, (∀ x ∈ l, (namesL x).length ≤ cnt x) → (namesLs l).length ≤ cnts l := by
   intro l
   induction l with
   | nil => intro _; simp [namesLs]
   | cons y l ih =>
    intro hh
    have a := hh y (List.mem_cons_self ..)
    have b := ih fun x hx => hh x (List.mem_cons_of_mem _ hx)
    rw [namesLs, List.length_append, cnts]; omega
  have h3 := h2 e.Args fun x hx => names_cnt n x (h x hx)
  rw [namesL_eq, List.length_append, cnt_eq]
  split
  ·simp; omega
  ·simp; omega
variable [Fuel]
theorem nodes_is : ∀ (lv : Nat) (e : Expr) (most : Int) (K : Nat), lv ≤ 20 → lv < K → 0 ≤ most → most ≤ 5000 → ∃ r, s_gl17_nodes K e most (lv : Int) = some r ∧ 1 ≤ r ∧ r ≤ most + 1 ∧ (r ≤ most → lvl lv e ∧ (cnt e : Int) = r) ∧ (lvl lv e → (cnt e : Int) ≤ most → r ≤ most)
 | 0, e, most, K, _, hK, h0, h1 => by
  obtain ⟨K, rfl⟩ : ∃ K', K = K' + 1 := ⟨K - 1, by omega⟩
  refine ⟨most + 1, ?_, by omega, by omega, fun h => by omega, fun h => h.elim⟩
  rw [s_gl17_nodes, dT (by omega), cT, w64_id (by omega) (by omega)]
 | lv + 1, e, most, K, hlv, hK, h0, h1 => by
  obtain ⟨K, rfl⟩ : ∃ K', K = K' + 1 := ⟨K - 1, by omega⟩
  have key := loop_inv (L := s_gl17_nodes_L1 (s_gl17_nodes K) e most ((lv + 1 : Nat) : Int))
   (fun q => ∃ i : Nat, q.2 = i ∧ i ≤ e.Args.length ∧ 1 ≤ q.1 ∧ q.1 ≤ most + 1 ∧ (i : Int) < q.1 ∧ (q.1 ≤ most → (∀ x ∈ e.Args.take i, lvl lv x) ∧ (cnts (e.Args.take i) : Int) + 1 = q.1) ∧ (lvl (lv + 1) e → (cnt e : Int) ≤ most → q.1 ≤ most))
   (fun q => (most + 1 - q.2).toNat) (fun r => 1 ≤ r ∧ r ≤ most + 1 ∧ (r ≤ most → lvl (lv + 1) e ∧ (cnt e : Int) = r) ∧ (lvl (lv + 1) e → (cnt e : Int) ≤ most → r ≤ most)) (fun K' q h => ?_) 10000 KK (1, 0)
   ⟨0, rfl, by omega, by omega, by omega, by omega, fun _ => ⟨by simp, by simp [cnts]⟩, fun _ h => by have := cnt_pos e; omega⟩ (by dsimp only; omega) (by have := KK_big; omega)
  ·obtain ⟨r, h2, h3⟩ := key
   refine ⟨r, ?_, h3⟩
   rw [s_gl17_nodes, dF (by omega), cF, h2, oB]
  ·obtain ⟨n, a⟩ := q
   obtain ⟨i, e1, hi, hn1, hn2, hin, hs, hb⟩ := h
   dsimp only at e1 hn1 hn2 hin hs hb; subst e1
   rw [s_gl17_nodes_L1]
   dsimp only
   by_cases hlt : i < e.Args.length
   ·rw [dT (by omega), cT, oB]
    by_cases hm : n ≤ most
    ·rw [dT hm, cT, idx_of hlt, oB, w64_id (n := most - n) (by omega) (by omega), w64_id (n := ((lv + 1 : Nat) : Int) - 1) (by omega) (by omega), show ((lv + 1 : Nat) : Int) - 1 = (lv : Int) by omega]
     obtain ⟨y, hy, y1, y2, y3, y4⟩ := nodes_is lv (e.Args.getD i default) (most - n) K (by omega) (by omega) (by omega) (by omega)
     rw [hy, oB, w64_id (n := n + y) (by omega) (by omega), w64_succ' (i := i) (by omega)]
     obtain ⟨s1, s2⟩ := hs hm
     have ht : e.Args.take (i + 1) = e.Args.take i ++ [e.Args.getD i default] := by rw [getD_of hlt, List.take_append_getElem]
     refine .inr ⟨(n + y, ((i + 1 : Nat) : Int)), ⟨i + 1, rfl, by omega, by dsimp only; omega, by dsimp only; omega, by dsimp only; omega, fun h => ?_, fun h h' => ?_⟩, by dsimp only; omega, rfl⟩
     ·dsimp only at h
      obtain ⟨y5, y6⟩ := y3 (by omega)
      rw [ht]
      refine ⟨fun x hx => ?_, ?_⟩
      ·rcases List.mem_append.1 hx with hx | hx
       ·exact s1 x hx
       ·rw [List.mem_singleton.1 hx]; exact y5
      ·dsimp only
       rw [cnts_app, cnts, cnts]; omega
     ·dsimp only
      have hsum : cnts e.Args = cnts (e.Args.take (i + 1)) + cnts (e.Args.drop (i + 1)) := by rw [← cnts_app, List.take_append_drop]
      rw [ht, cnts_app, cnts, cnts] at hsum
      have hce := cnt_eq e
      have := y4 (h _ (getD_mem hlt)) (by omega)
      omega
    ·rw [dF hm, cF]
     exact .inl ⟨n, rfl, hn1, hn2, fun h => absurd h hm, hb⟩
   ·rw [dF (by omega), cF, oB, cF]
    refine .inl ⟨n, rfl, hn1, hn2, fun h => ?_, hb⟩
    obtain ⟨s1, s2⟩ := hs h
    rw [List.take_of_length_le (by omega)] at s1 s2
    exact ⟨s1, by rw [cnt_eq]; omega⟩
def Light (e : Expr) : Prop := lvl 20 e ∧ cnt e ≤ 100
theorem light_is (e : Expr) : ∃ b, s_gl17_light e = some b ∧ (b = true ↔ Light e) := by
 obtain ⟨r, h1, h2, h3, h4, h5⟩ := nodes_is 20 e 100 KK (by omega) (by have := KK_big; omega) (by omega) (by omega)
 refine ⟨decide (r ≤ 100), ?_, ?_⟩
 ·unfold s_gl17_light
  rw [show (20 : Int) = ((20 : Nat) : Int) from rfl, h1, oB]
 ·simp only [decide_eq_true_eq]
  constructor
  ·intro h
   obtain ⟨a, b⟩ := h4 h
   exact ⟨a, by omega⟩
  ·intro h
   exact h5 h.1 (by have := h.2; omega)
structure Few (p : Plan) : Prop where
 defs : p.Defs.length ≤ 12
 light : ∀ d ∈ p.Defs, Light d.Body
 tabs : p.Tables.length ≤ 5
 rows : ∀ t ∈ p.Tables, t.Rows.length ≤ 10
 zones : p.Zones.length ≤ 10
theorem few_is (p : Plan) : ∃ b, s_gl17_few p = some b ∧ (b = true → Few p) := by
 have key1 := for_all (L := s_gl17_few_L1 p) (s := (0 : Int)) (fun i a => a = (i : Int) ∧ ∀ j, j < i → Light (p.Defs.getD j default).Body)
  (fun t => match t with | .inl r => r = false | .inr _ => ∀ j, j < min p.Defs.length 13 → Light (p.Defs.getD j default).Body) (min p.Defs.length 13) (by omega) ⟨rfl, fun j hj => by omega⟩ (fun K i a h hi => ?_) (fun K a h => ?_)
 ·have key2 := for_all (L := s_gl17_few_L2 p) (s := (0 : Int)) (fun i a => a = (i : Int) ∧ ∀ j, j < i → (p.Tables.getD j default).Rows.length ≤ 10)
   (fun t => match t with | .inl r => r = false | .inr _ => ∀ j, j < min p.Tables.length 6 → (p.Tables.getD j default).Rows.length ≤ 10) (min p.Tables.length 6) (by omega) ⟨rfl, fun j hj => by omega⟩ (fun K i a h hi => ?_) (fun K a h => ?_)
  ·obtain ⟨t1, h1, h2⟩ := key1
   obtain ⟨t3, h3, h4⟩ := key2
   unfold s_gl17_few
   rw [h1, oB]
   cases t1 with
   | inl r => dsimp only at h2; subst h2; exact ⟨false, rfl, fun h => by cases h⟩
   | inr u =>
    dsimp only at h2
    dsimp only
    rw [h3, oB]
    cases t3 with
    | inl r => dsimp only at h4; subst h4; exact ⟨false, rfl, fun h => by cases h⟩
    | inr u' =>
     dsimp only at h4
     dsimp only
     by_cases d1 : (p.Defs.length : Int) ≤ 12
     ·rw [dT d1, cT]
      by_cases d2 : (p.Tables.length : Int) ≤ 5
      ·rw [dT d2, cT, oB]
       refine ⟨_, rfl, fun h => ⟨by omega, fun d hd => ?_, by omega, fun t ht => ?_, by simp only [decide_eq_true_eq] at h; omega⟩⟩
       ·obtain ⟨j, hj, rfl⟩ := mem_getD hd; exact h2 j (by omega)
       ·obtain ⟨j, hj, rfl⟩ := mem_getD ht; exact h4 j (by omega)
      ·rw [dF d2, cF, oB]
       exact ⟨_, rfl, fun h => by cases h⟩
     ·rw [dF d1, cF, oB]
      exact ⟨_, rfl, fun h => by cases h⟩
  ·obtain ⟨rfl, h⟩ := h
   have hit : i < p.Tables.length := by omega
   rw [s_gl17_few_L2, dT (by omega), cT, oB, dT (by omega), cT, idx_of hit, oB, w64_succ' (i := i) (by omega)]
   by_cases h2 : ((p.Tables.getD i default).Rows.length : Int) > 10
   ·rw [dT h2, cT]; exact .inl ⟨.inl false, rfl, rfl⟩
   ·rw [dF h2, cF]
    refine .inr ⟨_, ⟨rfl, fun j hj => ?_⟩, rfl⟩
    by_cases e : j = i
    ·subst e; omega
    ·exact h j (by omega)
  ·obtain ⟨rfl, h⟩ := h
   refine ⟨.inr (), ?_, h⟩
   rw [s_gl17_few_L2]
   by_cases h2 : ((min p.Tables.length 6 : Nat) : Int) < (p.Tables.length : Int)
   ·rw [dT h2, cT, oB, dF (by omega), cF]
   ·rw [dF h2, cF, oB, cF]
 ·obtain ⟨rfl, h⟩ := h
  have hit : i < p.Defs.length := by omega
  obtain ⟨b, hb, hbs⟩ := light_is (p.Defs.getD i default).Body
  rw [s_gl17_few_L1, dT (by omega), cT, oB, dT (by omega), cT, idx_of hit, oB, hb, oB, w64_succ' (i := i) (by omega)]
  cases hbv : b with
  | false => rw [Bool.not_false, cT]; exact .inl ⟨.inl false, rfl, rfl⟩
  | true =>
   rw [Bool.not_true, cF]
   refine .inr ⟨_, ⟨rfl, fun j hj => ?_⟩, rfl⟩
   by_cases e : j = i
   ·subst e; exact hbs.1 hbv
   ·exact h j (by omega)
 ·obtain ⟨rfl, h⟩ := h
  refine ⟨.inr (), ?_, h⟩
  rw [s_gl17_few_L1]
  by_cases h2 : ((min p.Defs.length 13 : Nat) : Int) < (p.Defs.length : Int)
  ·rw [dT h2, cT, oB, dF (by omega), cF]
  ·rw [dF h2, cF, oB, cF]
end Go.Proofs.YtconjkgifdfhdabGreat
