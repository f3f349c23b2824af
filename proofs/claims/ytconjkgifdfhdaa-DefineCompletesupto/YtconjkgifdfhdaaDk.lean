/- The reference's Order, Names, Reaches and Unknown, to the sign. -/
import Derived.Test.YtconjkgifdfhdaaDj
import Derived.Test.YtconjkgifdfhdaaDc
set_option linter.all false
set_option maxRecDepth 100000
namespace Go.Proofs.Ytconjkgifdfhdaa
open Go Go.RowKit Go.Eng Go.EV Go.Grf
def insV (s : List UInt8) (l : List (List UInt8)) : List (List UInt8) := if s ∈ l then l else l.takeWhile (fun x => decide (x < s)) ++ [s] ++ l.dropWhile (fun x => decide (x < s))
theorem insV_mem {s x : List UInt8} {l : List (List UInt8)} : x ∈ insV s l ↔ x ∈ l ∨ x = s := by
 unfold insV
 split
 ·rename_i h
  exact ⟨.inl, fun h2 => h2.elim id fun e => e ▸ h⟩
 ·have := List.takeWhile_append_dropWhile (p := fun x => decide (x < s)) (l := l)
  rw [List.mem_append, List.mem_append, List.mem_singleton]
  conv => rhs; rw [← this, List.mem_append]
  constructor
  ·rintro ((h | h) | h)
   ·exact .inl (.inl h)
   ·exact .inr h
   ·exact .inl (.inr h)
  ·rintro ((h | h) | h)
   ·exact .inl (.inl h)
   ·exact .inr h
   ·exact .inl (.inr h)
theorem insV_len (s : List UInt8) (l : List (List UInt8)) : (insV s l).length ≤ l.length + 1 := by
 unfold insV
 split
 ·omega
 ·have := congrArg List.length (List.takeWhile_append_dropWhile (p := fun x => decide (x < s)) (l := l))
  simp only [List.length_append] at *
  simp; omega
theorem insV_asc {s : List UInt8} : ∀ {l : List (List UInt8)}, asc l → asc (insV s l)
 | [], _ => by unfold insV; rw [if_neg (by simp)]; exact List.pairwise_singleton ..
 | y :: l, h => by
  obtain ⟨h1, h2⟩ := List.pairwise_cons.1 h
  by_cases hm : s ∈ y :: l
  ·unfold insV; rw [if_pos hm]; exact h
  ·have hne : s ≠ y := fun e => hm (e ▸ List.mem_cons_self ..)
   have hnl : s ∉ l := fun e => hm (List.mem_cons_of_mem _ e)
   have ih := insV_asc (s := s) h2
   by_cases hlt : y < s
   ·have e : insV s (y :: l) = y :: insV s l := by
     unfold insV
     rw [if_neg hm, if_neg hnl, List.takeWhile_cons, List.dropWhile_cons, decide_eq_true hlt]; rfl
    rw [e]
    refine List.pairwise_cons.2 ⟨fun z hz => ?_, ih⟩
    rcases insV_mem.1 hz with h3 | rfl
    ·exact h1 z h3
    ·exact hlt
   ·have e : insV s (y :: l) = s :: y :: l := by
     unfold insV
     rw [if_neg hm, List.takeWhile_cons, List.dropWhile_cons, decide_eq_false hlt]; rfl
    have hsy := nm_lt_of hlt (Ne.symm hne)
    rw [e]
    refine List.pairwise_cons.2 ⟨fun z hz => ?_, h⟩
    rcases List.mem_cons.1 hz with rfl | hz
    ·exact hsy
    ·exact List.lt_trans hsy (h1 z hz)
variable [Fuel]
theorem with_loop {l : List (List UInt8)} {s : List UInt8} (hl : l.length < 2 ^ 62) : ∀ (n i K : Nat), i + n = l.length → n < K → s_greenbeltref16_With_L1 l s K (i : Int) = some ((i + ((l.drop i).takeWhile (fun x => decide (x < s))).length : Nat) : Int)
 | 0, i, K, hi, hK => by
  obtain ⟨K, rfl⟩ : ∃ K', K = K' + 1 := ⟨K - 1, by omega⟩
  rw [s_greenbeltref16_With_L1, decide_eq_false (by omega), List.drop_of_length_le (by omega)]; simp
 | n + 1, i, K, hi, hK => by
  obtain ⟨K, rfl⟩ : ∃ K', K = K' + 1 := ⟨K - 1, by omega⟩
  have hlt : i < l.length := by omega
  rw [s_greenbeltref16_With_L1, decide_eq_true (by omega), cond_true, idx_of hlt, Option.bind_some, Option.bind_some, w64_id (by omega) (by omega), show ((i : Int) + 1) = ((i + 1 : Nat) : Int) by omega, with_loop hl n (i + 1) K (by omega) (by omega), drop_cons hlt, List.takeWhile_cons, bytesLess_eq]
  cases decide (l.getD i default < s) with
  | false => simp
  | true => simp only [cond_true, if_true, List.length_cons]; congr 2; omega
theorem take_takeWhile {α : Type} (p : α → Bool) (l : List α) : l.take (l.takeWhile p).length = l.takeWhile p ∧ l.drop (l.takeWhile p).length = l.dropWhile p := by
 have h := List.takeWhile_append_dropWhile (p := p) (l := l)
 constructor
 ·conv => lhs; arg 2; rw [← h]
  rw [List.take_left]
 ·conv => lhs; arg 2; rw [← h]
  rw [List.drop_left]
theorem s_With {l : List (List UInt8)} {s : List UInt8} (hl : l.length ≤ 4000000) : s_greenbeltref16_With l s = some (insV s l) := by
 unfold s_greenbeltref16_With insV
 rw [has_is (by omega), Option.bind_some]
 by_cases hm : s ∈ l
 ·rw [decide_eq_true hm, if_pos hm]; rfl
 ·have key := with_loop (s := s) (show l.length < 2 ^ 62 by omega) l.length 0 KK (by omega) (by have := KK_big; omega)
  obtain ⟨t1, t2⟩ := take_takeWhile (fun x => decide (x < s)) l
  have hlen := congrArg List.length (List.takeWhile_append_dropWhile (p := fun x => decide (x < s)) (l := l))
  rw [List.length_append] at hlen
  rw [show ((0 : Nat) : Int) = 0 from rfl, List.drop_zero, Nat.zero_add] at key
  rw [decide_eq_false hm, if_neg hm, cond_false, key, Option.bind_some]
  have c1 : cut l 0 (((l.takeWhile (fun x => decide (x < s))).length : Nat) : Int) = some (l.takeWhile (fun x => decide (x < s))) := by
   unfold cut
   rw [if_pos ⟨by omega, by omega, by omega⟩, Int.toNat_natCast, t1]; rfl
  have c2 : cut l (((l.takeWhile (fun x => decide (x < s))).length : Nat) : Int) (l.length : Int) = some (l.dropWhile (fun x => decide (x < s))) := by
   unfold cut
   rw [if_pos ⟨by omega, by omega, by omega⟩, Int.toNat_natCast, Int.toNat_natCast, List.take_length, t2]
  rw [c1, Option.bind_some, grd_of (by omega), Option.bind_some, grd_of (by simp; omega), Option.bind_some, c2, Option.bind_some, grd_of (by simp; omega)]; rfl
theorem with_fold : ∀ (ys : List (List UInt8)) (s : List (List UInt8)), asc s → s.length + ys.length ≤ 4000000 → ∃ r, ys.foldlM (m := Option) (fun s x => s_greenbeltref16_With s x) s = some r ∧ asc r ∧ (∀ x, x ∈ r ↔ x ∈ s ∨ x ∈ ys) ∧ r.length ≤ s.length + ys.length
 | [], s, ha, hl => ⟨s, rfl, ha, fun x => by simp, by simp⟩
 | y :: ys, s, ha, hl => by
  rw [List.length_cons] at hl
  have h1 := insV_len y s
  obtain ⟨r, h2, h3, h4, h5⟩ := with_fold ys (insV y s) (insV_asc ha) (by omega)
  refine ⟨r, by rw [List.foldlM_cons, s_With (by omega)]; exact h2, h3, fun x => ?_, by rw [List.length_cons]; omega⟩
  rw [h4, insV_mem, List.mem_cons]
  constructor
  ·rintro ((h | h) | h)
   ·exact .inl h
   ·exact .inr (.inl h)
   ·exact .inr (.inr h)
  ·rintro (h | h | h)
   ·exact .inl (.inl h)
   ·exact .inl (.inr h)
   ·exact .inr h
theorem names_L2 {y s : List (List UInt8)} (ha : asc s) (hl : s.length + y.length ≤ 4000000) : ∃ r, s_greenbeltref16_Names_L2 y KK (s, 0) = some r ∧ asc r ∧ (∀ x, x ∈ r ↔ x ∈ s ∨ x ∈ y) ∧ r.length ≤ s.length + y.length := by
 obtain ⟨r, h1, h2⟩ := with_fold y s ha hl
 have key := fold_loopS (L := s_greenbeltref16_Names_L2 y) (l := y) (fun x s => s_greenbeltref16_With s x) id (by omega) (fun K i s => by
  rw [s_greenbeltref16_Names_L2]
  cases decide (i < (y.length : Int)) <;> rfl) y.length 0 KK s (by omega) (by have := KK_big; omega)
 rw [show ((0 : Nat) : Int) = 0 from rfl, List.drop_zero, h1] at key
 exact ⟨r, key, h2⟩
theorem rnames_fold {rc : Expr → Option (List (List UInt8))} : ∀ (l : List Expr) (s : List (List UInt8)), asc s → s.length + cnts l ≤ 4000000 →
  (∀ x ∈ l, ∃ r, rc x = some r ∧ asc r ∧ (∀ y, y ∈ r ↔ y ∈ namesL x) ∧ r.length ≤ cnt x) →
  ∃ r, l.foldlM (m := Option) (fun s x => (rc x).bind fun y2 => (s_greenbeltref16_Names_L2 y2 KK (s, 0)).bind fun v3 => some v3) s = some r ∧ asc r ∧ (∀ x, x ∈ r ↔ x ∈ s ∨ x ∈ namesLs l) ∧ r.length ≤ s.length + cnts l
 | [], s, ha, _, _ => ⟨s, rfl, ha, fun x => by simp [namesLs], by simp [cnts]⟩
 | x :: l, s, ha, hl, hr => by
  rw [cnts] at hl
  obtain ⟨r1, a1, a2, a3, a4⟩ := hr x (List.mem_cons_self ..)
  obtain ⟨r2, b1, b2, b3, b4⟩ := names_L2 (y := r1) ha (by omega)
  obtain ⟨r3, c1, c2, c3, c4⟩ := rnames_fold l r2 b2 (by omega) fun z hz => hr z (List.mem_cons_of_mem _ hz)
  refine ⟨r3, ?_, c2, fun z => ?_, by rw [cnts]; omega⟩
  ·rw [List.foldlM_cons, a1, Option.bind_some, b1]; exact c1
  ·rw [c3, b3, a3, namesLs, List.mem_append]
   constructor
   ·rintro ((h | h) | h)
    ·exact .inl h
    ·exact .inr (.inl h)
    ·exact .inr (.inr h)
   ·rintro (h | h | h)
    ·exact .inl (.inl h)
    ·exact .inl (.inr h)
    ·exact .inr h
theorem rnames_is : ∀ (d : Nat) (e : Expr), cnt e ≤ d → cnt e ≤ 1000000 → ∀ K, d < K → ∃ r, s_greenbeltref16_Names K e = some r ∧ asc r ∧ (∀ y, y ∈ r ↔ y ∈ namesL e) ∧ r.length ≤ cnt e
 | 0, e, h, _ => by have := cnt_pos e; omega
 | d + 1, e, h, hw => by
  intro K hK
  obtain ⟨K, rfl⟩ : ∃ K', K = K' + 1 := ⟨K - 1, by omega⟩
  have h1 := cnt_eq e
  have h2 := len_cnts e.Args
  have h0 : ∃ s0, (bif decide (e.Op = 1) then (s_greenbeltref16_With [] e.S).bind fun y1 => some y1 else some []) = some s0 ∧ asc s0 ∧ (∀ x, x ∈ s0 ↔ x ∈ (if e.Op = 1 then [e.S] else [])) ∧ s0.length ≤ 1 := by
   by_cases ho : e.Op = 1
   ·rw [decide_eq_true ho, if_pos ho, cond_true, s_With (by simp)]
    exact ⟨_, rfl, insV_asc List.Pairwise.nil, fun x => by rw [insV_mem]; simp, by have := insV_len e.S []; simpa using this⟩
   ·rw [decide_eq_false ho, if_neg ho]
    exact ⟨[], rfl, List.Pairwise.nil, fun x => by simp, by simp⟩
  obtain ⟨s0, e0, a0, m0, l0⟩ := h0
  obtain ⟨r, b1, b2, b3, b4⟩ := rnames_fold (rc := s_greenbeltref16_Names K) e.Args s0 a0 (by omega) fun x hx => by
   have := mem_cnts hx
   exact rnames_is d x (by omega) (by omega) K (by omega)
  have key := fold_loopS (L := s_greenbeltref16_Names_L1 (s_greenbeltref16_Names K) e) (l := e.Args) (fun x s => (s_greenbeltref16_Names K x).bind fun y2 => (s_greenbeltref16_Names_L2 y2 KK (s, 0)).bind fun v3 => some v3) id (by omega) (fun K' i s => by
   rw [s_greenbeltref16_Names_L1]
   cases decide (i < (e.Args.length : Int)) with
   | false => rfl
   | true =>
    simp only [cond_true]
    cases idx e.Args i with
    | none => rfl
    | some x =>
     simp only [Option.bind_some]
     cases s_greenbeltref16_Names K x with
     | none => rfl
     | some y2 =>
      simp only [Option.bind_some]
      cases s_greenbeltref16_Names_L2 y2 KK (s, 0) <;> rfl) e.Args.length 0 KK s0 (by omega) (by have := KK_big; omega)
  rw [show ((0 : Nat) : Int) = 0 from rfl, List.drop_zero, b1] at key
  refine ⟨r, ?_, b2, fun y => ?_, by omega⟩
  ·rw [s_greenbeltref16_Names, e0, Option.bind_some, key]; rfl
  ·rw [b3, m0, namesL_eq, List.mem_append]
theorem rnames {e : Expr} (hw : cnt e ≤ 1000000) : s_greenbeltref16_Names KK e = some (namesV e) := by
 obtain ⟨r, h1, h2, h3, _⟩ := rnames_is (cnt e) e (Nat.le_refl _) hw KK (by have := KK_big; omega)
 rw [h1, asc_ext h2 (namesV_asc e) fun x => by rw [h3, mem_namesV]]
def MFS (N : Nat) (U : Nat → Nat → Prop) (nm : Nat → Nm) (S : Nat → Nat → Prop) (be fr : Int) : Prop :=
 (fr = -1 ∧ be = (N : Int) + 1 ∧ ∀ j m, S j m → ¬ Path U m j j) ∨ ∃ f n : Nat, fr = f ∧ be = n ∧ f < N ∧ 1 ≤ n ∧ n ≤ N ∧ Path U n f f ∧ ∀ j m, S j m → Path U m j j → n < m ∨ (n = m ∧ ¬ nm j < nm f)
def Seen (N i n j m : Nat) : Prop := 1 ≤ m ∧ m ≤ N ∧ (j < i ∨ (j = i ∧ m ≤ n))
section
variable {N : Nat} {U : Nat → Nat → Prop} {nm : Nat → Nm} {i n : Nat} {be fr : Int}
omit [Fuel] in
theorem MFS.sub {S S' : Nat → Nat → Prop} (h : MFS N U nm S be fr) (hs : ∀ j m, S' j m → S j m) : MFS N U nm S' be fr := by
 rcases h with ⟨h1, h2, h3⟩ | ⟨f, n, h1, h2, h3, h4, h5, h6, h7⟩
 ·exact .inl ⟨h1, h2, fun j m h => h3 j m (hs j m h)⟩
 ·exact .inr ⟨f, n, h1, h2, h3, h4, h5, h6, fun j m h => h7 j m (hs j m h)⟩
omit [Fuel] in
theorem MFS.stay (h : MFS N U nm (Seen N i n) be fr) (hn : Path U (n + 1) i i → ∃ f k : Nat, fr = f ∧ be = k ∧ (k < n + 1 ∨ (k = n + 1 ∧ ¬ nm i < nm f))) : MFS N U nm (Seen N i (n + 1)) be fr := by
 have old : ∀ j m, Seen N i (n + 1) j m → Seen N i n j m ∨ (j = i ∧ m = n + 1) := fun j m ⟨h1, h2, h3⟩ => by
  rcases h3 with h3 | ⟨h3, h4⟩
  ·exact .inl ⟨h1, h2, .inl h3⟩
  ·by_cases e : m = n + 1
   ·exact .inr ⟨h3, e⟩
   ·exact .inl ⟨h1, h2, .inr ⟨h3, by omega⟩⟩
 rcases h with ⟨h1, h2, h3⟩ | ⟨f, k, h1, h2, h3, h4, h5, h6, h7⟩
 ·refine .inl ⟨h1, h2, fun j m hs hp => ?_⟩
  rcases old j m hs with hs | ⟨rfl, rfl⟩
  ·exact h3 j m hs hp
  ·obtain ⟨f, k, h4, _⟩ := hn hp
   omega
 ·refine .inr ⟨f, k, h1, h2, h3, h4, h5, h6, fun j m hs hp => ?_⟩
  rcases old j m hs with hs | ⟨rfl, rfl⟩
  ·exact h7 j m hs hp
  ·obtain ⟨f', k', e1, e2, h8⟩ := hn hp
   obtain rfl : f = f' := by omega
   obtain rfl : k = k' := by omega
   exact h8
omit [Fuel] in
theorem MFS.take (h : MFS N U nm (Seen N i n) be fr) (hi : i < N) (hn : n + 1 ≤ N) (hp : Path U (n + 1) i i) (hb : ((n + 1 : Nat) : Int) < be ∨ ((n + 1 : Nat) : Int) = be ∧ ∃ f : Nat, fr = f ∧ nm i < nm f) : MFS N U nm (Seen N i (n + 1)) ((n + 1 : Nat) : Int) (i : Int) := by
 refine .inr ⟨i, n + 1, rfl, rfl, hi, by omega, hn, hp, fun j m ⟨s1, s2, s3⟩ hpm => ?_⟩
 by_cases e : j = i ∧ m = n + 1
 ·obtain ⟨rfl, rfl⟩ := e
  exact .inr ⟨rfl, nm_irrefl _⟩
 ·have hs : Seen N i n j m := ⟨s1, s2, by omega⟩
  rcases h with ⟨h1, h2, h3⟩ | ⟨f, k, h1, h2, h3, h4, h5, h6, h7⟩
  ·exact absurd hpm (h3 j m hs)
  ·rcases h7 j m hs hpm with h8 | ⟨h8, h9⟩
   ·exact .inl (by omega)
   ·rcases hb with hb | ⟨hb, f', hf, hlt⟩
    ·exact .inl (by omega)
    ·obtain rfl : f = f' := by omega
     exact .inr ⟨by omega, fun hlt2 => h9 (nm_trans hlt2 hlt)⟩
end
def LeastK (l : List Def) (U : Nat → Nat → Prop) (t a n j : Nat) (r : Int) : Prop :=
 (r = -1 ∧ ∀ k, k < j → U a k → ¬ Path U n k t) ∨ ∃ k : Nat, r = k ∧ k < l.length ∧ U a k ∧ Path U n k t ∧ ∀ k', k' < j → U a k' → Path U n k' t → ¬ nameAt l k' < nameAt l k
structure Small (p : Plan) : Prop where
 defs : p.Defs.length ≤ 20
 rules : p.Rules.length ≤ 20
 body : ∀ d ∈ p.Defs, cnt d.Body ≤ 60
 test : ∀ d ∈ p.Rules, cnt d.Test ≤ 60
 keyD : ∀ d ∈ p.Defs, ∀ k ∈ namesL d.Body, k.length ≤ 9223372036854775807
 keyR : ∀ d ∈ p.Rules, ∀ k ∈ namesL d.Test, k.length ≤ 9223372036854775807
omit [Fuel] in
theorem cnt_lvl : ∀ (n : Nat) (e : Expr), cnt e ≤ n → lvl n e
 | 0, e, h => by have := cnt_pos e; omega
 | n + 1, e, h => fun x hx => cnt_lvl n x (by have := mem_cnts hx; rw [cnt_eq] at h; omega)
omit [Fuel] in
theorem names_le (e : Expr) : (namesL e).length ≤ cnt e := names_cnt (cnt e) e (cnt_lvl _ e (Nat.le_refl _))
theorem Small.okD {p : Plan} (h : Small p) : okD p.Defs := fun d hd => ⟨by have := names_le d.Body; have := h.body d hd; omega, h.keyD d hd⟩
end Go.Proofs.Ytconjkgifdfhdaa
