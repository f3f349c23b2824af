/- The reference's Order, Names, Reaches and Unknown, to the sign. -/
import Derived.Test.YtconjkgifdfhdaaDj
import Derived.Test.YtconjkgifdfhdaaDc
set_option linter.all false
set_option maxRecDepth 100000
namespace Go.Proofs.Ytconjkgifdfhdaa
open Go Go.RowKit Go.Eng Go.EV Go.Grf
def insV (s : List UInt8) (l : List (List UInt8)) : List (List UInt8) := if s ∈ l then l else l.takeWhile (fun x => decide (x < s)) ++ [s] ++ l.dropWhile (fun x => decide (x < s))
theorem insV_mem {s x : List UInt8} {l : List (List UInt8)} : x ∈ insV s l ↔ x ∈ l ∨ x = s := by
 unfold insV
 split
 ·rename_i h
  exact ⟨.inl, fun h2 => h2.elim id fun e => e ▸ h⟩
 ·have := List.takeWhile_append_dropWhile (p := fun x => decide (x < s)) (l := l)
  rw [List.mem_append, List.mem_append, List.mem_singleton]
  conv => rhs; rw [← this, List.mem_append]
  constructor
  ·rintro ((h | h) | h)
   ·exact .inl (.inl h)
   ·exact .inr h
   ·exact .inl (.inr h)
  ·rintro ((h | h) | h)
   ·exact .inl (.inl h)
   ·exact .inr h
   ·exact .inl (.inr h)
theorem insV_len (s : List UInt8) (l : List (List UInt8)) : (insV s l).length ≤ l.length + 1 := by
 unfold insV
 split
 ·omega
 ·have := congrArg List.length (List.takeWhile_append_dropWhile (p := fun x => decide (x < s)) (l := l))
  simp only [List.length_append] at *
  simp; omega
theorem insV_asc {s : List UInt8} : ∀ {l : List (List UInt8)}, asc l → asc (insV s l)
 | [], _ => by unfold insV; rw [if_neg (by simp)]; exact List.pairwise_singleton ..
 | y :: l, h => by
  obtain ⟨h1, h2⟩ := List.pairwise_cons.1 h
  by_cases hm : s ∈ y :: l
  ·unfold insV; rw [if_pos hm]; exact h
  ·have hne : s ≠ y := fun e => hm (e ▸ List.mem_cons_self ..)
   have hnl : s ∉ l := fun e => hm (List.mem_cons_of_mem _ e)
   have ih := insV_asc (s := s) h2
   by_cases hlt : y < s
   ·have e : insV s (y :: l) = y :: insV s l := by
     unfold insV
     rw [if_neg hm, if_neg hnl, List.takeWhile_cons, List.dropWhile_cons, decide_eq_true hlt]; rfl
    rw [e]
    refine List.pairwise_cons.2 ⟨fun z hz => ?_, ih⟩
    rcases insV_mem.1 hz with h3 | rfl
    ·exact h1 z h3
    ·exact hlt
   ·have e : insV s (y :: l) = s :: y :: l := by
     unfold insV
     rw [if_neg hm, List.takeWhile_cons, List.dropWhile_cons, decide_eq_false hlt]; rfl
    have hsy := nm_lt_of hlt (Ne.symm hne)
    rw [e]
    refine List.pairwise_cons.2 ⟨fun z hz => ?_, h⟩
    rcases List.mem_cons.1 hz with rfl | hz
    ·exact hsy
    ·exact List.lt_trans hsy (h1 z hz)
variable [Fuel]
theorem with_loop {l : List (List UInt8)} {s : List UInt8} (hl : l.length < 2 ^ 62) : ∀ (n i K : Nat), i + n = l.length → n < K → s_greenbeltref16_With_L1 l s K (i : Int) = some ((i + ((l.drop i).takeWhile (fun x => decide (x < s))).length : Nat) : Int)
 | 0, i, K, hi, hK => by
  obtain ⟨K, rfl⟩ : ∃ K', K = K' + 1 := ⟨K - 1, by omega⟩
  rw [s_greenbeltref16_With_L1, decide_eq_false (by omega), List.drop_of_length_le (by omega)]; simp
 | n + 1, i, K, hi, hK => by
  obtain ⟨K, rfl⟩ : ∃ K', K = K' + 1 := ⟨K - 1, by omega⟩
  have hlt : i < l.length := by omega
  rw [s_greenbeltref16_With_L1, decide_eq_true (by omega), cond_true, idx_of hlt, Option.bind_some, Option.bind_some, w64_id (by omega) (by omega), show ((i : Int) + 1) = ((i + 1 : Nat) : Int) by omega, with_loop hl n (i + 1) K (by omega) (by omega), drop_cons hlt, List.takeWhile_cons, bytesLess_eq]
  cases decide (l.getD i default < s) with
  | false => simp
  | true => simp only [cond_true, if_true, List.length_cons]; congr 2; omega
theorem take_takeWhile {α : Type} (p : α → Bool) (l : List α) : l.take (l.takeWhile p).length = l.takeWhile p ∧ l.drop (l.takeWhile p).length = l.dropWhile p := by
 have h := List.takeWhile_append_dropWhile (p := p) (l := l)
 constructor
 ·conv => lhs; arg 2; rw [← h]
  rw [List.take_left]
 ·conv => lhs; arg 2; rw [← h]
  rw [List.drop_left]
theorem s_With {l : List (List UInt8)} {s : List UInt8} (hl : l.length ≤ 4000000) : s_greenbeltref16_With l s = some (insV s l) := by
 unfold s_greenbeltref16_With insV
 rw [has_is (by omega), Option.bind_some]
 by_cases hm : s ∈ l
 ·rw [decide_eq_true hm, if_pos hm]; rfl
 ·have key := with_loop (s := s) (show l.length < 2 ^ 62 by omega) l.length 0 KK (by omega) (by have := KK_big; omega)
  obtain ⟨t1, t2⟩ := take_takeWhile (fun x => decide (x < s)) l
  have hlen := congrArg List.length (List.takeWhile_append_dropWhile (p := fun x => decide (x < s)) (l := l))
  rw [List.length_append] at hlen
  rw [show ((0 : Nat) : Int) = 0 from rfl, List.drop_zero, Nat.zero_add] at key
  rw [decide_eq_false hm, if_neg hm, cond_false, key, Option.bind_some]
  have c1 : cut l 0 (((l.takeWhile (fun x => decide (x < s))).length : Nat) : Int) = some (l.takeWhile (fun x => decide (x < s))) := by
   unfold cut
   rw [if_pos ⟨by omega, by omega, by omega⟩, Int.toNat_natCast, t1]; rfl
  have c2 : cut l (((l.takeWhile (fun x => decide (x < s))).length : Nat) : Int) (l.length : Int) = some (l.dropWhile (fun x => decide (x < s))) := by
   unfold cut
   rw [if_pos ⟨by omega, by omega, by omega⟩, Int.toNat_natCast, Int.toNat_natCast, List.take_length, t2]
  rw [c1, Option.bind_some, grd_of (by omega), Option.bind_some, grd_of (by simp; omega), Option.bind_some, c2, Option.bind_some, grd_of (by simp; omega)]; rfl
theorem with_fold : ∀ (ys : List (List UInt8)) (s : List (List UInt8)), asc s → s.length + ys.length ≤ 4000000 → ∃ r, ys.foldlM (m := Option) (fun s x => s_greenbeltref16_With s x) s = some r ∧ asc r ∧ (∀ x, x ∈ r ↔ x ∈ s ∨ x ∈ ys) ∧ r.length ≤ s.length + ys.length
 | [], s, ha, hl => ⟨s, rfl, ha, fun x => by simp, by simp⟩
 | y :: ys, s, ha, hl => by
  rw [List.length_cons] at hl
  have h1 := insV_len y s
  obtain ⟨r, h2, h3, h4, h5⟩ := with_fold ys (insV y s) (insV_asc ha) (by omega)
  refine ⟨r, by rw [List.foldlM_cons, s_With (by omega)]; exact h2, h3, fun x => ?_, by rw [List.length_cons]; omega⟩
  rw [h4, insV_mem, List.mem_cons]
  constructor
  ·rintro ((h | h) | h)
   ·exact .inl h
   ·exact .inr (.inl h)
   ·exact .inr (.inr h)
  ·rintro (h | h | h)
   ·exact .inl (.inl h)
   ·exact .inl (.inr h)
   ·exact .inr h
theorem names_L2 {y s : List (List UInt8)} (ha : asc s) (hl : s.length + y.length ≤ 4000000) : ∃ r, s_greenbeltref16_Names_L2 y KK (s, 0) = some r ∧ asc r ∧ (∀ x, x ∈ r ↔ x ∈ s ∨ x ∈ y) ∧ r.length ≤ s.length + y.length := by
 obtain ⟨r, h1, h2⟩ := with_fold y s ha hl
 have key := fold_loopS (L := s_greenbeltref16_Names_L2 y) (l := y) (fun x s => s_greenbeltref16_With s x) id (by omega) (fun K i s => by
  rw [s_greenbeltref16_Names_L2]
  cases decide (i < (y.length : Int)) <;> rfl) y.length 0 KK s (by omega) (by have := KK_big; omega)
 rw [show ((0 : Nat) : Int) = 0 from rfl, List.drop_zero, h1] at key
 exact ⟨r, key, h2⟩
theorem ready_in {p : Plan} {U : Nat → Nat → Prop} {use : List (List Bool)} (hg : Gb p.Defs.length U use) (hN : p.Defs.length ≤ 1000) {done : List Bool} (hd : done.length = p.Defs.length) : ∀ (r : Int) (i : Nat), i < p.Defs.length → ∃ b, s_greenbeltref16_ready_L2 use done (r, (i : Int)) KK (!(done.getD i default), 0) = some b ∧ (b = true ↔ Ready U done i) := fun r i hi => by
 have hiu : i < use.length := by rw [hg.len]; exact hi
 refine for_all (L := s_greenbeltref16_ready_L2 use done (r, (i : Int))) (s := (!(done.getD i default), (0 : Int))) (fun k q => q.2 = (k : Int) ∧ (q.1 = true ↔ done.getD i default = false ∧ ∀ k', k' < k → U i k' → done.getD k' default = true)) (fun b => b = true ↔ Ready U done i) p.Defs.length (by omega) ⟨rfl, by dsimp only; cases done.getD i default <;> simp⟩ (fun K k q h hk => .inr ?_) (fun K q h => ?_)
 ·obtain ⟨b, a⟩ := q
  obtain ⟨e1, h⟩ := h
  dsimp only at e1 h; subst e1
  have hkd : k < done.length := by omega
  have hku : k < (use.getD i default).length := by rw [hg.row i hi]; exact hk
  have hm := hg.mem i k hi hk
  rw [s_greenbeltref16_ready_L2, decide_eq_true (by dsimp only; rw [hg.len]; omega), cond_true]
  dsimp only
  rw [idx_of hkd, Option.bind_some, idx_of hiu, Option.bind_some, idx_of hku, Option.bind_some, w64_succ hk (by omega)]
  have fin : ∀ v : Bool, (v = true ↔ b = true ∧ (U i k → done.getD k default = true)) → (((k + 1 : Nat) : Int) = ((k + 1 : Nat) : Int) ∧ (v = true ↔ done.getD i default = false ∧ ∀ k', k' < k + 1 → U i k' → done.getD k' default = true)) := fun v hv => ⟨rfl, by
   rw [hv, h]
   constructor
   ·rintro ⟨⟨h1, h2⟩, h3⟩
    refine ⟨h1, fun k' hk' hu => ?_⟩
    by_cases e : k' = k
    ·subst e; exact h3 hu
    ·exact h2 k' (by omega) hu
   ·rintro ⟨h1, h2⟩
    exact ⟨⟨h1, fun k' hk' hu => h2 k' (by omega) hu⟩, h2 k (by omega)⟩⟩
  cases b with
  | false =>
   rw [cond_false, Option.bind_some]
   exact ⟨(false, ((k + 1 : Nat) : Int)), fin false ⟨fun h => (by cases h), fun h => (by cases h.1)⟩, rfl⟩
  | true =>
   rw [cond_true]
   cases hdk : done.getD k default with
   | true =>
    rw [cond_true, Option.bind_some]
    exact ⟨(true, ((k + 1 : Nat) : Int)), fin true ⟨fun _ => ⟨rfl, fun _ => hdk⟩, fun _ => rfl⟩, rfl⟩
   | false =>
    rw [cond_false, Option.bind_some]
    exact ⟨(!((use.getD i default).getD k default), ((k + 1 : Nat) : Int)), fin _ (by
     rw [hdk]
     cases huk : (use.getD i default).getD k default with
     | true => exact ⟨fun h => (by cases h), fun h => (by have := h.2 (hm.1 huk); cases this)⟩
     | false => exact ⟨fun _ => ⟨rfl, fun hu => by rw [hm.2 hu] at huk; cases huk⟩, fun _ => rfl⟩), rfl⟩
 ·obtain ⟨b, a⟩ := q
  obtain ⟨e1, h⟩ := h
  dsimp only at e1 h; subst e1
  refine ⟨b, by rw [s_greenbeltref16_ready_L2, decide_eq_false (by dsimp only; rw [hg.len]; omega), cond_false], ?_⟩
  rw [h]
  exact ⟨fun ⟨h1, h2⟩ => ⟨h1, fun k hu => h2 k (hg.dom _ _ hu).2 hu⟩, fun ⟨h1, h2⟩ => ⟨h1, fun k _ hu => h2 k hu⟩⟩
theorem rnames_fold {rc : Expr → Option (List (List UInt8))} : ∀ (l : List Expr) (s : List (List UInt8)), asc s → s.length + cnts l ≤ 4000000 →
  (∀ x ∈ l, ∃ r, rc x = some r ∧ asc r ∧ (∀ y, y ∈ r ↔ y ∈ namesL x) ∧ r.length ≤ cnt x) →
  ∃ r, l.foldlM (m := Option) (fun s x => (rc x).bind fun y2 => (s_greenbeltref16_Names_L2 y2 KK (s, 0)).bind fun v3 => some v3) s = some r ∧ asc r ∧ (∀ x, x ∈ r ↔ x ∈ s ∨ x ∈ namesLs l) ∧ r.length ≤ s.length + cnts l
 | [], s, ha, _, _ => ⟨s, rfl, ha, fun x => by simp [namesLs], by simp [cnts]⟩
 | x :: l, s, ha, hl, hr => by
  rw [cnts] at hl
  obtain ⟨r1, a1, a2, a3, a4⟩ := hr x (List.mem_cons_self ..)
  obtain ⟨r2, b1, b2, b3, b4⟩ := names_L2 (y := r1) ha (by omega)
  obtain ⟨r3, c1, c2, c3, c4⟩ := rnames_fold l r2 b2 (by omega) fun z hz => hr z (List.mem_cons_of_mem _ hz)
  refine ⟨r3, ?_, c2, fun z => ?_, by rw [cnts]; omega⟩
  ·rw [List.foldlM_cons, a1, Option.bind_some, b1]; exact c1
  ·rw [c3, b3, a3, namesLs, List.mem_append]
   constructor
   ·rintro ((h | h) | h)
    ·exact .inl h
    ·exact .inr (.inl h)
    ·exact .inr (.inr h)
   ·rintro (h | h | h)
    ·exact .inl (.inl h)
    ·exact .inl (.inr h)
    ·exact .inr h
theorem rnames_is : ∀ (d : Nat) (e : Expr), cnt e ≤ d → cnt e ≤ 1000000 → ∀ K, d < K → ∃ r, s_greenbeltref16_Names K e = some r ∧ asc r ∧ (∀ y, y ∈ r ↔ y ∈ namesL e) ∧ r.length ≤ cnt e
 | 0, e, h, _ => by have := cnt_pos e; omega
 | d + 1, e, h, hw => by
  intro K hK
  obtain ⟨K, rfl⟩ : ∃ K', K = K' + 1 := ⟨K - 1, by omega⟩
  have h1 := cnt_eq e
  have h2 := len_cnts e.Args
  have h0 : ∃ s0, (bif decide (e.Op = 1) then (s_greenbeltref16_With [] e.S).bind fun y1 => some y1 else some []) = some s0 ∧ asc s0 ∧ (∀ x, x ∈ s0 ↔ x ∈ (if e.Op = 1 then [e.S] else [])) ∧ s0.length ≤ 1 := by
   by_cases ho : e.Op = 1
   ·rw [decide_eq_true ho, if_pos ho, cond_true, s_With (by simp)]
    exact ⟨_, rfl, insV_asc List.Pairwise.nil, fun x => by rw [insV_mem]; simp, by have := insV_len e.S []; simpa using this⟩
   ·rw [decide_eq_false ho, if_neg ho]
    exact ⟨[], rfl, List.Pairwise.nil, fun x => by simp, by simp⟩
  obtain ⟨s0, e0, a0, m0, l0⟩ := h0
  obtain ⟨r, b1, b2, b3, b4⟩ := rnames_fold (rc := s_greenbeltref16_Names K) e.Args s0 a0 (by omega) fun x hx => by
   have := mem_cnts hx
   exact rnames_is d x (by omega) (by omega) K (by omega)
  have key := fold_loopS (L := s_greenbeltref16_Names_L1 (s_greenbeltref16_Names K) e) (l := e.Args) (fun x s => (s_greenbeltref16_Names K x).bind fun y2 => (s_greenbeltref16_Names_L2 y2 KK (s, 0)).bind fun v3 => some v3) id (by omega) (fun K' i s => by
   rw [s_greenbeltref16_Names_L1]
   cases decide (i < (e.Args.length : Int)) with
   | false => rfl
   | true =>
    simp only [cond_true]
    cases idx e.Args i with
    | none => rfl
    | some x =>
     simp only [Option.bind_some]
     cases s_greenbeltref16_Names K x with
     | none => rfl
     | some y2 =>
      simp only [Option.bind_some]
      cases s_greenbeltref16_Names_L2 y2 KK (s, 0) <;> rfl) e.Args.length 0 KK s0 (by omega) (by have := KK_big; omega)
  rw [show ((0 : Nat) : Int) = 0 from rfl, List.drop_zero, b1] at key
  refine ⟨r, ?_, b2, fun y => ?_, by omega⟩
  ·rw [s_greenbeltref16_Names, e0, Option.bind_some, key]; rfl
  ·rw [b3, m0, namesL_eq, List.mem_append]
theorem rnames {e : Expr} (hw : cnt e ≤ 1000000) : s_greenbeltref16_Names KK e = some (namesV e) := by
 obtain ⟨r, h1, h2, h3, _⟩ := rnames_is (cnt e) e (Nat.le_refl _) hw KK (by have := KK_big; omega)
 rw [h1, asc_ext h2 (namesV_asc e) fun x => by rw [h3, mem_namesV]]
theorem ready_gen {p : Plan} {U : Nat → Nat → Prop} {use : List (List Bool)} (hg : Gb p.Defs.length U use) (hN : p.Defs.length ≤ 1000) {done : List Bool} (hd : done.length = p.Defs.length) :
  ∃ r, s_greenbeltref16_ready p use done = some r ∧ LeastR p.Defs U done p.Defs.length r := by
 have key := for_all (L := s_greenbeltref16_ready_L1 p use done) (s := ((-1 : Int), (0 : Int)))
  (fun i q => q.2 = (i : Int) ∧ LeastR p.Defs U done i q.1)
  (fun r => LeastR p.Defs U done p.Defs.length r) p.Defs.length (by omega) ⟨rfl, .inl ⟨rfl, fun j hj => by omega⟩⟩ (fun K i q h hi => .inr ?_) (fun K q h => ?_)
 ·obtain ⟨r, h1, h2⟩ := key
  refine ⟨r, ?_, h2⟩
  unfold s_greenbeltref16_ready
  rw [h1, Option.bind_some]
 ·obtain ⟨r, a⟩ := q
  obtain ⟨e1, h⟩ := h
  dsimp only at e1 h; subst e1
  have hid : i < done.length := by omega
  obtain ⟨b, hb, hbs⟩ := ready_in hg hN hd r i hi
  rw [s_greenbeltref16_ready_L1, hg.len, decide_eq_true (by dsimp only; omega), cond_true, idx_of hid, Option.bind_some, hb, Option.bind_some]
  dsimp only
  rw [w64_succ hi (by omega)]
  cases hbv : b with
  | false =>
   rw [cond_false, Option.bind_some, cond_false, Option.bind_some]
   exact ⟨(r, ((i + 1 : Nat) : Int)), ⟨rfl, h.stay fun hr => by rw [hbs.2 hr] at hbv; cases hbv⟩, rfl⟩
  | true =>
   have hri := hbs.1 hbv
   rw [cond_true]
   by_cases hr0 : r = -1
   ·subst hr0
    rw [decide_eq_true (by omega), cond_true, Option.bind_some, cond_true, Option.bind_some]
    exact ⟨((i : Int), ((i + 1 : Nat) : Int)), ⟨rfl, h.first hi hri⟩, rfl⟩
   ·obtain ⟨k, rfl, hk⟩ : ∃ k : Nat, r = k ∧ k < p.Defs.length := by
     rcases h with ⟨h1, _⟩ | ⟨k, h1, h2, _⟩
     ·exact absurd h1 hr0
     ·exact ⟨k, h1, h2⟩
    rw [decide_eq_false (by omega), cond_false, idx_of hi, Option.bind_some, show max (k : Int) 0 = (k : Int) by omega, idx_of hk, Option.bind_some, Option.bind_some, bytesLess_eq]
    by_cases hlt : nameAt p.Defs i < nameAt p.Defs k
    ·rw [decide_eq_true hlt, cond_true, Option.bind_some]
     exact ⟨((i : Int), ((i + 1 : Nat) : Int)), ⟨rfl, h.take hi hri hlt⟩, rfl⟩
    ·rw [decide_eq_false hlt, cond_false, Option.bind_some]
     exact ⟨((k : Int), ((i + 1 : Nat) : Int)), ⟨rfl, h.keep hk hlt⟩, rfl⟩
 ·obtain ⟨r, a⟩ := q
  obtain ⟨e1, h⟩ := h
  dsimp only at e1 h; subst e1
  exact ⟨r, by rw [s_greenbeltref16_ready_L1, hg.len, decide_eq_false (by dsimp only; omega), cond_false], h⟩
def MFS (N : Nat) (U : Nat → Nat → Prop) (nm : Nat → Nm) (S : Nat → Nat → Prop) (be fr : Int) : Prop :=
 (fr = -1 ∧ be = (N : Int) + 1 ∧ ∀ j m, S j m → ¬ Path U m j j) ∨ ∃ f n : Nat, fr = f ∧ be = n ∧ f < N ∧ 1 ≤ n ∧ n ≤ N ∧ Path U n f f ∧ ∀ j m, S j m → Path U m j j → n < m ∨ (n = m ∧ ¬ nm j < nm f)
def Seen (N i n j m : Nat) : Prop := 1 ≤ m ∧ m ≤ N ∧ (j < i ∨ (j = i ∧ m ≤ n))
section
variable {N : Nat} {U : Nat → Nat → Prop} {nm : Nat → Nm} {i n : Nat} {be fr : Int}
omit [Fuel] in
theorem MFS.sub {S S' : Nat → Nat → Prop} (h : MFS N U nm S be fr) (hs : ∀ j m, S' j m → S j m) : MFS N U nm S' be fr := by
 rcases h with ⟨h1, h2, h3⟩ | ⟨f, n, h1, h2, h3, h4, h5, h6, h7⟩
 ·exact .inl ⟨h1, h2, fun j m h => h3 j m (hs j m h)⟩
 ·exact .inr ⟨f, n, h1, h2, h3, h4, h5, h6, fun j m h => h7 j m (hs j m h)⟩
omit [Fuel] in
theorem MFS.stay (h : MFS N U nm (Seen N i n) be fr) (hn : Path U (n + 1) i i → ∃ f k : Nat, fr = f ∧ be = k ∧ (k < n + 1 ∨ (k = n + 1 ∧ ¬ nm i < nm f))) : MFS N U nm (Seen N i (n + 1)) be fr := by
 have old : ∀ j m, Seen N i (n + 1) j m → Seen N i n j m ∨ (j = i ∧ m = n + 1) := fun j m ⟨h1, h2, h3⟩ => by
  rcases h3 with h3 | ⟨h3, h4⟩
  ·exact .inl ⟨h1, h2, .inl h3⟩
  ·by_cases e : m = n + 1
   ·exact .inr ⟨h3, e⟩
   ·exact .inl ⟨h1, h2, .inr ⟨h3, by omega⟩⟩
 rcases h with ⟨h1, h2, h3⟩ | ⟨f, k, h1, h2, h3, h4, h5, h6, h7⟩
 ·refine .inl ⟨h1, h2, fun j m hs hp => ?_⟩
  rcases old j m hs with hs | ⟨rfl, rfl⟩
  ·exact h3 j m hs hp
  ·obtain ⟨f, k, h4, _⟩ := hn hp
   omega
 ·refine .inr ⟨f, k, h1, h2, h3, h4, h5, h6, fun j m hs hp => ?_⟩
  rcases old j m hs with hs | ⟨rfl, rfl⟩
  ·exact h7 j m hs hp
  ·obtain ⟨f', k', e1, e2, h8⟩ := hn hp
   obtain rfl : f = f' := by omega
   obtain rfl : k = k' := by omega
   exact h8
omit [Fuel] in
theorem MFS.take (h : MFS N U nm (Seen N i n) be fr) (hi : i < N) (hn : n + 1 ≤ N) (hp : Path U (n + 1) i i) (hb : ((n + 1 : Nat) : Int) < be ∨ ((n + 1 : Nat) : Int) = be ∧ ∃ f : Nat, fr = f ∧ nm i < nm f) : MFS N U nm (Seen N i (n + 1)) ((n + 1 : Nat) : Int) (i : Int) := by
 refine .inr ⟨i, n + 1, rfl, rfl, hi, by omega, hn, hp, fun j m ⟨s1, s2, s3⟩ hpm => ?_⟩
 by_cases e : j = i ∧ m = n + 1
 ·obtain ⟨rfl, rfl⟩ := e
  exact .inr ⟨rfl, nm_irrefl _⟩
 ·have hs : Seen N i n j m := ⟨s1, s2, by omega⟩
  rcases h with ⟨h1, h2, h3⟩ | ⟨f, k, h1, h2, h3, h4, h5, h6, h7⟩
  ·exact absurd hpm (h3 j m hs)
  ·rcases h7 j m hs hpm with h8 | ⟨h8, h9⟩
   ·exact .inl (by omega)
   ·rcases hb with hb | ⟨hb, f', hf, hlt⟩
    ·exact .inl (by omega)
    ·obtain rfl : f = f' := by omega
     exact .inr ⟨by omega, fun hlt2 => h9 (nm_trans hlt2 hlt)⟩
end
theorem rcircle_L2g {p : Plan} {U : Nat → Nat → Prop} {b : List (List Bool)} {i : Nat} (hN : p.Defs.length ≤ 1000) (hi : i < p.Defs.length) (hB : Back p.Defs.length U i p.Defs.length b) {best from_ : Int} (h0 : MFS p.Defs.length U (nameAt p.Defs) (Seen p.Defs.length i 0) best from_) :
  ∃ r, s_greenbeltref16_circle_L2 p b (best, from_, (i : Int)) KK (best, from_, 1) = some r ∧ MFS p.Defs.length U (nameAt p.Defs) (Seen p.Defs.length i p.Defs.length) r.1 r.2 := by
 refine for_all (L := s_greenbeltref16_circle_L2 p b (best, from_, (i : Int))) (s := (best, from_, (1 : Int)))
  (fun n q => q.2.2 = ((n + 1 : Nat) : Int) ∧ MFS p.Defs.length U (nameAt p.Defs) (Seen p.Defs.length i n) q.1 q.2.1)
  (fun r => MFS p.Defs.length U (nameAt p.Defs) (Seen p.Defs.length i p.Defs.length) r.1 r.2) p.Defs.length (by omega) ⟨rfl, h0⟩ (fun K n q h hn => ?_) (fun K q h => ?_)
 ·obtain ⟨be, fr, a⟩ := q
  obtain ⟨e1, hb⟩ := h
  dsimp only at e1 hb; subst e1
  have hbl := hB.len
  have hnb : n + 1 < b.length := by omega
  have hib : i < (b.getD (n + 1) default).length := by rw [hB.row (n + 1) (by omega)]; exact hi
  rw [s_greenbeltref16_circle_L2, decide_eq_true (by dsimp only; omega), cond_true, Option.bind_some]
  dsimp only
  by_cases hle : ((n + 1 : Nat) : Int) ≤ be
  ·rw [decide_eq_true hle, cond_true, idx_of hnb, Option.bind_some, idx_of hib, Option.bind_some, w64_succ' (i := n + 1) (by omega)]
   have hmem := hB.mem (n + 1) (by omega) i hi
   cases hbv : (b.getD (n + 1) default).getD i default with
   | false =>
    rw [cond_false, Option.bind_some, cond_false, Option.bind_some]
    exact .inr ⟨(be, fr, ((n + 1 + 1 : Nat) : Int)), ⟨rfl, hb.stay fun hp => by rw [hmem.2 hp] at hbv; cases hbv⟩, rfl⟩
   | true =>
    have hp := hmem.1 hbv
    rw [cond_true]
    by_cases hlt : ((n + 1 : Nat) : Int) < be
    ·rw [decide_eq_true hlt, cond_true, Option.bind_some, cond_true, Option.bind_some]
     exact .inr ⟨(((n + 1 : Nat) : Int), (i : Int), ((n + 1 + 1 : Nat) : Int)), ⟨rfl, hb.take hi (by omega) hp (.inl hlt)⟩, rfl⟩
    ·have hfr : ∃ f : Nat, fr = f ∧ f < p.Defs.length := by
      rcases hb with ⟨_, rfl, _⟩ | ⟨f, _, rfl, _, hf, _⟩
      ·omega
      ·exact ⟨f, rfl, hf⟩
     obtain ⟨f, rfl, hf⟩ := hfr
     rw [decide_eq_false hlt, cond_false, idx_of hi, Option.bind_some, show max (f : Int) 0 = (f : Int) by omega, idx_of hf, Option.bind_some, Option.bind_some, bytesLess_eq]
     by_cases hlt2 : nameAt p.Defs i < nameAt p.Defs f
     ·rw [decide_eq_true hlt2, cond_true, Option.bind_some]
      exact .inr ⟨(((n + 1 : Nat) : Int), (i : Int), ((n + 1 + 1 : Nat) : Int)), ⟨rfl, hb.take hi (by omega) hp (.inr ⟨by omega, f, rfl, hlt2⟩)⟩, rfl⟩
     ·rw [decide_eq_false hlt2, cond_false, Option.bind_some]
      exact .inr ⟨(be, (f : Int), ((n + 1 + 1 : Nat) : Int)), ⟨rfl, hb.stay fun _ => ⟨f, n + 1, rfl, by omega, .inr ⟨rfl, hlt2⟩⟩⟩, rfl⟩
  ·rw [decide_eq_false hle, cond_false]
   refine .inl ⟨(be, fr), rfl, ?_⟩
   dsimp only
   rcases hb with ⟨h1, rfl, _⟩ | ⟨f, k, h1, h2, h3, h4, h5, h6, h7⟩
   ·omega
   ·refine .inr ⟨f, k, h1, h2, h3, h4, h5, h6, fun j m ⟨s1, s2, s3⟩ hp => ?_⟩
    by_cases hmn : j < i ∨ (j = i ∧ m ≤ n)
    ·exact h7 j m ⟨s1, s2, hmn⟩ hp
    ·exact .inl (by omega)
 ·obtain ⟨be, fr, a⟩ := q
  obtain ⟨e1, hb⟩ := h
  dsimp only at e1 hb; subst e1
  refine ⟨(be, fr), ?_, hb⟩
  rw [s_greenbeltref16_circle_L2, decide_eq_false (by dsimp only; rw [hB.len]; omega), cond_false, Option.bind_some, cond_false]
def LeastK (l : List Def) (U : Nat → Nat → Prop) (t a n j : Nat) (r : Int) : Prop :=
 (r = -1 ∧ ∀ k, k < j → U a k → ¬ Path U n k t) ∨ ∃ k : Nat, r = k ∧ k < l.length ∧ U a k ∧ Path U n k t ∧ ∀ k', k' < j → U a k' → Path U n k' t → ¬ nameAt l k' < nameAt l k
theorem rcircle_L4g {p : Plan} {U : Nat → Nat → Prop} {use b : List (List Bool)} (hg : Gb p.Defs.length U use) (hN : p.Defs.length ≤ 1000) {t most : Nat} (hB : Back p.Defs.length U t most b) {a n : Nat} (ha : a < p.Defs.length) (hn : n ≤ most) (out : List (List UInt8)) :
  ∃ r, s_greenbeltref16_circle_L4 p use b ((a : Int), (n : Int), out) KK (-1, 0) = some r ∧ LeastK p.Defs U t a n p.Defs.length r := by
 have hau : a < use.length := by rw [hg.len]; exact ha
 have hnb : n < b.length := by rw [hB.len]; omega
 refine for_all (L := s_greenbeltref16_circle_L4 p use b ((a : Int), (n : Int), out)) (s := ((-1 : Int), (0 : Int)))
  (fun k q => q.2 = (k : Int) ∧ LeastK p.Defs U t a n k q.1) (fun r => LeastK p.Defs U t a n p.Defs.length r) p.Defs.length (by omega) ⟨rfl, .inl ⟨rfl, fun k hk => by omega⟩⟩ (fun K k q h hk => .inr ?_) (fun K q h => ?_)
 ·obtain ⟨r, a'⟩ := q
  obtain ⟨e1, h⟩ := h
  dsimp only at e1 h; subst e1
  have hku : k < (use.getD a default).length := by rw [hg.row a ha]; exact hk
  have hkb : k < (b.getD n default).length := by rw [hB.row n hn]; exact hk
  have hmu := hg.mem a k ha hk
  have hmb := hB.mem n hn k hk
  have stay : ¬ (U a k ∧ Path U n k t) → LeastK p.Defs U t a n (k + 1) r := fun hno => by
   rcases h with ⟨h1, h2⟩ | ⟨k0, h1, h2, h3, h4, h5⟩
   ·refine .inl ⟨h1, fun k' hk' hu hp => ?_⟩
    by_cases e : k' = k
    ·subst e; exact hno ⟨hu, hp⟩
    ·exact h2 k' (by omega) hu hp
   ·refine .inr ⟨k0, h1, h2, h3, h4, fun k' hk' hu hp => ?_⟩
    by_cases e : k' = k
    ·subst e; exact absurd ⟨hu, hp⟩ hno
    ·exact h5 k' (by omega) hu hp
  rw [s_greenbeltref16_circle_L4, decide_eq_true (by dsimp only; rw [hg.len]; omega), cond_true]
  dsimp only
  rw [idx_of hau, Option.bind_some, idx_of hku, Option.bind_some, idx_of hnb, w64_succ hk (by omega)]
  cases huv : (use.getD a default).getD k default with
  | false =>
   rw [cond_false, Option.bind_some, cond_false, Option.bind_some]
   exact ⟨(r, ((k + 1 : Nat) : Int)), ⟨rfl, stay fun hc => by rw [hmu.2 hc.1] at huv; cases huv⟩, rfl⟩
  | true =>
   rw [cond_true, Option.bind_some, idx_of hkb, Option.bind_some]
   have hu := hmu.1 huv
   cases hbv : (b.getD n default).getD k default with
   | false =>
    rw [cond_false, Option.bind_some, cond_false, Option.bind_some]
    exact ⟨(r, ((k + 1 : Nat) : Int)), ⟨rfl, stay fun hc => by rw [hmb.2 hc.2] at hbv; cases hbv⟩, rfl⟩
   | true =>
    rw [cond_true]
    have hp := hmb.1 hbv
    rcases h with ⟨rfl, h2⟩ | ⟨k0, rfl, h2, h3, h4, h5⟩
    ·rw [decide_eq_true (by omega), cond_true, Option.bind_some, cond_true, Option.bind_some]
     refine ⟨((k : Int), ((k + 1 : Nat) : Int)), ⟨rfl, .inr ⟨k, rfl, hk, hu, hp, fun k' hk' hu' hp' => ?_⟩⟩, rfl⟩
     by_cases e : k' = k
     ·subst e; exact nm_irrefl _
     ·exact absurd hp' (h2 k' (by omega) hu')
    ·rw [decide_eq_false (by omega), cond_false, idx_of hk, Option.bind_some, show max (k0 : Int) 0 = (k0 : Int) by omega, idx_of h2, Option.bind_some, Option.bind_some, bytesLess_eq]
     by_cases hlt : nameAt p.Defs k < nameAt p.Defs k0
     ·rw [decide_eq_true hlt, cond_true, Option.bind_some]
      refine ⟨((k : Int), ((k + 1 : Nat) : Int)), ⟨rfl, .inr ⟨k, rfl, hk, hu, hp, fun k' hk' hu' hp' hlt2 => ?_⟩⟩, rfl⟩
      by_cases e : k' = k
      ·subst e; exact nm_irrefl _ hlt2
      ·exact h5 k' (by omega) hu' hp' (nm_trans hlt2 hlt)
     ·rw [decide_eq_false hlt, cond_false, Option.bind_some]
      refine ⟨((k0 : Int), ((k + 1 : Nat) : Int)), ⟨rfl, .inr ⟨k0, rfl, h2, h3, h4, fun k' hk' hu' hp' => ?_⟩⟩, rfl⟩
      by_cases e : k' = k
      ·subst e; exact hlt
      ·exact h5 k' (by omega) hu' hp'
 ·obtain ⟨r, a'⟩ := q
  obtain ⟨e1, h⟩ := h
  dsimp only at e1 h; subst e1
  exact ⟨r, by rw [s_greenbeltref16_circle_L4, decide_eq_false (by dsimp only; rw [hg.len]; omega), cond_false], h⟩
theorem rcircle_gen {p : Plan} {U : Nat → Nat → Prop} {use : List (List Bool)} (hg : Gb p.Defs.length U use) (hd : Dis p.Defs) (hN : p.Defs.length ≤ 1000) (hsh : ∀ i, i < p.Defs.length → Cyc U i → ∃ n, 1 ≤ n ∧ n ≤ p.Defs.length ∧ Path U n i i) :
  ∃ c, s_greenbeltref16_circle p use = some c ∧ ((c = [] ∧ ∀ i, i < p.Defs.length → ¬ Cyc U i) ∨ (c ≠ [] ∧ SmallC U (nameAt p.Defs) c)) := by
 have key := for_all (L := s_greenbeltref16_circle_L1 p use) (s := (((p.Defs.length : Int) + 1), (-1 : Int), (0 : Int)))
  (fun i q => q.2.2 = (i : Int) ∧ MFS p.Defs.length U (nameAt p.Defs) (Seen p.Defs.length i 0) q.1 q.2.1)
  (fun r => MFS p.Defs.length U (nameAt p.Defs) (Seen p.Defs.length p.Defs.length 0) r.1 r.2) p.Defs.length (by omega) ⟨rfl, .inl ⟨rfl, rfl, fun j m ⟨h1, _, h3⟩ => by omega⟩⟩ (fun K i q h hi => .inr ?_) (fun K q h => ?_)
 ·obtain ⟨⟨be, fr⟩, h1, hb⟩ := key
  dsimp only at hb
  unfold s_greenbeltref16_circle
  rw [hg.len, w64_id (by omega) (by omega), h1, Option.bind_some]
  dsimp only
  rcases hb with ⟨rfl, _, hno⟩ | ⟨f, n, rfl, rfl, hf, hn1, hn2, hp, hbest⟩
  ·rw [decide_eq_true (by omega), cond_true]
   refine ⟨[], rfl, .inl ⟨rfl, fun i hi hcy => ?_⟩⟩
   obtain ⟨n, h2, h3, h4⟩ := hsh i hi hcy
   exact hno i n ⟨h2, h3, .inl hi⟩ h4
  ·rw [decide_eq_false (by omega), cond_false]
   obtain ⟨b, hb, hB⟩ := back_is hg hN hf (most := n) (by omega)
   rw [hb, Option.bind_some, w64_id (by omega) (by omega)]
   have key2 := for_all (L := s_greenbeltref16_circle_L3 p use b) (s := ((f : Int), (n : Int) - 1, ([] : List (List UInt8))))
    (fun j q => q.2.1 = (n : Int) - 1 - j ∧ q.2.2.length = j ∧ ((j < n ∧ ∃ (a : Nat) (pre : List Nat), q.1 = a ∧ a < p.Defs.length ∧ Path U (n - j) a f ∧ q.2.2 ++ [nameAt p.Defs a] = cnm (nameAt p.Defs) f pre ∧ pre.length = j ∧ ∀ w, w.length = n - 1 - j → Gst U (nameAt p.Defs) f a w → Gst U (nameAt p.Defs) f f (pre ++ w)) ∨
     (j = n ∧ ∃ w, w.length = n - 1 ∧ Gst U (nameAt p.Defs) f f w ∧ q.2.2 = cnm (nameAt p.Defs) f w)))
    (fun c => ∃ w, w.length = n - 1 ∧ Gst U (nameAt p.Defs) f f w ∧ c = cnm (nameAt p.Defs) f w) n (by omega) ⟨by simp, rfl, .inl ⟨by omega, f, [], rfl, hf, hp, rfl, rfl, fun w _ h => h⟩⟩ (fun K j q h hj => .inr ?_) (fun K q h => ?_)
   ·obtain ⟨c, h2, w, h3, h4, rfl⟩ := key2
    rw [h2, Option.bind_some]
    refine ⟨_, rfl, .inr ⟨by simp [cnm], ⟨f, w, (h4.best hg.dom hd).1, rfl⟩, fun i l hw => ?_⟩⟩
    have hpl := wk_path l i hw
    have hiN : i < p.Defs.length := by
     cases l with
     | nil => exact (hg.dom _ _ hw).1
     | cons => exact (hg.dom _ _ hw.1).1
    by_cases hlN : l.length + 1 ≤ p.Defs.length
    ·rcases hbest i (l.length + 1) ⟨by omega, hlN, .inl hiN⟩ hpl with h5 | ⟨h5, h6⟩
     ·exact .inl (by rw [cnm_len, cnm_len]; omega)
     ·refine .inr ⟨by rw [cnm_len, cnm_len]; omega, ?_⟩
      rcases nm_le_of h6 with h7 | h7
      ·exact .inl h7
      ·have := hd f i hf hiN h7
       subst this
       exact .inr ⟨rfl, (h4.best hg.dom hd).2 l hw (by omega)⟩
    ·exact .inl (by rw [cnm_len, cnm_len]; omega)
   ·obtain ⟨a', m, out⟩ := q
    obtain ⟨e1, e3, h⟩ := h
    dsimp only at e1 e3 h; subst e1
    rcases h with ⟨_, a, pre, e2, ha, hpa, hpre, hprel, hG⟩ | ⟨h, _⟩
    ·subst e2
     rw [s_greenbeltref16_circle_L3, decide_eq_true (by dsimp only; omega), cond_true, idx_of ha, Option.bind_some]
     dsimp only
     rw [grd_of (by rw [List.length_append, List.length_singleton]; omega), Option.bind_some]
     obtain ⟨r, hr, hrs⟩ := rcircle_L4g hg hN hB ha (n := n - 1 - j) (by omega) out
     rw [show (((n - 1 - j : Nat) : Int)) = (n : Int) - 1 - j by omega] at hr
     rw [hr, Option.bind_some, w64_id (by omega) (by omega)]
     obtain ⟨k, rfl, hk, hu, hpk, hm⟩ : ∃ k : Nat, r = k ∧ k < p.Defs.length ∧ U a k ∧ Path U (n - 1 - j) k f ∧ ∀ k', k' < p.Defs.length → U a k' → Path U (n - 1 - j) k' f → ¬ nameAt p.Defs k' < nameAt p.Defs k := by
      rcases hrs with ⟨_, hno⟩ | h
      ·exfalso
       rw [show n - j = n - 1 - j + 1 by omega] at hpa
       obtain ⟨k, h1, h2⟩ := path_succ.1 hpa
       exact hno k (hg.dom _ _ h1).2 h1 h2
      ·exact h
     refine ⟨(max (k : Int) 0, (n : Int) - 1 - j - 1, out ++ [(p.Defs.getD a default).Name]), ⟨by dsimp only; omega, by dsimp only; rw [List.length_append, List.length_singleton, e3], ?_⟩, rfl⟩
     dsimp only
     by_cases hj1 : j + 1 < n
     ·refine .inl ⟨hj1, k, pre ++ [k], by omega, hk, by rw [show n - (j + 1) = n - 1 - j by omega]; exact hpk, by rw [hpre]; simp [cnm], by rw [List.length_append, List.length_singleton, hprel], fun w hw hgw => ?_⟩
      rw [List.append_assoc]
      exact hG _ (by simp only [List.singleton_append, List.length_cons]; omega) (.step hu (fun k' hu' hp' => hm k' (hg.dom _ _ hu').2 hu' (by rw [show n - 1 - j = w.length + 1 by omega]; exact hp')) hgw)
     ·have e0 : n - 1 - j = 0 := by omega
      rw [e0] at hpk
      have := path_zero.1 hpk
      subst this
      refine .inr ⟨by omega, pre ++ [], by simp; omega, hG [] (by simp; omega) (.stop hu), by rw [List.append_nil]; exact hpre⟩
    ·omega
   ·obtain ⟨a', m, out⟩ := q
    obtain ⟨e1, e3, h⟩ := h
    dsimp only at e1 e3 h; subst e1
    rcases h with ⟨h, _⟩ | ⟨_, w, h1, h2, h3⟩
    ·omega
    ·exact ⟨out, by rw [s_greenbeltref16_circle_L3, decide_eq_false (by dsimp only; omega), cond_false], w, h1, h2, h3⟩
 ·obtain ⟨be, fr, a⟩ := q
  obtain ⟨e1, hb⟩ := h
  dsimp only at e1 hb; subst e1
  obtain ⟨b, hb', hB⟩ := back_is hg hN hi (most := p.Defs.length) (by omega)
  obtain ⟨r, hr, r1⟩ := rcircle_L2g hN hi hB hb
  rw [s_greenbeltref16_circle_L1, hg.len, decide_eq_true (by dsimp only; omega), cond_true]
  dsimp only
  rw [hb', Option.bind_some, hr, Option.bind_some, w64_succ hi (by omega)]
  exact ⟨(r.1, r.2, ((i + 1 : Nat) : Int)), ⟨rfl, r1.sub fun j m ⟨s1, s2, s3⟩ => ⟨s1, s2, by omega⟩⟩, rfl⟩
 ·obtain ⟨be, fr, a⟩ := q
  obtain ⟨e1, hb⟩ := h
  dsimp only at e1 hb; subst e1
  exact ⟨(be, fr), by rw [s_greenbeltref16_circle_L1, hg.len, decide_eq_false (by dsimp only; omega), cond_false], hb⟩
structure Small (p : Plan) : Prop where
 defs : p.Defs.length ≤ 20
 rules : p.Rules.length ≤ 20
 body : ∀ d ∈ p.Defs, cnt d.Body ≤ 60
 test : ∀ d ∈ p.Rules, cnt d.Test ≤ 60
 keyD : ∀ d ∈ p.Defs, ∀ k ∈ namesL d.Body, k.length ≤ 9223372036854775807
 keyR : ∀ d ∈ p.Rules, ∀ k ∈ namesL d.Test, k.length ≤ 9223372036854775807
omit [Fuel] in
theorem cnt_lvl : ∀ (n : Nat) (e : Expr), cnt e ≤ n → lvl n e
 | 0, e, h => by have := cnt_pos e; omega
 | n + 1, e, h => fun x hx => cnt_lvl n x (by have := mem_cnts hx; rw [cnt_eq] at h; omega)
omit [Fuel] in
theorem names_le (e : Expr) : (namesL e).length ≤ cnt e := names_cnt (cnt e) e (cnt_lvl _ e (Nat.le_refl _))
theorem Small.okD {p : Plan} (h : Small p) : okD p.Defs := fun d hd => ⟨by have := names_le d.Body; have := h.body d hd; omega, h.keyD d hd⟩
theorem refOrder_gen {p : Plan} (h : Small p) : ∃ r, s_greenbeltref16_Order p = some r ∧ OrdS p.Defs r := by
 have hN := h.defs
 obtain ⟨b, hb, hbs⟩ := twice_is (p := p) (by omega)
 unfold s_greenbeltref16_Order
 rw [hb, Option.bind_some]
 cases hbv : b with
 | true =>
  have hnp : ¬ Proper p.Defs := fun h => by have := hbs.2 h; rw [hbv] at this; cases this
  rw [cond_true]
  exact ⟨_, rfl, .inl ⟨hnp, rfl⟩⟩
 | false =>
  have hp := hbs.1 hbv
  obtain ⟨us, _, hgr, _⟩ := newGraph_gen (by omega) hp.dis h.okD
  obtain ⟨use, hu, hg⟩ := uses_is (p := p) (by omega) fun d hd => ⟨60, by omega, cnt_lvl _ _ (h.body d hd), by have := h.body d hd; omega⟩
  obtain ⟨c, hc, hcs⟩ := rcircle_gen hg hp.dis (by omega) fun i hi hcy => by
   obtain ⟨d, _, _, hD⟩ := distances_gen hgr (by omega) hi
   obtain ⟨k, hu, hk⟩ := (hD.cyc hgr.dom).1 hcy
   have hkN := (hgr.dom _ _ hu).2
   have hsm := hD.small k hkN
   exact ⟨(dv d k).toNat + 1, by omega, by omega, .cons hu (hD.path _ _ hkN (by omega))⟩
  rw [cond_false, hu, Option.bind_some, hc, Option.bind_some]
  rcases hcs with ⟨rfl, hac⟩ | ⟨hne, hsm⟩
  ·rw [decide_eq_false (by simp), cond_false, hg.len, grd_of ⟨by omega, by omega, by omega⟩, Option.bind_some, toNat_nat]
   have key := for_all (L := s_greenbeltref16_Order_L1 p use) (s := ((0 : Int), List.replicate p.Defs.length false, ([] : List Int)))
    (fun i q => q.1 = (i : Int) ∧ q.2.1.length = p.Defs.length ∧ ∃ o : List Nat, q.2.2 = nInts o ∧ o.length = i ∧ CanO p.Defs.length (Uses p.Defs) (nameAt p.Defs) o ∧ ∀ k, k < p.Defs.length → (q.2.1.getD k default = true ↔ k ∈ o))
    (fun t => ∃ o : List Nat, t = nInts o ∧ CanO p.Defs.length (Uses p.Defs) (nameAt p.Defs) o ∧ o.length = p.Defs.length) p.Defs.length (by omega) ⟨rfl, by simp, [], rfl, rfl, .nil, fun k hk => by dsimp only; rw [getD_rep hk]; simp⟩ (fun K i q h hi => .inr ?_) (fun K q h => ?_)
   ·obtain ⟨t, h1, o, rfl, h2, h3⟩ := key
    rw [h1, Option.bind_some]
    exact ⟨_, rfl, .inr (.inr ⟨hp, hac, o, h2, h3, rfl⟩)⟩
   ·obtain ⟨a, d, out⟩ := q
    obtain ⟨e1, hd, o, e2, hol, ht, hdo⟩ := h
    dsimp only at e1 e2 hd hdo; subst e1 e2
    obtain ⟨r, hr, hrs⟩ := ready_gen hg (by omega) hd
    rcases hrs with ⟨_, hno⟩ | ⟨k, rfl, hk, hkr, hkm⟩
    ·obtain ⟨x, hx, hxo, hxd⟩ := ready_ex hg.dom hac (o := o) (by omega)
     exact absurd ((can_done hg.dom hdo hx).2 ⟨hx, hxo, hxd⟩) (hno x hx)
    ·have hkl : k < d.length := by omega
     rw [s_greenbeltref16_Order_L1, hg.len, decide_eq_true (by dsimp only; omega), cond_true]
     dsimp only
     rw [hr, Option.bind_some, show max (k : Int) 0 = (k : Int) by omega, grd_of ⟨by omega, by omega⟩, Option.bind_some, Option.bind_some, toNat_nat, grd_of (by unfold nInts; rw [List.length_append, List.length_map, List.length_singleton]; omega), Option.bind_some, w64_succ hi (by omega)]
     exact ⟨(((i + 1 : Nat) : Int), d.set k true, nInts o ++ [(k : Int)]), ⟨rfl, by dsimp only; rw [List.length_set]; exact hd, o ++ [k], by simp [nInts], by simp [hol], ht.snoc ((can_done hg.dom hdo hk).1 hkr) fun y hy => hkm y hy.1 ((can_done hg.dom hdo hy.1).2 hy), done_set hd hdo hk⟩, rfl⟩
   ·obtain ⟨a, d, out⟩ := q
    obtain ⟨e1, hd, o, e2, hol, ht, hdo⟩ := h
    dsimp only at e1 e2 hd hdo; subst e1 e2
    exact ⟨_, by rw [s_greenbeltref16_Order_L1, hg.len, decide_eq_false (by simp), cond_false], o, rfl, ht, hol⟩
  ·have : (c.length : Int) > 0 := by cases c with | nil => exact absurd rfl hne | cons => simp
   rw [decide_eq_true this, cond_true]
   exact ⟨_, rfl, .inr (.inl ⟨hp, c, hne, hsm, rfl⟩)⟩
end Go.Proofs.Ytconjkgifdfhdaa
