/- JournalTorn, in plain Lean. -/
import Derived.Test.YtoflckochjijcaaDoorUa
import Derived.Test.YtoflckochjijcaaDoorUb
import Derived.Test.YtoflckochjijcaaDoorLcD
set_option linter.all false
set_option maxRecDepth 100000
namespace Go.Proofs.YtoflckochjijcaaDoor
open Go Go.RowKit Go.Eng Go.EV Go.Lib
variable [Fuel]
def endsL (l : List (List UInt8)) (i : Nat) : List Int := (List.range i).map fun k => ((forms (l.take (k + 1))).length : Int)
theorem endsL_succ (l : List (List UInt8)) (i : Nat) : endsL l (i + 1) = endsL l i ++ [((forms (l.take (i + 1))).length : Int)] := by simp [endsL, List.range_succ]
theorem endsL_len (l : List (List UInt8)) (i : Nat) : (endsL l i).length = i := by simp [endsL]
theorem endsL_get {l : List (List UInt8)} {i j : Nat} (h : j < i) : (endsL l i).getD j default = ((forms (l.take (j + 1))).length : Int) := by
 rw [List.getD_eq_getElem?_getD, endsL, List.getElem?_map, List.getElem?_range h]; rfl
theorem take_step {l : List (List UInt8)} {i : Nat} (h : i < l.length) : l.take (i + 1) = l.take i ++ [l.getD i default] := by
 rw [List.take_succ, List.getD_eq_getElem?_getD, List.getElem?_eq_getElem h]; rfl
theorem torn_L1 {l : List (List UInt8)} (hl : l.length ≤ 8) (h200 : ∀ t ∈ l, t.length ≤ 200) (y4 : (Nat × Int) × Wd) (hy : y4.1.1 = 1) : ∀ (k i fuel : Nat) (F : List (Int × disk_file)) (Q : List disk_sector) (S : List (disk_sector × Bool)), k = l.length - i → i ≤ l.length → k < fuel → (fl F 0).now = forms (l.take i) → fl F 1 = ⟨[], []⟩ → QOK (300 * i + 300) Q → (S.map (·.1)).Nodup →
  ∃ F' Q' S', s_greenbeltlaw03_JournalTorn_L1 l y4 fuel ((i : Int), ⟨⟨F, Q, S, 0, false, 0, []⟩, [⟨0, l.take i, ((forms (l.take i)).length : Int), false⟩]⟩, endsL l i) = some (.inr (⟨⟨F', Q', S', 0, false, 0, []⟩, [⟨0, l, ((forms l).length : Int), false⟩]⟩, endsL l l.length)) ∧ (fl F' 0).now = forms l ∧ fl F' 1 = ⟨[], []⟩ ∧ QOK 3000 Q' ∧ (S'.map (·.1)).Nodup := by
 intro k
 induction k with
 | zero =>
  intro i fuel F Q S hk hi hf hx h1 hq hS
  obtain ⟨f, rfl⟩ : ∃ f, fuel = f + 1 := ⟨fuel - 1, by omega⟩
  have : i = l.length := by omega
  subst this
  rw [List.take_length] at hx ⊢
  refine ⟨F, Q, S, ?_, hx, h1, ⟨by have := hq.1; omega, hq.2⟩, hS⟩
  rw [s_greenbeltlaw03_JournalTorn_L1, decide_eq_false (by simp), cond_false]
 | succ k ih =>
  intro i fuel F Q S hk hi hf hx h1 hq hS
  obtain ⟨f, rfl⟩ : ∃ f, fuel = f + 1 := ⟨fuel - 1, by omega⟩
  have hlt : i < l.length := by omega
  have hr : (l.getD i default).length ≤ 200 := h200 _ (by rw [List.getD_eq_getElem?_getD, List.getElem?_eq_getElem hlt]; exact List.getElem_mem hlt)
  have hfl := forms200 (l := l.take i) fun t ht => h200 t (List.mem_of_mem_take ht)
  have hti : (l.take i).length = i := by rw [List.length_take]; omega
  have hfr := form200 hr
  have hts := take_step hlt
  have hfs : forms (l.take (i + 1)) = forms (l.take i) ++ form (l.getD i default) := by rw [hts, forms_append, forms_one]
  obtain ⟨q', st', e, hq', hst'⟩ := append_ok (F := F) (Q := Q) (S := S) (lost := 0) (a := 0) (keep := []) (js := [⟨0, l.take i, ((forms (l.take i)).length : Int), false⟩]) (jn := 1) (r := l.getD i default) (show (1 : Nat) < 400000 by decide) (by decide) rfl (by omega) (by omega) (by omega) (by decide) (by decide) (by decide) (by decide) hx hq hS (by omega)
  rw [s_greenbeltlaw03_JournalTorn_L1, decide_eq_true (show (i : Int) < (l.length : Int) by omega), cond_true, idx_of hlt, Option.bind_some]
  simp only [hy]
  rw [e, Option.bind_some]
  simp only [decide_true, Bool.not_true, cond_false, List.set_cons_zero, Nat.sub_self, show dec1 0 = 0 from rfl]
  rw [ksize_spec (W := ⟨_, [_]⟩) (show (1 : Nat) < 400000 by decide), Option.bind_some]
  simp only [fl_self]
  rw [w64_id (by omega) (by omega), grd_ofI (by simp [endsL_len]; omega), Option.bind_some, ← hfs, ← hts, ← endsL_succ]
  exact ih (i + 1) f _ q' st' (by omega) (by omega) (by omega) (by rw [fl_self]) (by rw [fl_mset, if_neg (by decide)]; exact h1) ⟨by have := hq'.1; omega, hq'.2⟩ hst'
theorem ints_set (x : List UInt8) (i : Nat) : (intsOf x).set i 0 = intsOf (x.set i 0) := by
 simp only [intsOf, List.map_set]; rfl
theorem bytes_ints (x : List UInt8) : bytesOf (intsOf x) = x := bytesOf_toNat x
theorem ints_take (x : List UInt8) (n : Nat) : (intsOf x).take n = intsOf (x.take n) := by simp [intsOf]
theorem ints_len (x : List UInt8) : (intsOf x).length = x.length := by simp [intsOf]
theorem sub_set {x s : List UInt8} (h : Sub x s) (i : Nat) : Sub (x.set i 0) s := by
 obtain ⟨h1, h2⟩ := sub_iff.1 h
 refine sub_iff.2 ⟨by simpa using h1, fun j b hb => ?_⟩
 rw [List.getElem?_set] at hb
 split at hb
 ·split at hb
  ·cases hb; exact .inr rfl
  ·cases hb
 ·exact h2 j b hb
theorem torn_L2 {zero : List Int} (hz : zero.length ≤ 50) {s : List UInt8} (hs : s.length ≤ 100000) : ∀ (k i fuel : Nat) (x : List UInt8), k = s.length - i → i ≤ s.length → k < fuel → x.length = s.length → Sub x s →
  ∃ x', s_greenbeltlaw03_JournalTorn_L2 zero fuel ((i : Int), intsOf x) = some (intsOf x') ∧ x'.length = s.length ∧ Sub x' s := by
 intro k
 induction k with
 | zero =>
  intro i fuel x hk hi hf hx h
  obtain ⟨f, rfl⟩ : ∃ f, fuel = f + 1 := ⟨fuel - 1, by omega⟩
  refine ⟨x, ?_, hx, h⟩
  rw [s_greenbeltlaw03_JournalTorn_L2]
  simp only [ints_len]
  rw [decide_eq_false (show ¬ (i : Int) < (x.length : Int) by omega)]
  rfl
 | succ k ih =>
  intro i fuel x hk hi hf hx h
  obtain ⟨f, rfl⟩ : ∃ f, fuel = f + 1 := ⟨fuel - 1, by omega⟩
  rw [s_greenbeltlaw03_JournalTorn_L2]
  simp only [ints_len]
  rw [decide_eq_true (show (i : Int) < (x.length : Int) by omega), cond_true, Option.bind_some]
  by_cases h0 : 0 < zero.length
  ·rw [decide_eq_true (show (zero.length : Int) > 0 by omega), cond_true, grd_ofI (by omega), Option.bind_some]
   have hd : 0 ≤ Int.tdiv (i : Int) 64 ∧ Int.tdiv (i : Int) 64 ≤ 100000 := by
    rw [Int.tdiv_eq_ediv_of_nonneg (by omega)]; omega
   have hm : 0 ≤ Int.tmod (w64 (Int.tdiv (i : Int) 64)) (zero.length : Int) ∧ Int.tmod (w64 (Int.tdiv (i : Int) 64)) (zero.length : Int) < zero.length := by
    rw [w64_id (by omega) (by omega)]
    exact ⟨Int.tmod_nonneg _ hd.1, Int.tmod_lt_of_pos _ (by omega)⟩
   rw [show idx zero (Int.tmod (w64 (Int.tdiv (i : Int) 64)) (zero.length : Int)) = some (zero.getD (Int.tmod (w64 (Int.tdiv (i : Int) 64)) (zero.length : Int)).toNat default) from if_pos hm, Option.bind_some]
   rw [grd_ofI (show 0 ≤ (i : Int) ∧ (i : Int) < (x.length : Nat) by omega)]
   generalize hb : decide ((IntKind.i64.wrap ((BitVec.ofInt IntKind.i64.bits (zero.getD (Int.tmod (w64 (Int.tdiv (i : Int) 64)) (zero.length : Int)).toNat default) &&& BitVec.ofInt IntKind.i64.bits 1).toNat : Int)) = 1) = b
   cases b with
   | true =>
    simp only [cond_true, Option.bind_some, Int.toNat_natCast, ints_set]
    rw [w64_id (by omega) (by omega)]
    exact ih (i + 1) f (x.set i 0) (by omega) (by omega) (by omega) (by simpa using hx) (sub_set h i)
   | false =>
    simp only [cond_false, Option.bind_some]
    rw [w64_id (by omega) (by omega)]
    exact ih (i + 1) f x (by omega) (by omega) (by omega) hx h
  ·refine ⟨x, ?_, hx, h⟩
   rw [decide_eq_false (show ¬ (zero.length : Int) > 0 by omega)]
   rfl
theorem torn_L3 {l : List (List UInt8)} (hl : l.length ≤ 8) {size : Int} {v2 : Wd × List Int} (h2 : v2.2 = endsL l l.length) {y8 : (List UInt8 × Int) × Wd} (h8 : y8.1.1 = forms l) {v3 : List Int} {t : List UInt8}
  (ht : bytesOf (List.take (Int.toNat (max 0 (min size ((v3).length : Int))) - Int.toNat 0) (List.drop (Int.toNat 0) v3)) = t) (htl : t.length ≤ 100000) : ∀ (k m fuel : Nat), k = l.length - m → m ≤ l.length → k < fuel → forms (l.take m) <+: t →
  ∃ M : Nat, s_greenbeltlaw03_JournalTorn_L3 size v2 y8 v3 fuel (m : Int) = some (M : Int) ∧ M ≤ l.length ∧ forms (l.take M) <+: t ∧ (M < l.length → ¬ forms (l.take (M + 1)) <+: t) := by
 intro k
 induction k with
 | zero =>
  intro m fuel hk hm hf hp
  obtain ⟨f, rfl⟩ : ∃ f, fuel = f + 1 := ⟨fuel - 1, by omega⟩
  refine ⟨m, ?_, hm, hp, fun h => by omega⟩
  rw [s_greenbeltlaw03_JournalTorn_L3]
  simp only [h2, endsL_len]
  rw [decide_eq_false (show ¬ (m : Int) < (l.length : Int) by omega)]
  rfl
 | succ k ih =>
  intro m fuel hk hm hf hp
  obtain ⟨f, rfl⟩ : ∃ f, fuel = f + 1 := ⟨fuel - 1, by omega⟩
  have hml : m < l.length := by omega
  rw [s_greenbeltlaw03_JournalTorn_L3]
  simp only [h2, endsL_len, ht, h8]
  rw [decide_eq_true (show (m : Int) < (l.length : Int) by omega), cond_true, grd_ofI (show 0 ≤ (m : Int) ∧ (m : Int) < (l.length : Nat) by omega)]
  simp only [Option.bind_some, Int.toNat_natCast, endsL_get hml]
  have hpre : forms (l.take (m + 1)) <+: forms l := by
   refine ⟨forms (l.drop (m + 1)), ?_⟩
   rw [← forms_append, List.take_append_drop]
  by_cases h1 : (forms (l.take (m + 1))).length ≤ t.length
  ·rw [decide_eq_true (show ((forms (l.take (m + 1))).length : Int) ≤ (t.length : Int) by omega), cond_true]
   rw [cut_tk h1, Option.bind_some, cut_tk hpre.length_le, Option.bind_some, ← List.prefix_iff_eq_take.1 hpre]
   by_cases h3 : t.take (forms (l.take (m + 1))).length = forms (l.take (m + 1))
   ·rw [decide_eq_true h3, Option.bind_some, cond_true, w64_id (by omega) (by omega)]
    exact ih (m + 1) f (by omega) (by omega) (by omega) (List.prefix_iff_eq_take.2 h3.symm)
   ·rw [decide_eq_false h3, Option.bind_some, cond_false]
    exact ⟨m, rfl, hm, hp, fun _ h => h3 (List.prefix_iff_eq_take.1 h).symm⟩
  ·rw [decide_eq_false (show ¬ ((forms (l.take (m + 1))).length : Int) ≤ (t.length : Int) by omega), cond_false, Option.bind_some, cond_false]
   exact ⟨m, rfl, hm, hp, fun _ h => h1 h.length_le⟩
theorem torn_recs {l l' : List (List UInt8)} {t : List UInt8} {M : Nat} (h200 : ∀ r ∈ l, r.length ≤ 200) (hs : Sub t (forms l)) (hP : Parsed t l') (hM : M ≤ l.length) (hp : forms (l.take M) <+: t) (hn : M < l.length → ¬ forms (l.take (M + 1)) <+: t) : l' = l.take M := by
 have hpre := parse_sub (fun r hr => by have := h200 r hr; omega) hs hP
 have e1 : l' = l.take l'.length := List.prefix_iff_eq_take.1 hpre
 have h1 : M ≤ l'.length := by
  obtain ⟨v, rfl⟩ := hp
  obtain ⟨k, hk⟩ := parsed_ex v.length v (Nat.le_refl _)
  rw [parsed_uniq hP (parsed_app hk fun r hr => by have := h200 r (List.mem_of_mem_take hr); unfold okF; omega)]
  simp; omega
 have h2 : l'.length ≤ M := by
  have hle := hpre.length_le
  by_cases h : M < l'.length
  ·exfalso
   refine hn (by omega) ?_
   obtain ⟨v, hv⟩ := hP.2
   rw [hv.1]
   refine List.IsPrefix.trans ?_ (List.prefix_append _ _)
   rw [e1]
   refine ⟨forms ((l.take l'.length).drop (M + 1)), ?_⟩
   rw [← forms_append]
   congr 1
   have := List.take_append_drop (M + 1) (l.take l'.length)
   rw [List.take_take, Nat.min_eq_left (by omega)] at this
   exact this
  ·omega
 rw [e1, Nat.le_antisymm h2 h1]
theorem torn_law (l : List (List UInt8)) (size : Int) (zero : List Int) (hl0 : l.length ≤ 9223372036854775807) : s_greenbeltlaw03_JournalTorn l size zero = some true := by
 unfold s_greenbeltlaw03_JournalTorn
 rw [small_spec, Option.bind_some]
 obtain ⟨b, hb, hb2⟩ := texts_spec hl0
 rw [hb, Option.bind_some]
 cases b with
 | false => rfl
 | true =>
 obtain ⟨hl, h200⟩ := hb2 rfl
 by_cases hz : 50 < zero.length
 ·rw [decide_eq_true (show (zero.length : Int) > 50 by omega)]; rfl
 rw [decide_eq_false (show ¬ (zero.length : Int) > 50 by omega)]
 simp only [Bool.not_true, cond_false, Option.bind_some, show k_new = some ((), ⟨⟨[], [], [], 0, false, 0, []⟩, []⟩) from rfl]
 obtain ⟨F1, Q1, S1, e1, hx1, ho1, hq1, hs1, _⟩ := open_calm (F := []) (Q := []) (S := []) (keep := []) (js := []) (f := 0) (n := 0) (by decide) (by decide) (qok_nil 0) (by decide) List.nodup_nil rfl (by decide) nil_dec
 rw [e1, Option.bind_some]
 simp only [List.length_nil, Nat.zero_add, List.nil_append, show decide ((1 : Nat) = 0) = false from rfl, cond_false]
 obtain ⟨F2, Q2, S2, e2, hx2, h12, hq2, hs2⟩ := torn_L1 hl h200 ((1, (0 : Int)), (⟨⟨F1, Q1, S1, 0, false, 0, []⟩, [(⟨0, [], ((forms []).length : Int), false⟩ : Jrn)]⟩ : Wd)) rfl l.length 0 KK F1 Q1 S1 (by omega) (by omega) (kk_lt (by omega)) (by rw [hx1]; rfl) (by rw [ho1 1 (by decide)]; rfl) ⟨by have := hq1.1; omega, hq1.2⟩ hs1
 simp only [List.take_zero, endsL, List.range_zero, List.map_nil, Int.natCast_zero] at e2
 simp only [List.map_nil, forms, List.flatMap_nil, List.length_nil, Int.natCast_zero] at e2 ⊢
 rw [e2, Option.bind_some]
 simp only
 have hfl := forms200 h200
 have hff : (l.flatMap form) = forms l := rfl
 simp only [hff]
 rw [ksize_spec (W := ⟨_, [_]⟩) (show (1 : Nat) < 400000 by decide), Option.bind_some]
 simp only [hx2]
 rw [kread_spec (js := [_]) (m := (forms l).length) (show (1 : Nat) < 400000 by decide) (by decide) hx2 (Nat.le_refl _), Option.bind_some]
 simp only
 rw [grd_ofI (show (forms l).length ≤ 9223372036854775807 by omega), Option.bind_some]
 obtain ⟨x, e3, hxl, hxs⟩ := torn_L2 (zero := zero) (by omega) (s := forms l) (by omega) (forms l).length 0 KK (forms l) (by omega) (by omega) (kk_lt (by omega)) rfl (sub_refl _)
 rw [show ((0 : Int), intsOf (forms l)) = (((0 : Nat) : Int), intsOf (forms l)) from rfl, e3, Option.bind_some]
 rw [grd_ofI (by simp only [ints_len]; omega), Option.bind_some]
 have hfe : (List.map (fun k => (((List.take (k + 1) l).flatMap form).length : Int)) (List.range l.length)) = endsL l l.length := rfl
 obtain ⟨t, ht, hts, htl⟩ : ∃ t, bytesOf (List.take (Int.toNat (max 0 (min size ((intsOf x).length : Int))) - Int.toNat 0) (List.drop (Int.toNat 0) (intsOf x))) = t ∧ Sub t (forms l) ∧ t.length ≤ 1944 := by
  refine ⟨_, rfl, ?_⟩
  rw [show Int.toNat 0 = 0 from rfl, List.drop_zero, ints_take, bytes_ints]
  obtain ⟨h1, h2⟩ := sub_iff.1 hxs
  refine ⟨sub_iff.2 ⟨by simp; omega, fun i b hb => ?_⟩, by simp; omega⟩
  rw [List.getElem?_take] at hb
  split at hb
  ·exact h2 i b hb
  ·cases hb
 obtain ⟨M, e4, hM, hMp, hMn⟩ := torn_L3 hl (size := size) (v2 := (⟨⟨F2, Q2, S2, 0, false, 0, []⟩, [⟨0, l, ((forms l).length : Int), false⟩]⟩, endsL l l.length)) rfl (y8 := ((forms l, (0 : Int)), (⟨⟨F2, Q2, S2, 0, false, 0, []⟩, [⟨0, l, ((forms l).length : Int), false⟩]⟩ : Wd))) rfl ht (by omega) l.length 0 KK (by omega) (by omega) (kk_lt (by omega)) (by rw [List.take_zero]; exact List.nil_prefix)
 rw [hfe] 
 rw [Int.natCast_zero] at e4
 rw [e4, Option.bind_some, ht]
 have hP0 := parsed_ex t.length t (Nat.le_refl _)
 obtain ⟨l', hP⟩ := hP0
 have hl' := torn_recs h200 hts hP hM hMp hMn
 subst hl'
 obtain ⟨F3, Q3, S3, e5, hx3, hq3, hs3⟩ : ∃ F3 Q3 S3, k_write ⟨⟨F2, Q2, S2, 0, false, 0, []⟩, [⟨0, l, ((forms l).length : Int), false⟩]⟩ 1 0 t = some (0, ⟨⟨F3, Q3, S3, 0, false, 0, []⟩, [⟨0, l, ((forms l).length : Int), false⟩]⟩) ∧ (fl F3 1).now = t ∧ QOK 6000 Q3 ∧ (S3.map (·.1)).Nodup := by
  by_cases h0 : t = []
  ·subst h0
   exact ⟨F2, Q2, S2, kwrite_nil (by decide) (show (1 : Nat) < 400000 by decide), by rw [h12], ⟨by have := hq2.1; omega, hq2.2⟩, hs2⟩
  ·obtain ⟨q, st, e, h1, h2⟩ := kwrite_spec (F := F2) (Q := Q2) (S := S2) (lost := 0) (a := 0) (f := 1) (keep := []) (js := [⟨0, l, ((forms l).length : Int), false⟩]) (s := t) (x := []) (show (1 : Nat) < 400000 by decide) (by decide) (by decide) (by decide) (by decide) (by rw [h12]) h0 (by simp; omega) hq2 hs2 (by decide)
   exact ⟨_, q, st, e, by rw [fl_self]; rfl, ⟨by have := h1.1; omega, h1.2⟩, h2⟩
 rw [e5, Option.bind_some]
 obtain ⟨F4, Q4, S4, e6, hx4, ho4, hq4, hs4, _⟩ := open_calm (keep := []) (js := [(⟨0, l, ((forms l).length : Int), false⟩ : Jrn)]) (f := 1) (by decide) (show (1 : Nat) < 400000 by decide) hq3 (by decide) hs3 hx3 (by omega) hP
 rw [e6, Option.bind_some]
 simp only [List.length_singleton, List.singleton_append, show decide ((1 + 1 : Nat) = 0) = false from rfl, decide_true, Bool.not_true, cond_false]
 have htM : (l.take M).length = M := by rw [List.length_take]; omega
 have hfM := forms200 (l := l.take M) fun r hr => h200 r (List.mem_of_mem_take hr)
 rw [all_spec (W := ⟨⟨F4, Q4, S4, 0, false, 0, []⟩, [_, _]⟩) (j := ⟨1, l.take M, _, false⟩) (show (2 : Nat) < 400000 by decide) (by decide) rfl (by show (l.take M).length ≤ _; omega), Option.bind_some, cut_tk hM, Option.bind_some]
 simp only
 rw [same_spec (by omega), Option.bind_some, decide_eq_true rfl]
 simp only [Bool.not_true, Option.bind_some, cond_false, cond_true]
 have hnl : (form [110, 101, 120, 116]).length ≤ 47 := form_len _ (by decide)
 obtain ⟨q', st', e7, hq5, hs5⟩ := append_ok (F := F4) (Q := Q4) (S := S4) (lost := 0) (a := 0) (keep := []) (js := [(⟨0, l, ((forms l).length : Int), false⟩ : Jrn), ⟨1, l.take M, ((forms (l.take M)).length : Int), false⟩]) (jn := 1 + 1) (r := [110, 101, 120, 116]) (show (2 : Nat) < 400000 by decide) (by decide) rfl (by decide) (by omega) (by omega) (by decide) (by decide) (by decide) (by decide) (by rw [hx4]) hq4 hs4 (by decide)
 rw [e7, Option.bind_some]
 simp only [decide_true, cond_true, show (1 + 1 - 1 : Nat) = 1 from rfl, List.set_cons_succ, List.set_cons_zero]
 rw [len_spec (W := ⟨_, [_, _]⟩) (j := ⟨1, l.take M ++ [[110, 101, 120, 116]], _, false⟩) (show (2 : Nat) < 400000 by decide) (by decide) rfl, Option.bind_some]
 simp only
 have hln : ((l.take M ++ [([110, 101, 120, 116] : List UInt8)]).length : Int) = (M : Int) + 1 := by simp; omega
 rw [w64_id (by omega) (by omega), decide_eq_true hln, cond_true]
 have hr5 : (l.take M ++ [([110, 101, 120, 116] : List UInt8)]).length ≤ 1099511627776 := by simp; omega
 rw [get_spec (W := ⟨_, [_, _]⟩) (j := ⟨1, l.take M ++ [[110, 101, 120, 116]], _, false⟩) (show (2 : Nat) < 400000 by decide) (by decide) rfl hr5, Option.bind_some]
 simp only [if_pos (show (0 : Int) ≤ (M : Int) by omega), Int.toNat_natCast]
 have hg : (l.take M ++ [([110, 101, 120, 116] : List UInt8)])[M]? = some [110, 101, 120, 116] := by
  rw [List.getElem?_append_right (by omega), htM, Nat.sub_self]; rfl
 rw [hg, Option.getD_some, decide_eq_true rfl, cond_true]
 rw [get_spec (W := ⟨_, [_, _]⟩) (j := ⟨1, l.take M ++ [[110, 101, 120, 116]], _, false⟩) (show (2 : Nat) < 400000 by decide) (by decide) rfl hr5, Option.bind_some]
 simp only [if_pos (show (0 : Int) ≤ (M : Int) + 1 by omega)]
 have hg2 : (l.take M ++ [([110, 101, 120, 116] : List UInt8)])[((M : Int) + 1).toNat]? = none := List.getElem?_eq_none (by simp; omega)
 rw [hg2, Option.getD_none, decide_eq_true rfl, cond_true]
 rw [get_spec (W := ⟨_, [_, _]⟩) (j := ⟨1, l.take M ++ [[110, 101, 120, 116]], _, false⟩) (show (2 : Nat) < 400000 by decide) (by decide) rfl hr5, Option.bind_some]
 simp only [if_neg (show ¬ (0 : Int) ≤ -1 by decide), decide_true, cond_true]
 rw [grd_ofI (by decide), Option.bind_some]
 rw [append_long (W := ⟨_, [_, _]⟩) (j := ⟨1, l.take M ++ [[110, 101, 120, 116]], _, false⟩) (show (2 : Nat) < 400000 by decide) (by decide) rfl rfl (by rw [bytesOf, List.length_map, List.length_replicate]; decide) (by rw [bytesOf, List.length_map, List.length_replicate]; decide), Option.bind_some]
 rfl
end Go.Proofs.YtoflckochjijcaaDoor
