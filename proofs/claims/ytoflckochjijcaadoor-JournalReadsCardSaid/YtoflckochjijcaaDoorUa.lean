/- JournalReads, in plain Lean. -/
import Derived.Test.YtoflckochjijcaaDoorR
set_option linter.all false
set_option maxRecDepth 100000
namespace Go.Proofs.YtoflckochjijcaaDoor
open Go Go.RowKit Go.Eng Go.EV Go.Lib
variable [Fuel]
theorem law_cmp (s x : List UInt8) (p : Nat) (hp : p ≤ s.length) (hx : s.drop p = x) (hs : s.length ≤ 300) (t : List UInt8) (n : Int) (ht : t.length ≤ 300) (hn : okN 0 n) :
  ∃ b, ((s_journal_Sum t).bind fun y12 => (bif (!(decide (n = y12))) then some true else (bif (decide ((w64 ((p : Int) + (List.length (encT t ++ encN 59 n) : Int))) > (List.length s : Int))) then some true else (cut s (p : Int) (w64 ((p : Int) + (List.length (encT t ++ encN 59 n) : Int)))).bind fun x1 => some (!(decide (x1 = (encT t ++ encN 59 n))))))) = some b ∧ (b = false ↔ n = jsum t ∧ ∃ v, x = form t ++ v) := by
 have hxl : x.length = s.length - p := by rw [← hx, List.length_drop]
 have h1 := encT_len t (by omega)
 have h2 := encN_len hn.1
 rw [sum_spec (by omega), Option.bind_some]
 by_cases h2 : n = jsum t
 ·subst h2
  rw [show (!(decide (jsum t = jsum t))) = false by simp, cond_false]
  have hfl := form_len t (by omega)
  change ∃ b, (bif (decide ((w64 ((p : Int) + ((form t).length : Int))) > (s.length : Int))) then some true else (cut s (p : Int) (w64 ((p : Int) + ((form t).length : Int)))).bind fun x1 => some (!(decide (x1 = form t)))) = some b ∧ _
  rw [w64_id (n := (p : Int) + ((form t).length : Int)) (by omega) (by omega)]
  by_cases h3 : (form t).length ≤ x.length
  ·rw [show decide ((p : Int) + ((form t).length : Int) > (s.length : Int)) = false by simp; omega, cond_false]
   have hc : cut s (p : Int) ((p : Int) + ((form t).length : Int)) = some (x.take (form t).length) := by
    unfold cut
    rw [if_pos ⟨by omega, by omega, by omega⟩, ← hx]
    congr 1
    rw [show ((p : Int) + ((form t).length : Int)).toNat = p + (form t).length by omega, show ((p : Int)).toNat = p by omega, List.drop_take]
    congr 1; omega
   rw [hc, Option.bind_some]
   refine ⟨_, rfl, ?_⟩
   simp only [Bool.not_eq_false', decide_eq_true_eq]
   constructor
   ·intro h
    exact ⟨trivial, x.drop (form t).length, by conv => lhs; rw [← List.take_append_drop (form t).length x, h]⟩
   ·rintro ⟨_, v, rfl⟩
    simp
  ·rw [show decide ((p : Int) + ((form t).length : Int) > (s.length : Int)) = true by simp; omega, cond_true]
   refine ⟨true, rfl, ?_⟩
   simp only [Bool.true_eq_false, false_iff, not_and, not_exists]
   intro _ v h
   have := congrArg List.length h
   simp at this; omega
 ·rw [show (!(decide (n = jsum t))) = true by simp [h2], cond_true]
  exact ⟨true, rfl, by simp [h2]⟩
theorem law_read_L (s : List UInt8) (hs : s.length ≤ 300) : ∀ (k fuel : Nat) (a l : List (List UInt8)) (x : List UInt8), x.length ≤ k → k < fuel → s = forms a ++ x → Parsed x l →
  s_gl03_JournalReads_L1 s fuel (((forms a).length : Int), x, false, a) = some (((forms (a ++ l)).length : Int), a ++ l) := by
 intro k
 induction k with
 | zero =>
  intro fuel a l x hk hf he hl
  obtain ⟨f, rfl⟩ : ∃ f, fuel = f + 1 := ⟨fuel - 1, by omega⟩
  have : x = [] := List.eq_nil_of_length_eq_zero (by omega)
  subst this
  have := parsed_none hl dec_form_nil
  subst this
  rw [s_gl03_JournalReads_L1]
  simp [s_wire_Reader_Left]
 | succ k ih =>
  intro fuel a l x hk hf he hl
  obtain ⟨f, rfl⟩ : ∃ f, fuel = f + 1 := ⟨fuel - 1, by omega⟩
  by_cases hx0 : x = []
  ·subst hx0
   have := parsed_none hl dec_form_nil
   subst this
   rw [s_gl03_JournalReads_L1]
   simp [s_wire_Reader_Left]
  have hxp : 0 < x.length := List.length_pos_iff.2 hx0
  have hsl : s.length = (forms a).length + x.length := by rw [he, List.length_append]
  have hdr : s.drop (forms a).length = x := by rw [he]; simp
  rw [s_gl03_JournalReads_L1]
  simp only [s_wire_Reader_Left, Option.bind_some, show decide ((x.length : Int) > 0) = true by simp; omega, cond_true]
  rw [text_spec (fun h => by cases h) (by omega), Option.bind_some]
  have hrd : (rd (Dec encT okT x) [] false).1.length ≤ x.length ∧ (rd (Dec encT okT x) [] false).2.1.length ≤ x.length := by
   cases hT : Dec encT okT x with
   | none => simp [rd]
   | some p =>
    obtain ⟨t, u⟩ := p
    obtain ⟨_, rfl⟩ := Dec_is hT
    simp only [rd, encT, List.length_append, List.length_singleton]; omega
  rw [Num_spec (by omega), Option.bind_some, s_Text (by omega), Option.bind_some]
  have hN : okN 0 (rd (Dec (encN 59) (okN 0) (rd (Dec encT okT x) [] false).2.1) 0 (rd (Dec encT okT x) [] false).2.2).1 := by
   cases hT : Dec (encN 59) (okN 0) (rd (Dec encT okT x) [] false).2.1 with
   | none => exact ⟨⟨by simp [rd], by simp [rd]⟩, by simp [rd]⟩
   | some p =>
    obtain ⟨t, u⟩ := p
    exact (Dec_is hT).1
  rw [s_Num hN.1, if_neg (by have := hN.2; omega), Option.bind_some]
  have hl1 := encT_len (rd (Dec encT okT x) [] false).1 (by omega)
  have hl2 := encN_len hN.1
  obtain ⟨b, hb, hb2⟩ := law_cmp s x (forms a).length (by omega) hdr hs (rd (Dec encT okT x) [] false).1 _ (by omega) hN
  refine Option.bind_eq_some_iff.2 ⟨(), grd_ofI (by omega), ?_⟩
  rw [hb, Option.bind_some]
  cases hD : Dec form okF x with
  | none =>
   have := parsed_none hl hD
   subst this
   have hbt : b = true := by
    cases b with
    | true => rfl
    | false =>
     obtain ⟨_, v, h3⟩ := hb2.1 rfl
     exact absurd h3 (Dec_none hD _ _ (by unfold okF; omega))
   subst hbt
   simp
  | some p =>
   obtain ⟨t, v⟩ := p
   obtain ⟨ht, hxe⟩ := Dec_is hD
   obtain ⟨l', rfl, hl'⟩ := parsed_split hl hD
   have e1 : Dec encT okT x = some (t, encN 59 (jsum t) ++ v) := Dec_of pf_text (okT_of ht) (by rw [hxe, form, List.append_assoc])
   have e2 : Dec (encN 59) (okN 0) (encN 59 (jsum t) ++ v) = some (jsum t, v) := Dec_of (pf_num st59 0) (jsum_ok t) rfl
   have hbf : b = false := hb2.2 (by
    rw [e1]
    simp only [rd, e2]
    exact ⟨trivial, v, hxe⟩)
   subst hbf
   rw [e1]
   simp only [rd, e2, cond_false]
   have hfp := form_pos t
   have hvl : x.length = (form t).length + v.length := by rw [hxe, List.length_append]
   have hal := forms_length (a ++ [t])
   have hfa : (forms (a ++ [t])).length = (forms a).length + (form t).length := by rw [forms_append, forms_one, List.length_append]
   refine Option.bind_eq_some_iff.2 ⟨(), grd_ofI (by omega), ?_⟩
   change s_gl03_JournalReads_L1 s f (w64 (((forms a).length : Int) + ((form t).length : Int)), v, false, a ++ [t]) = _
   rw [w64_id (by omega) (by omega)]
   have := ih f (a ++ [t]) l' v (by omega) (by omega) (by rw [forms_append, forms_one, List.append_assoc, ← hxe, he]) hl'
   rw [hfa, Int.natCast_add] at this
   rw [this]
   simp
theorem open_calm {F : List (Int × disk_file)} {Q : List disk_sector} {S : List (disk_sector × Bool)} {f : Int} {keep : List Int} {js : List Jrn} {n : Nat} {x : List UInt8} {l : List (List UInt8)} (h : 0 ≤ f ∧ f < 16) (hjs : js.length < 400000) (hq : QOK n Q) (hn : n ≤ 549755813888) (hS : (S.map (·.1)).Nodup) (hx : (fl F f).now = x) (hxl : x.length ≤ 549755813888) (hl : Parsed x l) :
  ∃ F' q' st', k_open ⟨⟨F, Q, S, 0, false, 0, keep⟩, js⟩ f = some ((js.length + 1, 0), ⟨⟨F', q', st', 0, false, 0, keep⟩, js ++ [⟨f, l, ((forms l).length : Int), false⟩]⟩) ∧ fl F' f = ⟨forms l, forms l⟩ ∧ (∀ g, g ≠ f → fl F' g = fl F g) ∧ QOK n q' ∧ (st'.map (·.1)).Nodup ∧ ((F.map (·.1)).Nodup → (F'.map (·.1)).Nodup) := by
 obtain ⟨h1, h2, h3⟩ := forms_le hl
 by_cases hlt : (forms l).length < x.length
 ·obtain ⟨q', st', e, hq', hst'⟩ := open_p2 (a := 0) (keep := keep) h hjs (by decide) (by decide) (by decide) (by decide) hq hn hS hx hxl hl hlt
  refine ⟨_, q', st', e, by rw [fl_self], fun g hg => by rw [fl_mset, if_neg hg, fl_mset, if_neg hg], hq', hst', fun hn => nodup_mset _ _ _ (nodup_mset _ _ _ hn)⟩
 ·have hf := h3 (by omega)
  obtain ⟨q', st', e, hq', hst'⟩ := open_p1 (a := 0) (keep := keep) h hjs (by decide) (by decide) (by decide) hq hn hS hx hxl hl hf
  refine ⟨_, q', st', ?_, by rw [fl_self, ← hf], fun g hg => by rw [fl_mset, if_neg hg], hq', hst', fun hn => nodup_mset _ _ _ hn⟩
  rw [← hf]; exact e
theorem kwrite_nil {F : List (Int × disk_file)} {Q : List disk_sector} {S : List (disk_sector × Bool)} {f : Int} {keep : List Int} {js : List Jrn} (h : 0 ≤ f ∧ f < 16) (hjs : js.length < 400000) : k_write ⟨⟨F, Q, S, 0, false, 0, keep⟩, js⟩ f 0 [] = some (0, ⟨⟨F, Q, S, 0, false, 0, keep⟩, js⟩) := by
 have e : s_disk_Disk_Write_n F Q S 0 false 0 keep f 0 [] = some (0, 0, false, 0, keep, F, Q, S) := by
  unfold s_disk_Disk_Write_n
  rw [ends_up (by decide) (by decide), Option.bind_some]
  simp only [show decide ((0 : Int) = 1) = false from rfl, cond_false, s_disk_Disk_write, may_up h, Option.bind_some, decide_true, Bool.not_true]
  rfl
 simp only [k_write, grd_of hjs, Option.bind_some, e, orO]
theorem reads_law (s : List UInt8) : s_gl03_JournalReads s = some true := by
 unfold s_gl03_JournalReads
 rw [small_spec, Option.bind_some]
 by_cases hs : 300 < s.length
 ·rw [show decide ((s.length : Int) > 300) = true by simp; omega, cond_true]
 rw [show decide ((s.length : Int) > 300) = false by simp; omega, cond_false, show k_new = some ((), ⟨⟨[], [], [], 0, false, 0, []⟩, []⟩) from rfl, Option.bind_some]
 obtain ⟨l, hl⟩ := parsed_ex s.length s (Nat.le_refl _)
 -- the file is written
 obtain ⟨F1, Q1, S1, e1, hx1, hq1, hs1⟩ : ∃ F1 Q1 S1, k_write ⟨⟨[], [], [], 0, false, 0, []⟩, []⟩ 7 0 s = some (0, ⟨⟨F1, Q1, S1, 0, false, 0, []⟩, []⟩) ∧ (fl F1 7).now = s ∧ QOK 302 Q1 ∧ (S1.map (·.1)).Nodup := by
  by_cases h0 : s = []
  ·subst h0
   exact ⟨[], [], [], kwrite_nil (by decide) (by decide), rfl, qok_nil _, List.nodup_nil⟩
  ·obtain ⟨q, st, e, h1, h2⟩ := kwrite_spec (F := []) (Q := []) (S := []) (lost := 0) (a := 0) (f := 7) (keep := []) (js := []) (s := s) (x := []) (n := 0) (by decide) (by decide) (by decide) (by decide) (by decide) rfl h0 (by simp; omega) (qok_nil 0) List.nodup_nil (by decide)
   exact ⟨mset 7 ⟨s, []⟩ [], q, st, e, by rw [fl_self], ⟨by have := h1.1; omega, h1.2⟩, h2⟩
 rw [e1, Option.bind_some]
 obtain ⟨F2, Q2, S2, e2, hx2, _, hq2, hs2, _⟩ := open_calm (keep := []) (js := []) (f := 7) (by decide) (by decide) hq1 (by decide) hs1 hx1 (by omega) hl
 rw [e2, Option.bind_some]
 have hlr : l.length ≤ 1099511627776 := by
  have := forms_length l; have := (forms_le hl).1; omega
 have hv1 : (bif (decide ((([] : List Jrn).length + 1) = 0)) then some true else some (!(decide ((0 : Int) = 0)))) = some false := rfl
 simp only [List.length_nil, Nat.zero_add, List.nil_append, show decide ((1 : Nat) = 0) = false from rfl, decide_true, Bool.not_true, cond_false, Option.bind_some]
 rw [all_spec (W := ⟨⟨F2, Q2, S2, 0, false, 0, []⟩, [(⟨7, l, ((forms l).length : Int), false⟩ : Jrn)]⟩) (jn := 1) (j := ⟨7, l, ((forms l).length : Int), false⟩) (show (1 : Nat) < 400000 by decide) (by decide) rfl hlr, Option.bind_some, show s_wire_Open s = some s from rfl, Option.bind_some]
 have hread := law_read_L s (by omega) s.length KK [] l s (Nat.le_refl _) (kk_lt (by omega)) rfl hl
 simp only [forms, List.flatMap_nil, List.length_nil, List.nil_append] at hread
 rw [show ((0 : Int), s, false, ([] : List (List UInt8))) = (((0 : Nat) : Int), s, false, []) from rfl, hread, Option.bind_some]
 have hff : (l.flatMap form) = forms l := rfl
 rw [hff]
 have hfl7 : (fl F2 7).now = forms l := by rw [hx2]
 rw [ksize_spec (W := ⟨⟨F2, Q2, S2, 0, false, 0, []⟩, [(⟨7, l, ((forms l).length : Int), false⟩ : Jrn)]⟩) (show (1 : Nat) < 400000 by decide), Option.bind_some]
 simp only [hfl7]
 rw [kread_spec (js := [(⟨7, l, ((forms l).length : Int), false⟩ : Jrn)]) (m := (forms l).length) (show (1 : Nat) < 400000 by decide) (by decide) hfl7 (Nat.le_refl _), Option.bind_some]
 have hl2 : Parsed (forms l) l := ⟨hl.1, [], by simp, dec_form_nil⟩
 obtain ⟨F3, Q3, S3, e3, hx3, _, hq3, hs3, _⟩ := open_calm (keep := []) (js := [(⟨7, l, ((forms l).length : Int), false⟩ : Jrn)]) (f := 7) (by decide) (show (1 : Nat) < 400000 by decide) hq2 (by decide) hs2 hfl7 (by have := (forms_le hl).1; omega) hl2
 rw [e3, Option.bind_some]
 have hfl3 : (fl F3 7).now = forms l := by rw [hx3]
 simp only [List.length_singleton, show decide ((1 + 1 : Nat) = 0) = false from rfl, decide_true, Bool.not_true, cond_false, Option.bind_some]
 rw [ksize_spec (W := ⟨⟨F3, Q3, S3, 0, false, 0, []⟩, [(⟨7, l, ((forms l).length : Int), false⟩ : Jrn)] ++ [(⟨7, l, ((forms l).length : Int), false⟩ : Jrn)]⟩) (show (2 : Nat) < 400000 by decide), Option.bind_some]
 simp only [hfl3]
 rw [kread_spec (js := [(⟨7, l, ((forms l).length : Int), false⟩ : Jrn)] ++ [(⟨7, l, ((forms l).length : Int), false⟩ : Jrn)]) (m := (forms l).length) (show (2 : Nat) < 400000 by decide) (by decide) hfl3 (Nat.le_refl _), Option.bind_some]
 rw [cond_true, same_spec hlr, Option.bind_some, decide_eq_true rfl, cond_true, cut_tk (forms_le hl).1, Option.bind_some, (forms_le hl).2.1, decide_eq_true rfl, cond_true]
 rw [all_spec (W := ⟨⟨F3, Q3, S3, 0, false, 0, []⟩, [(⟨7, l, ((forms l).length : Int), false⟩ : Jrn)] ++ [(⟨7, l, ((forms l).length : Int), false⟩ : Jrn)]⟩) (jn := 1 + 1) (j := ⟨7, l, ((forms l).length : Int), false⟩) (show (2 : Nat) < 400000 by decide) (by decide) rfl hlr, Option.bind_some, same_spec hlr, Option.bind_some, decide_eq_true rfl, cond_true]
 rfl
end Go.Proofs.YtoflckochjijcaaDoor
