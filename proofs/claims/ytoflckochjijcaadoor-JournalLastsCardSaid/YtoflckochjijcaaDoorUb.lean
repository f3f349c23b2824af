/- JournalLasts, in plain Lean. -/
import Derived.Test.YtoflckochjijcaaDoorV
set_option linter.all false
set_option maxRecDepth 100000
namespace Go.Proofs.YtoflckochjijcaaDoor
open Go Go.RowKit Go.Eng Go.EV Go.Lib
variable [Fuel]
structure DInv (i : Nat) (all sure : List (List UInt8)) (W : Wd) : Prop where
 jsl : W.js.length ≤ i + 1
 fok : FOK (300 * i + 300) W.d.files
 q : QOK (300 * i + 300) W.d.queue
 st : (W.d.dset.map (·.1)).Nodup
 lost : 0 ≤ W.d.lost ∧ W.d.lost ≤ 9223372036854775807
 armed : 0 ≤ W.d.armed ∧ W.d.armed ≤ 9223372036854775807
 keep : W.d.keep.length ≤ 50
 alen : all.length ≤ i
 a200 : ∀ t ∈ all, t.length ≤ 200
 s200 : ∀ t ∈ sure, t.length ≤ 200
 pn : Pr all sure (fl W.d.files 3).now
 pl : Pr all sure (fl W.d.files 3).last
def JInv (i jn : Nat) (all : List (List UInt8)) (W : Wd) : Prop := jn = 0 ∨ ∃ j, W.js[jn - 1]? = some j ∧ j.recs.length ≤ i ∧ (j.broken = true ∨ (j.file = 3 ∧ (fl W.d.files 3).now = forms j.recs ∧ j.bytes = ((forms j.recs).length : Int) ∧ all = j.recs))
theorem z00 : (0 : Int) ≤ 0 ∧ (0 : Int) ≤ 9223372036854775807 := by decide
theorem FOK.mono {B C : Nat} {F : List (Int × disk_file)} (h : FOK B F) (hb : B ≤ C) : FOK C F := ⟨h.nd, fun g => ⟨Nat.le_trans (h.sz g).1 hb, Nat.le_trans (h.sz g).2 hb⟩⟩
theorem QOK.mono {B C : Nat} {q : List disk_sector} (h : QOK B q) (hb : B ≤ C) : QOK C q := ⟨Nat.le_trans h.1 hb, h.2⟩
theorem DInv.up {i : Nat} {all sure : List (List UInt8)} {W : Wd} (h : DInv i all sure W) : DInv (i + 1) all sure W :=
 ⟨by have := h.jsl; omega, h.fok.mono (by omega), h.q.mono (by omega), h.st, h.lost, h.armed, h.keep, by have := h.alen; omega, h.a200, h.s200, h.pn, h.pl⟩
theorem JInv.up {i jn : Nat} {all : List (List UInt8)} {W : Wd} (h : JInv i jn all W) : JInv (i + 1) jn all W := by
 rcases h with h | ⟨j, h1, h2, h3⟩
 ·exact .inl h
 ·exact .inr ⟨j, h1, by omega, h3⟩
theorem form200 {t : List UInt8} (h : t.length ≤ 200) : (form t).length ≤ 243 := by have := form_len t (by omega); omega
theorem forms200 : ∀ {l : List (List UInt8)}, (∀ t ∈ l, t.length ≤ 200) → (forms l).length ≤ 243 * l.length
 | [], _ => by simp [forms]
 | t :: l, h => by
  have h1 := form200 (h t (List.mem_cons_self ..))
  have h2 := forms200 fun x hx => h x (List.mem_cons_of_mem _ hx)
  rw [forms_cons, List.length_append, List.length_cons]; omega
theorem append_step {i jn : Nat} {all sure : List (List UInt8)} {W : Wd} {r : List UInt8} (hi : i ≤ 26) (h0 : jn ≠ 0) (hD : DInv i all sure W) (hJ : JInv i jn all W) (hr : r.length ≤ 200) :
  ∃ (e : Int) (W' : Wd) (recs recs' : List (List UInt8)), k_all W jn = some (recs, W) ∧ k_append W jn r = some (e, W') ∧ k_all W' jn = some (recs', W') ∧ (e = 0 → recs' = recs ++ [r]) ∧ (e ≠ 0 → recs' = recs) ∧ recs.length ≤ i ∧ recs'.length ≤ i + 1 ∧
   DInv (i + 1) (if e = 0 ∨ e = 8 ∨ e = 9 then all ++ [r] else all) sure W' ∧ JInv (i + 1) jn (if e = 0 ∨ e = 8 ∨ e = 9 then all ++ [r] else all) W' := by
 obtain ⟨⟨F, Q, S, lost, down, a, keep⟩, js⟩ := W
 have hjs : js.length < 400000 := by have := hD.jsl; simp only at this; omega
 rcases hJ with h | ⟨⟨jf, recs, by_, brk⟩, hj, hrec, hb⟩
 ·exact absurd h h0
 simp only at hj hrec hb
 have hl1 : jn - 1 < js.length := (List.getElem?_eq_some_iff.1 hj).1
 have hall := all_spec (W := ⟨⟨F, Q, S, lost, down, a, keep⟩, js⟩) hjs h0 hj (by simp only; omega)
 have hset : ∀ j' : Jrn, (js.set (jn - 1) j')[jn - 1]? = some j' := fun j' => by rw [List.getElem?_set, if_pos rfl, if_pos hl1]
 have hup := hD.up
 rcases hb with rfl | ⟨rfl, hx, rfl, hae⟩
 ·refine ⟨7, _, recs, recs, hall, append_broken hjs h0 hj rfl (by omega), hall, (fun h => by cases h), fun _ => rfl, hrec, by omega, ?_, ?_⟩
  ·rw [if_neg (by decide)]; exact hup
  ·rw [if_neg (by decide)]; exact .inr ⟨_, hj, by simp only; omega, .inl rfl⟩
 have hae := hae.symm
 subst hae
 cases brk with
 | true =>
  refine ⟨7, _, recs, recs, hall, append_broken hjs h0 hj rfl (by omega), hall, (fun h => by cases h), fun _ => rfl, hrec, by omega, ?_, ?_⟩
  ·rw [if_neg (by decide)]; exact hup
  ·rw [if_neg (by decide)]; exact .inr ⟨_, hj, by simp only; omega, .inl rfl⟩
 | false =>
 have hx : (fl F 3).now = forms recs := hx
 have hf200 := form200 hr
 have ha200 : ∀ t ∈ recs ++ [r], t.length ≤ 200 := fun t ht => by
  rcases List.mem_append.1 ht with ht | ht
  ·exact hD.a200 t ht
  ·rw [List.mem_singleton.1 ht]; exact hr
 have hfl := forms200 hD.a200
 have hal : recs.length ≤ i := hD.alen
 have hF : FOK (300 * i + 300) F := hD.fok
 have hQ : QOK (300 * i + 300) Q := hD.q
 have hS : (S.map (·.1)).Nodup := hD.st
 have hA : 0 ≤ a ∧ a ≤ 9223372036854775807 := hD.armed
 have hK : keep.length ≤ 50 := hD.keep
 have hl2 : (recs ++ [r]).length ≤ i + 1 := by simp; omega
 cases down with
 | true =>
  have e1 := append_down (F := F) (Q := Q) (S := S) (lost := lost) (a := a) (keep := keep) hjs h0 hj (show r.length ≤ 20000 by omega) (by omega) (by omega)
  refine ⟨8, _, recs, recs, hall, e1, all_spec (W := ⟨⟨F, Q, S, lost, true, a, keep⟩, js.set (jn - 1) ⟨3, recs, ((forms recs).length : Int), true⟩⟩) (by simpa using hjs) h0 (hset _) (by simp only; omega), (fun h => by cases h), fun _ => rfl, hrec, by omega, ?_, ?_⟩
  ·rw [if_pos (by decide)]
   exact ⟨by simpa using hup.jsl, hup.fok, hup.q, hup.st, hup.lost, hup.armed, hup.keep, hl2, ha200, hD.s200, pr_more _ hD.pn, pr_more _ hD.pl⟩
  ·exact .inr ⟨_, hset _, by simp only; omega, .inl rfl⟩
 | false =>
 have hpn2 : Pr (recs ++ [r]) sure (forms recs ++ form r) := by
  rw [show forms recs ++ form r = forms (recs ++ [r]) by rw [forms_append, forms_one]]
  refine ⟨sub_refl _, ?_⟩
  have := hD.pn.2
  simp only [hx] at this
  rw [forms_append]
  exact this.trans (List.prefix_append _ _)
 by_cases ha1 : a = 1
 ·subst ha1
  obtain ⟨F', e1, hT⟩ := append_crash (lost := lost) (js := js) (jn := jn) (r := r) (jf := 3) (recs := recs) (x := forms recs) (B := 300 * (i + 1) + 300) hjs h0 hj (by omega) (by omega) (by decide) hx hQ hS (by omega) (show keep.length ≤ 1099511627776 by omega) (by omega) (hF.mono (by omega)) (by omega)
  have hok : FOK (300 * (i + 1) + 300) (mset 3 ⟨forms recs ++ form r, (fl F 3).last⟩ F) := (hF.mono (by omega)).mset (by simp only [List.length_append]; omega) (by have := (hF.sz 3).2; simp only; omega)
  obtain ⟨c, hc1, hc2⟩ := hT.2 3
  rw [fl_self] at hc2
  have hpc := pr_torn (pr_more [r] hD.pl) hpn2 hc2
  refine ⟨8, _, recs, recs, hall, e1, all_spec (W := ⟨⟨F', [], [], lost, true, 0, keep⟩, js.set (jn - 1) ⟨3, recs, ((forms recs).length : Int), true⟩⟩) (by simpa using hjs) h0 (hset _) (by simp only; omega), (fun h => by cases h), fun _ => rfl, hrec, by omega, ?_, ?_⟩
  ·rw [if_pos (by decide)]
   exact ⟨by simpa using hup.jsl, hT.ok hok, qok_nil _, List.nodup_nil, hup.lost, z00, hup.keep, hl2, ha200, hD.s200, by simp only [hc1]; exact hpc, by simp only [hc1]; exact hpc⟩
  ·exact .inr ⟨_, hset _, by simp only; omega, .inl rfl⟩
 ·obtain ⟨q', st', e1, hq', hst'⟩ := append_ok (lost := lost) (keep := keep) (js := js) (jn := jn) (r := r) (jf := 3) (recs := recs) (x := forms recs) hjs h0 hj (by omega) (by omega) (by omega) hA.1 hA.2 ha1 (by decide) hx hQ hS (by omega)
  have hok : FOK (300 * (i + 1) + 300) (mset 3 ⟨forms recs ++ form r, (fl F 3).last⟩ F) := (hF.mono (by omega)).mset (by simp only [List.length_append]; omega) (by have := (hF.sz 3).2; simp only; omega)
  have hd := dec1_ok hA.1 hA.2
  refine ⟨0, _, recs, recs ++ [r], hall, e1, all_spec (W := ⟨⟨mset 3 ⟨forms recs ++ form r, (fl F 3).last⟩ F, q', st', lost, false, dec1 a, keep⟩, js.set (jn - 1) ⟨3, recs ++ [r], ((forms recs ++ form r).length : Int), false⟩⟩) (by simpa using hjs) h0 (hset _) (by simp only; omega), fun _ => rfl, fun h => absurd rfl h, hrec, hl2, ?_, ?_⟩
  ·rw [if_pos (by decide)]
   exact ⟨by simpa using hup.jsl, hok, hq'.mono (by omega), hst', hup.lost, hd, hup.keep, hl2, ha200, hD.s200, by simp only [fl_self]; exact hpn2, by simp only [fl_self]; exact pr_more _ hD.pl⟩
  ·rw [if_pos (by decide)]
   exact .inr ⟨_, hset _, hl2, .inr ⟨rfl, by simp only [fl_self]; rw [forms_append, forms_one], by simp only; rw [forms_append, forms_one], rfl⟩⟩
theorem sync_step {i jn : Nat} {all sure : List (List UInt8)} {W : Wd} (hi : i ≤ 26) (h0 : jn ≠ 0) (hD : DInv i all sure W) (hJ : JInv i jn all W) :
  ∃ (e : Int) (W' : Wd), k_sync W jn = some (e, W') ∧ (e = 0 → ∃ recs, k_all W' jn = some (recs, W') ∧ DInv (i + 1) all recs W' ∧ JInv (i + 1) jn all W') ∧ (e ≠ 0 → DInv (i + 1) all sure W' ∧ JInv (i + 1) jn all W') := by
 obtain ⟨⟨F, Q, S, lost, down, a, keep⟩, js⟩ := W
 have hjs : js.length < 400000 := by have := hD.jsl; simp only at this; omega
 rcases hJ with h | ⟨⟨jf, recs, by_, brk⟩, hj, hrec, hb⟩
 ·exact absurd h h0
 simp only at hj hrec hb
 have hl1 : jn - 1 < js.length := (List.getElem?_eq_some_iff.1 hj).1
 have hset : ∀ j' : Jrn, (js.set (jn - 1) j')[jn - 1]? = some j' := fun j' => by rw [List.getElem?_set, if_pos rfl, if_pos hl1]
 have hup := hD.up
 rcases hb with rfl | ⟨rfl, hx, rfl, hae⟩
 ·exact ⟨7, _, sync_broken hjs h0 hj rfl, (fun h => by cases h), fun _ => ⟨hup, .inr ⟨_, hj, by simp only; omega, .inl rfl⟩⟩⟩
 have hae := hae.symm
 subst hae
 cases brk with
 | true => exact ⟨7, _, sync_broken hjs h0 hj rfl, (fun h => by cases h), fun _ => ⟨hup, .inr ⟨_, hj, by simp only; omega, .inl rfl⟩⟩⟩
 | false =>
 have hx : (fl F 3).now = forms recs := hx
 have hF : FOK (300 * i + 300) F := hD.fok
 have hQ : QOK (300 * i + 300) Q := hD.q
 have hS : (S.map (·.1)).Nodup := hD.st
 have hA : 0 ≤ a ∧ a ≤ 9223372036854775807 := hD.armed
 have hL : 0 ≤ lost ∧ lost ≤ 9223372036854775807 := hD.lost
 have hK : keep.length ≤ 50 := hD.keep
 cases down with
 | true =>
  exact ⟨8, _, sync_down hjs h0 hj, (fun h => by cases h), fun _ => ⟨⟨by simpa using hup.jsl, hup.fok, hup.q, hup.st, hup.lost, hup.armed, hup.keep, hup.alen, hup.a200, hup.s200, hup.pn, hup.pl⟩, .inr ⟨_, hset _, by simp only; omega, .inl rfl⟩⟩⟩
 | false =>
 have hd := dec1_ok hA.1 hA.2
 by_cases ha1 : a = 1
 ·subst ha1
  obtain ⟨F', e1, hT⟩ := sync_crash (lost := lost) hjs h0 hj hQ (by omega) (show keep.length ≤ 1099511627776 by omega) (by omega) (hF.mono (show 300 * i + 300 ≤ 300 * (i + 1) + 300 by omega))
  obtain ⟨c, hc1, hc2⟩ := hT.2 3
  have hpc := pr_torn hD.pl hD.pn hc2
  exact ⟨8, _, e1, (fun h => by cases h), fun _ => ⟨⟨by simpa using hup.jsl, hT.ok (hF.mono (by omega)), qok_nil _, List.nodup_nil, hup.lost, z00, hup.keep, hup.alen, hup.a200, hup.s200, by simp only [hc1]; exact hpc, by simp only [hc1]; exact hpc⟩, .inr ⟨_, hset _, by simp only; omega, .inl rfl⟩⟩⟩
 ·by_cases hl0 : lost = 0
  ·subst hl0
   obtain ⟨q', st', e1, hq', hst'⟩ := sync_ok (keep := keep) hjs h0 hj hA.1 hA.2 ha1 (by decide) hx hQ (by omega) hS
   have hxl : (forms recs).length ≤ 300 * i + 300 := by rw [← hx]; exact (hF.sz 3).1
   refine ⟨0, _, e1, fun _ => ⟨recs, all_spec (W := ⟨⟨mset 3 ⟨forms recs, forms recs⟩ F, q', st', 0, false, dec1 a, keep⟩, js⟩) hjs h0 hj (by simp only; omega), ⟨hup.jsl, (hF.mset hxl hxl).mono (by omega), hq'.mono (by omega), hst', z00, hd, hup.keep, hup.alen, hup.a200, hup.a200, by simp only [fl_self]; exact pr_self _, by simp only [fl_self]; exact pr_self _⟩, .inr ⟨_, hj, by simp only; omega, .inr ⟨rfl, by simp only [fl_self], rfl, rfl⟩⟩⟩, fun h => absurd rfl h⟩
  ·have e1 := sync_lost (F := F) (Q := Q) (S := S) (keep := keep) hjs h0 hj hA.1 hA.2 ha1 (by decide) (show 0 < lost by omega) hL.2
   exact ⟨9, _, e1, (fun h => by cases h), fun _ => ⟨⟨by simpa using hup.jsl, hup.fok, hup.q, hup.st, ⟨by simp only; omega, by simp only; omega⟩, hd, hup.keep, hup.alen, hup.a200, hup.s200, hup.pn, hup.pl⟩, .inr ⟨_, hset _, by simp only; omega, .inl rfl⟩⟩⟩
theorem crash_step {i : Nat} {all sure : List (List UInt8)} {W : Wd} {k : List Int} (hi : i ≤ 26) (hk : k.length ≤ 50) (hD : DInv i all sure W) : ∃ W', k_crash W k = some ((), W') ∧ DInv i all sure W' ∧ W'.d.lost = W.d.lost ∧ (W.d.armed = 0 → W'.d.armed = 0) := by
 obtain ⟨⟨F, Q, S, lost, down, a, keep⟩, js⟩ := W
 have hjs : js.length < 400000 := by have := hD.jsl; simp only at this; omega
 cases down with
 | true => exact ⟨_, crash_down hjs, hD, rfl, fun h => h⟩
 | false =>
  obtain ⟨F', e1, hT⟩ := crash_up (S := S) (lost := lost) (a := a) (keep := keep) (k := k) (js := js) hjs hD.q (by omega) (by omega) (by omega) hD.fok
  obtain ⟨c, hc1, hc2⟩ := hT.2 3
  have hpc := pr_torn hD.pl hD.pn hc2
  exact ⟨_, e1, ⟨hD.jsl, hT.ok hD.fok, qok_nil _, List.nodup_nil, hD.lost, z00, hD.keep, hD.alen, hD.a200, hD.s200, by simp only [hc1]; exact hpc, by simp only [hc1]; exact hpc⟩, rfl, fun _ => rfl⟩
theorem open_step {i : Nat} {all sure : List (List UInt8)} {W : Wd} (hi : i ≤ 26) (hD : DInv i all sure W) (hdn : W.d.down = false) : ∃ (jn : Nat) (e : Int) (W' : Wd), k_open W 3 = some ((jn, e), W') ∧
  ((jn = 0 ∧ (e = 8 ∨ e = 9) ∧ DInv (i + 1) all sure W' ∧ ¬ (W.d.armed = 0 ∧ W.d.lost = 0)) ∨ (jn ≠ 0 ∧ e = 0 ∧ ∃ recs, k_all W' jn = some (recs, W') ∧ recs <+: all ∧ sure <+: recs ∧ DInv (i + 1) recs recs W' ∧ JInv (i + 1) jn recs W')) := by
 obtain ⟨⟨F, Q, S, lost, down, a, keep⟩, js⟩ := W
 have hdn : down = false := hdn
 subst hdn
 have hjs : js.length < 400000 := by have := hD.jsl; simp only at this; omega
 have hF : FOK (300 * i + 300) F := hD.fok
 have hQ : QOK (300 * i + 300) Q := hD.q
 have hS : (S.map (·.1)).Nodup := hD.st
 have hA : 0 ≤ a ∧ a ≤ 9223372036854775807 := hD.armed
 have hL : 0 ≤ lost ∧ lost ≤ 9223372036854775807 := hD.lost
 have hK : keep.length ≤ 50 := hD.keep
 have hup := hD.up
 have hd := dec1_ok hA.1 hA.2
 have hd2 := dec1_ok hd.1 hd.2
 have hjl : js.length ≤ i + 1 := hD.jsl
 by_cases ha1 : a = 1
 ·subst ha1
  obtain ⟨F', e1, hT⟩ := open_x0 (S := S) (lost := lost) (keep := keep) (js := js) (f := 3) (by decide) hjs hQ (by omega) (by omega) (by omega) hF
  obtain ⟨c, hc1, hc2⟩ := hT.2 3
  have hpc := pr_torn hD.pl hD.pn hc2
  exact ⟨0, 8, _, e1, .inl ⟨rfl, .inl rfl, ⟨hup.jsl, (hT.ok hF).mono (by omega), qok_nil _, List.nodup_nil, hup.lost, z00, hup.keep, hup.alen, hup.a200, hup.s200, by simp only [hc1]; exact hpc, by simp only [hc1]; exact hpc⟩, fun h => by cases h.1⟩⟩
 by_cases hl0 : lost = 0
 ·subst hl0
  obtain ⟨l, hl⟩ := parsed_ex (fl F 3).now.length (fl F 3).now (Nat.le_refl _)
  have hpar := pr_parse (fun t ht => by have := hD.a200 t ht; omega) (fun t ht => by have := hD.s200 t ht; unfold okF; omega) hD.pn hl
  have hll : l.length ≤ i := Nat.le_trans hpar.1.length_le hD.alen
  have hl200 : ∀ t ∈ l, t.length ≤ 200 := fun t ht => hD.a200 t (hpar.1.subset ht)
  obtain ⟨f1, f2, f3⟩ := forms_le hl
  have hxl := (hF.sz 3).1
  have hf3 : (forms l).length ≤ 300 * i + 300 := by omega
  have hjn : ∀ j : Jrn, (js ++ [j])[js.length + 1 - 1]? = some j := fun j => by simp
  have hjl2 : ∀ j : Jrn, (js ++ [j]).length ≤ i + 1 + 1 := fun j => by simp; omega
  by_cases hlt : (forms l).length < (fl F 3).now.length
  ·by_cases ha2 : a = 2
   ·subst ha2
    obtain ⟨F', e1, hT⟩ := open_x1 (S := S) (keep := keep) (js := js) (f := 3) (by decide) hjs hQ (by omega) hS (by omega) (by omega) hF rfl hl hlt
    obtain ⟨c, hc1, hc2⟩ := hT.2 3
    rw [fl_self] at hc2
    have hpc := pr_torn hD.pn hD.pn hc2
    exact ⟨0, 8, _, e1, .inl ⟨rfl, .inl rfl, ⟨hup.jsl, (hT.ok (hF.mset hxl hxl)).mono (by omega), qok_nil _, List.nodup_nil, z00, z00, hup.keep, hup.alen, hup.a200, hup.s200, by simp only [hc1]; exact hpc, by simp only [hc1]; exact hpc⟩, fun h => by cases h.1⟩⟩
   ·obtain ⟨q', st', e1, hq', hst'⟩ := open_p2 (keep := keep) (js := js) (f := 3) (by decide) hjs hA.1 hA.2 ha1 ha2 hQ (by omega) hS rfl (by omega) hl hlt
    refine ⟨js.length + 1, 0, _, e1, .inr ⟨by omega, rfl, l, all_spec (W := ⟨⟨mset 3 ⟨forms l, forms l⟩ (mset 3 ⟨(fl F 3).now, (fl F 3).now⟩ F), q', st', 0, false, dec1 (dec1 a), keep⟩, js ++ [⟨3, l, ((forms l).length : Int), false⟩]⟩) (by simp; omega) (by omega) (hjn _) (by simp only; omega), hpar.1, hpar.2, ⟨hjl2 _, ((FOK.mset (f := 3) (v := ⟨forms l, forms l⟩) (FOK.mset (f := 3) (v := ⟨(fl F 3).now, (fl F 3).now⟩) hF hxl hxl) hf3 hf3).mono (by omega)), hq'.mono (by omega), hst', z00, hd2, hK, by omega, hl200, hl200, by simp only [fl_self]; exact pr_self _, by simp only [fl_self]; exact pr_self _⟩, .inr ⟨_, hjn _, by simp only; omega, .inr ⟨rfl, by simp only [fl_self], rfl, rfl⟩⟩⟩⟩
  ·have hfull := f3 (by omega)
   obtain ⟨q', st', e1, hq', hst'⟩ := open_p1 (keep := keep) (js := js) (f := 3) (by decide) hjs hA.1 hA.2 ha1 hQ (by omega) hS rfl (by omega) hl hfull
   rw [hfull] at e1
   refine ⟨js.length + 1, 0, _, e1, .inr ⟨by omega, rfl, l, all_spec (W := ⟨⟨mset 3 ⟨forms l, forms l⟩ F, q', st', 0, false, dec1 a, keep⟩, js ++ [⟨3, l, ((forms l).length : Int), false⟩]⟩) (by simp; omega) (by omega) (hjn _) (by simp only; omega), hpar.1, hpar.2, ⟨hjl2 _, ((FOK.mset (f := 3) (v := ⟨forms l, forms l⟩) hF hf3 hf3).mono (by omega)), hq'.mono (by omega), hst', z00, hd, hK, by omega, hl200, hl200, by simp only [fl_self]; exact pr_self _, by simp only [fl_self]; exact pr_self _⟩, .inr ⟨_, hjn _, by simp only; omega, .inr ⟨rfl, by simp only [fl_self], rfl, rfl⟩⟩⟩⟩
 ·have e1 := open_lost (F := F) (Q := Q) (S := S) (keep := keep) (js := js) (f := 3) (by decide) hjs hA.1 hA.2 ha1 (show 0 < lost by omega) hL.2
  exact ⟨0, 9, _, e1, .inl ⟨rfl, .inr rfl, ⟨hup.jsl, hup.fok, hup.q, hup.st, ⟨by simp only; omega, by simp only; omega⟩, hd, hup.keep, hup.alen, hup.a200, hup.s200, hup.pn, hup.pl⟩, fun h => hl0 h.2⟩⟩
theorem begins_true {l a : List (List UInt8)} (h : a <+: l) (hl : l.length ≤ 1099511627776) : s_gl03_begins l a = some true := by
 unfold s_gl03_begins
 have h1 := h.length_le
 rw [show decide ((a.length : Int) ≤ (l.length : Int)) = true by simp; omega, cond_true, show min (a.length : Int) (l.length : Int) = (a.length : Int) by omega, cut_tk h1, Option.bind_some, ← List.prefix_iff_eq_take.1 h, same_spec (by omega), Option.bind_some, decide_eq_true rfl]
 rfl
theorem disky_spec (e : Int) : s_gl03_disky e = some (decide (e = 8 ∨ e = 9)) := by
 unfold s_gl03_disky
 by_cases h : e = 8
 ·simp [h]
 ·simp [h]
theorem op_step {l : List greenbeltref03_Op} {keep : List Int} {i m jn : Nat} {all sure : List (List UInt8)} {W : Wd} (hl : l.length ≤ 25) (hf : ∀ o ∈ l, o.S.length ≤ 200 ∧ o.Keep.length ≤ 50 ∧ o.N ≤ 9223372036854775807) (hk : keep.length ≤ 50) (hi : i ≤ l.length) (hm : m ≤ 27) (hD : DInv m all sure W) (hJ : JInv m jn all W) :
  ∃ (kd : Int) (S : List UInt8) (N : Int) (K : List Int) (W0 : Wd), (bif (decide ((i : Int) < (List.length l : Int))) then (idx l (i : Int)).bind fun x1 => some (x1.Kind, x1.S, x1.N, x1.Keep, W) else (k_lose W 0).bind fun y5 => (k_arm y5.2 0 []).bind fun y6 => some (4, [], 0, keep, y6.2)) = some (kd, S, N, K, W0) ∧ S.length ≤ 200 ∧ K.length ≤ 50 ∧ N ≤ 9223372036854775807 ∧ DInv m all sure W0 ∧ JInv m jn all W0 ∧ (i = l.length → kd = 4 ∧ W0.d.lost = 0 ∧ W0.d.armed = 0) := by
 by_cases h : i < l.length
 ·have hg := hf _ (getD_mem h)
  refine ⟨(l.getD i default).Kind, (l.getD i default).S, (l.getD i default).N, (l.getD i default).Keep, W, ?_, hg.1, hg.2.1, hg.2.2, hD, hJ, fun h' => by omega⟩
  rw [show decide ((i : Int) < (l.length : Int)) = true by simp; omega, cond_true, idx_of h, Option.bind_some]
 ·have hjs : W.js.length < 400000 := by have := hD.jsl; omega
  refine ⟨4, [], 0, keep, ⟨{ W.d with lost := 0, armed := 0, keep := [] }, W.js⟩, ?_, by simp, hk, by decide, ⟨hD.jsl, hD.fok, hD.q, hD.st, z00, z00, by simp, hD.alen, hD.a200, hD.s200, hD.pn, hD.pl⟩, hJ, fun _ => ⟨rfl, rfl, rfl⟩⟩
  rw [show decide ((i : Int) < (l.length : Int)) = false by simp; omega, cond_false, lose_spec hjs, Option.bind_some, arm_spec (by exact hjs) (by simp), Option.bind_some]
  rfl
theorem lasts_L (l : List greenbeltref03_Op) (keep : List Int) (hl : l.length ≤ 25) (hf : ∀ o ∈ l, o.S.length ≤ 200 ∧ o.Keep.length ≤ 50 ∧ o.N ≤ 9223372036854775807) (hk : keep.length ≤ 50) : ∀ (k i fuel jn : Nat) (all sure : List (List UInt8)) (W : Wd), k = l.length + 1 - i → i ≤ l.length + 1 → k < fuel → DInv (i + 1) all sure W → JInv (i + 1) jn all W →
  s_gl03_JournalLasts_L1 l keep fuel (jn, all, sure, (i : Int), W) = some (.inr ()) := by
 intro k
 induction k with
 | zero =>
  intro i fuel jn all sure W hk' hi hfu hD hJ
  obtain ⟨f, rfl⟩ : ∃ f, fuel = f + 1 := ⟨fuel - 1, by omega⟩
  rw [s_gl03_JournalLasts_L1]
  simp only [show decide ((i : Int) ≤ (l.length : Int)) = false by simp; omega, cond_false]
 | succ k ih =>
  intro i fuel jn all sure W hk' hi hfu hD hJ
  obtain ⟨f, rfl⟩ : ∃ f, fuel = f + 1 := ⟨fuel - 1, by omega⟩
  have hil : i ≤ l.length := by omega
  rw [s_gl03_JournalLasts_L1]
  simp only [show decide ((i : Int) ≤ (l.length : Int)) = true by simp; omega, cond_true]
  obtain ⟨kd, S, N, K, W0, e0, hS, hK, hN, hD0, hJ0, hend⟩ := op_step (keep := keep) hl hf hk hil (by omega) hD hJ
  rw [e0, Option.bind_some]
  have hjs : W0.js.length < 400000 := by have := hD0.jsl; omega
  have next : ∀ (jn' : Nat) (all' sure' : List (List UInt8)) (W' : Wd), DInv (i + 1 + 1) all' sure' W' → JInv (i + 1 + 1) jn' all' W' → s_gl03_JournalLasts_L1 l keep f (jn', all', sure', w64 ((i : Int) + 1), W') = some (.inr ()) := fun jn' all' sure' W' h1 h2 => by
   rw [w64_id (by omega) (by omega)]
   exact ih (i + 1) f jn' all' sure' W' (by omega) (by omega) (by omega) h1 h2
  by_cases k0 : kd = 0
  ·subst k0
   simp only [decide_true, cond_true]
   by_cases j0 : jn = 0
   ·subst j0
    simp only [decide_true, cond_true, Option.bind_some]
    exact next _ _ _ _ hD0.up hJ0.up
   ·obtain ⟨e, W', recs, recs', a1, a2, a3, a4, a5, a6, a7, a8, a9⟩ := append_step (by omega) j0 hD0 hJ0 hS
    simp only [decide_eq_false j0, cond_false, a1, a2, a3, Option.bind_some]
    have hal := hD0.alen
    by_cases he : e = 0
    ·subst he
     have := a4 rfl
     subst this
     rw [if_pos (.inl rfl)] at a8 a9
     simp only [decide_true, cond_true, Option.bind_some]
     refine Option.bind_eq_some_iff.2 ⟨.inr (jn, all ++ [S], sure, W'), ?_, next _ _ _ _ a8 a9⟩
     refine Option.bind_eq_some_iff.2 ⟨all ++ [S], ?_, ?_⟩
     ·refine Option.bind_eq_some_iff.2 ⟨(), grd_ofI (by omega), Option.bind_eq_some_iff.2 ⟨(), grd_ofI (by simp; omega), rfl⟩⟩
     ·refine Option.bind_eq_some_iff.2 ⟨false, Option.bind_eq_some_iff.2 ⟨(), grd_ofI (by omega), ?_⟩, ?_⟩
      ·rw [same_spec (by omega), Option.bind_some, decide_eq_true rfl]
       rfl
      ·rfl
    ·have := a5 he
     subst this
     simp only [decide_eq_false he, cond_false, disky_spec, Option.bind_some, Bool.not_false, cond_true]
     rw [same_spec (by omega), Option.bind_some, decide_eq_true rfl]
     by_cases h89 : e = 8 ∨ e = 9
     ·rw [if_pos (.inr h89)] at a8 a9
      refine Option.bind_eq_some_iff.2 ⟨.inr (jn, all ++ [S], sure, W'), ?_, next _ _ _ _ a8 a9⟩
      refine Option.bind_eq_some_iff.2 ⟨all ++ [S], ?_, ?_⟩
      ·rw [decide_eq_true h89, cond_true]
       refine Option.bind_eq_some_iff.2 ⟨(), grd_ofI (by omega), Option.bind_eq_some_iff.2 ⟨(), grd_ofI (by simp; omega), rfl⟩⟩
      ·rfl
     ·rw [if_neg (by rintro (h | h); exact he h; exact h89 h)] at a8 a9
      refine Option.bind_eq_some_iff.2 ⟨.inr (jn, all, sure, W'), ?_, next _ _ _ _ a8 a9⟩
      refine Option.bind_eq_some_iff.2 ⟨all, ?_, ?_⟩
      ·rw [decide_eq_false h89, cond_false]
      ·rfl
  ·simp only [decide_eq_false k0, cond_false]
   by_cases k1 : kd = 1
   ·subst k1
    simp only [decide_true, cond_true]
    by_cases j0 : jn = 0
    ·subst j0
     simp only [decide_true, cond_true, Option.bind_some]
     exact next _ _ _ _ hD0.up hJ0.up
    ·obtain ⟨e, W', a1, a2, a3⟩ := sync_step (by omega) j0 hD0 hJ0
     simp only [decide_eq_false j0, cond_false, a1, Option.bind_some]
     by_cases he : e = 0
     ·obtain ⟨recs, b1, b2, b3⟩ := a2 he
      simp only [decide_eq_true he, cond_true, b1, Option.bind_some]
      exact next _ _ _ _ b2 b3
     ·simp only [decide_eq_false he, cond_false, Option.bind_some]
      exact next _ _ _ _ (a3 he).1 (a3 he).2
   ·simp only [decide_eq_false k1, cond_false]
    by_cases k2 : kd = 2
    ·subst k2
     simp only [decide_true, cond_true, lose_spec hjs, Option.bind_some]
     have hu := hD0.up
     exact next _ _ _ _ ⟨hu.jsl, hu.fok, hu.q, hu.st, ⟨by simp only; omega, by simp only; omega⟩, hu.armed, hu.keep, hu.alen, hu.a200, hu.s200, hu.pn, hu.pl⟩ hJ0.up
    ·simp only [decide_eq_false k2, cond_false]
     by_cases k3 : kd = 3
     ·subst k3
      simp only [decide_true, cond_true, arm_spec hjs (show K.length ≤ 1099511627776 by omega), Option.bind_some]
      have hu := hD0.up
      exact next _ _ _ _ ⟨hu.jsl, hu.fok, hu.q, hu.st, hu.lost, ⟨by simp only; omega, by simp only; omega⟩, hK, hu.alen, hu.a200, hu.s200, hu.pn, hu.pl⟩ hJ0.up
     ·simp only [decide_eq_false k3, cond_false]
      by_cases k45 : kd = 4 ∨ kd = 5
      ·have hv9 : (bif decide (kd = 4) then some (decide (kd = 4)) else some (decide (kd = 5))) = some true := by
        by_cases h : kd = 4
        ·simp [h]
        ·have h5 : kd = 5 := by omega
         simp [h5]
       obtain ⟨W1, c1, c2, c3⟩ : ∃ W1, (bif decide (kd = 4) then (k_crash W0 K).bind fun y18 => some y18.2 else some W0) = some W1 ∧ DInv (i + 1) all sure W1 ∧ (i = l.length → W1.d.lost = 0 ∧ W1.d.armed = 0) := by
        by_cases h : kd = 4
        ·obtain ⟨W1, d1, d2, d3, d4⟩ := crash_step (k := K) (by omega) hK hD0
         refine ⟨W1, by rw [decide_eq_true h, cond_true, d1]; rfl, d2, fun hh => ?_⟩
         have := hend hh
         exact ⟨by rw [d3]; exact this.2.1, d4 this.2.2⟩
        ·exact ⟨W0, by rw [decide_eq_false h, cond_false], hD0, fun hh => absurd (hend hh).1 h⟩
       rw [hv9, Option.bind_some, cond_true, c1, Option.bind_some]
       have hjs1 : W1.js.length < 400000 := by have := c2.jsl; omega
       rw [start_spec hjs1, Option.bind_some]
       have hD2 : DInv (i + 1) all sure ⟨{ W1.d with down := false }, W1.js⟩ := ⟨c2.jsl, c2.fok, c2.q, c2.st, c2.lost, c2.armed, c2.keep, c2.alen, c2.a200, c2.s200, c2.pn, c2.pl⟩
       obtain ⟨jn', e, W', o1, o2⟩ := open_step (by omega) hD2 rfl
       simp only [o1, Option.bind_some]
       rcases o2 with ⟨rfl, h89, hD3, hno⟩ | ⟨hj, rfl, recs, b1, b2, b3, b4, b5⟩
       ·have hne : i ≠ l.length := fun h => hno ⟨(c3 h).2, (c3 h).1⟩
        simp only [decide_true, cond_true, disky_spec, decide_eq_true h89, Option.bind_some, Bool.not_true, cond_false, show decide ((i : Int) = (l.length : Int)) = false from decide_eq_false (by omega)]
        exact next _ _ _ _ hD3 (.inl rfl)
       ·have hra : recs.length ≤ i + 1 := Nat.le_trans b2.length_le hD2.alen
        have hal := hD0.alen
        simp only [decide_eq_false hj, cond_false, b1, Option.bind_some, decide_true, Bool.not_true, begins_true b2 (by omega), begins_true b3 (by omega)]
        exact next _ _ _ _ b4 b5
      ·have hv9 : (bif decide (kd = 4) then some (decide (kd = 4)) else some (decide (kd = 5))) = some false := by
        have h4 : kd ≠ 4 := fun h => k45 (.inl h)
        have h5 : kd ≠ 5 := fun h => k45 (.inr h)
        simp [h4, h5]
       rw [hv9, Option.bind_some, cond_false]
       exact next _ _ _ _ hD0.up hJ0.up
theorem pr_nil : Pr [] [] [] := ⟨trivial, List.prefix_refl _⟩
theorem lasts_law (l : List greenbeltref03_Op) (keep : List Int) (hl : l.length ≤ 9223372036854775807) (hN : ∀ o ∈ l, o.N ≤ 9223372036854775807) : s_gl03_JournalLasts l keep = some true := by
 unfold s_gl03_JournalLasts
 obtain ⟨b, hb, hb2⟩ := few_spec hl
 rw [small_spec, Option.bind_some, hb, Option.bind_some]
 cases b with
 | false => rfl
 | true =>
  obtain ⟨h1, h2⟩ := hb2 rfl
  rw [Bool.not_true, cond_false, Option.bind_some]
  by_cases hk : 50 < keep.length
  ·rw [show decide ((keep.length : Int) > 50) = true by simp; omega, cond_true]
  rw [show decide ((keep.length : Int) > 50) = false by simp; omega, cond_false, show k_new = some ((), ⟨⟨[], [], [], 0, false, 0, []⟩, []⟩) from rfl, Option.bind_some]
  have hD : DInv 0 [] [] ⟨⟨[], [], [], 0, false, 0, []⟩, []⟩ := ⟨by simp, fok_nil _, qok_nil _, List.nodup_nil, z00, z00, by simp, by simp, (fun _ h => nomatch h), (fun _ h => nomatch h), pr_nil, pr_nil⟩
  obtain ⟨jn, e, W', o1, o2⟩ := open_step (by omega) hD rfl
  rw [o1, Option.bind_some]
  rcases o2 with ⟨_, _, _, hno⟩ | ⟨hj, rfl, recs, b1, b2, b3, b4, b5⟩
  ·exact absurd ⟨rfl, rfl⟩ hno
  ·have hr : recs = [] := List.prefix_nil.1 b2
   subst hr
   simp only [decide_eq_false hj, cond_false]
   have := lasts_L l keep h1 (fun o ho => ⟨(h2 o ho).1, (h2 o ho).2, hN o ho⟩) (by omega) (l.length + 1) 0 KK jn [] [] W' (by omega) (by omega) (kk_lt (by omega)) b4 b5
   rw [show ((0 : Int)) = ((0 : Nat) : Int) from rfl, this]
   rfl
end Go.Proofs.YtoflckochjijcaaDoor
