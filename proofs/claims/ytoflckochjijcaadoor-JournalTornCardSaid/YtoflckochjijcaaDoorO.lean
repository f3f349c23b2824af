/- The disk, in plain Lean: what a write, a settling and a crash do to the bytes of the files. -/
import Derived.Test.YtoflckochjijcaaDoorN
set_option linter.all false
set_option maxRecDepth 100000
namespace Go.Proofs.YtoflckochjijcaaDoor
open Go Go.RowKit Go.Eng Go.EV Go.Lib
variable [Fuel]
/- files -/
def fl (files : List (Int × disk_file)) (f : Int) : disk_file := (mfind f files).getD ⟨[], []⟩
theorem fl_mset (f g : Int) (v : disk_file) : ∀ files : List (Int × disk_file), fl (mset f v files) g = if g = f then v else fl files g
 | [] => by
  by_cases h : g = f
  ·subst h; simp [fl, mset, mfind]
  ·simp [fl, mset, mfind, h]
 | (k, c) :: r => by
  have ih := fl_mset f g v r
  simp only [fl] at ih ⊢
  by_cases h : f = k
  ·subst h
   by_cases hg : g = f
   ·subst hg; simp [mset, mfind]
   ·simp [mset, mfind, hg]
  ·simp only [mset, if_neg h, mfind]
   by_cases hg : g = k
   ·subst hg
    have : ¬ g = f := fun e => h e.symm
    simp [this]
   ·simp only [if_neg hg]; exact ih
theorem mem_mset {α β : Type} [DecidableEq α] (a : α) (b : β) : ∀ (l : List (α × β)) (x : α), x ∈ (mset a b l).map (·.1) → x = a ∨ x ∈ l.map (·.1)
 | [], x, h => by simp [mset] at h; exact .inl h
 | (k, c) :: r, x, h => by
  simp only [mset] at h
  split at h
  ·simp only [List.map_cons, List.mem_cons] at h ⊢
   rcases h with h | h
   ·exact .inl h
   ·exact .inr (.inr h)
  ·simp only [List.map_cons, List.mem_cons] at h ⊢
   rcases h with h | h
   ·exact .inr (.inl h)
   ·rcases mem_mset a b r x h with h | h
    ·exact .inl h
    ·exact .inr (.inr h)
theorem nodup_mset {α β : Type} [DecidableEq α] (a : α) (b : β) : ∀ (l : List (α × β)), (l.map (·.1)).Nodup → ((mset a b l).map (·.1)).Nodup
 | [], _ => by simp [mset]
 | (k, c) :: r, h => by
  simp only [List.map_cons, List.nodup_cons] at h
  simp only [mset]
  split
  ·rename_i e; subst e; simpa using h
  ·rename_i e
   simp only [List.map_cons, List.nodup_cons]
   refine ⟨fun hm => ?_, nodup_mset a b r h.2⟩
   rcases mem_mset a b r k hm with hm | hm
   ·exact e hm.symm
   ·exact h.1 hm
def QOK (n : Nat) (q : List disk_sector) : Prop := q.length ≤ n ∧ ∀ p ∈ q, 0 ≤ p.number ∧ p.number ≤ 1099511627776
theorem index_L (s : List disk_sector) (p : Int) (hs : s.length ≤ 1099511627776) : ∀ (k i fuel : Nat), k = s.length - i → i ≤ s.length → k < fuel → s_slices_IndexFunc_2_L1 s fuel ((i : Int), p) = some (.inr p) ∨ ∃ j : Nat, j < s.length ∧ s_slices_IndexFunc_2_L1 s fuel ((i : Int), p) = some (.inl ((j : Int), p)) := by
 intro k
 induction k with
 | zero =>
  intro i fuel hk hi hf
  obtain ⟨f, rfl⟩ : ∃ f, fuel = f + 1 := ⟨fuel - 1, by omega⟩
  have : i = s.length := by omega
  subst this
  left
  rw [s_slices_IndexFunc_2_L1]
  simp
 | succ k ih =>
  intro i fuel hk hi hf
  obtain ⟨f, rfl⟩ : ∃ f, fuel = f + 1 := ⟨fuel - 1, by omega⟩
  have hlt : i < s.length := by omega
  rw [s_slices_IndexFunc_2_L1]
  simp only [show decide ((i : Int) < (s.length : Int)) = true by simp; omega, cond_true, Int.toNat_natCast, Option.bind_some, s_disk_Disk_settle_1]
  rw [grd_ofI (by omega), Option.bind_some]
  cases hb : decide ((s.getD i default).file = p) with
  | true => right; exact ⟨i, hlt, rfl⟩
  | false =>
   rw [cond_false, w64_id (by omega) (by omega)]
   exact ih (i + 1) f (by omega) (by omega) (by omega)
theorem index_spec {s : List disk_sector} {p : Int} (hs : s.length ≤ 1099511627776) : s_slices_IndexFunc_2 s p = some (-1, p) ∨ ∃ j : Nat, j < s.length ∧ s_slices_IndexFunc_2 s p = some ((j : Int), p) := by
 unfold s_slices_IndexFunc_2
 rcases index_L s p hs s.length 0 KK (by omega) (by omega) (kk_lt (by omega)) with h | ⟨j, h1, h⟩
 ·left; rw [show ((0 : Int), p) = (((0 : Nat) : Int), p) from rfl, h]; rfl
 ·right; exact ⟨j, h1, by rw [show ((0 : Int), p) = (((0 : Nat) : Int), p) from rfl, h]; rfl⟩
theorem delf_L {n : Nat} {p : Int} (hn : n ≤ 1099511627776) : ∀ (k i j fuel : Nat) (q : List disk_sector), k = q.length - j → i < j → j ≤ q.length → k < fuel → QOK n q →
  ∃ (i' j' : Nat) (q' : List disk_sector), s_slices_DeleteFunc_2_L1 fuel ((i : Int), (j : Int), p, q) = some ((i' : Int), p, q') ∧ i' ≤ q'.length ∧ QOK n q' := by
 intro k
 induction k with
 | zero =>
  intro i j fuel q hk hi hj hf hq
  obtain ⟨f, rfl⟩ : ∃ f, fuel = f + 1 := ⟨fuel - 1, by omega⟩
  refine ⟨i, j, q, ?_, by omega, hq⟩
  rw [s_slices_DeleteFunc_2_L1]
  simp only [show decide ((j : Int) < (q.length : Int)) = false by simp; omega, cond_false]
 | succ k ih =>
  intro i j fuel q hk hi hj hf hq
  obtain ⟨f, rfl⟩ : ∃ f, fuel = f + 1 := ⟨fuel - 1, by omega⟩
  have hlt : j < q.length := by omega
  have hql := hq.1
  rw [s_slices_DeleteFunc_2_L1]
  simp only [show decide ((j : Int) < (q.length : Int)) = true by simp; omega, cond_true, Int.toNat_natCast, Option.bind_some, s_disk_Disk_settle_1]
  rw [grd_ofI (by omega), Option.bind_some, w64_id (n := (j : Int) + 1) (by omega) (by omega)]
  cases hb : decide ((q.getD j default).file = p) with
  | true =>
   simp only [Bool.not_true, cond_false, Option.bind_some]
   exact ih i (j + 1) f q (by omega) (by omega) (by omega) (by omega) hq
  | false =>
   simp only [Bool.not_false, cond_true]
   rw [grd_ofI (by omega), Option.bind_some, Option.bind_some, w64_id (n := (i : Int) + 1) (by omega) (by omega)]
   refine ih (i + 1) (j + 1) f (q.set i (q.getD j default)) (by simp; omega) (by omega) (by simp; omega) (by omega) ⟨by simpa using hql, fun x hx => ?_⟩
   rcases List.mem_or_eq_of_mem_set hx with hx | rfl
   ·exact hq.2 x hx
   ·exact hq.2 _ (getD_mem hlt)
theorem delf_spec {n : Nat} {q : List disk_sector} (f : Int) (h : QOK n q) (hn : n ≤ 1099511627776) : ∃ q', s_slices_DeleteFunc_2 q f = some (q', f) ∧ QOK n q' := by
 have hql := h.1
 unfold s_slices_DeleteFunc_2
 rcases index_spec (s := q) (p := f) (by omega) with hi | ⟨j, hj, hi⟩
 ·rw [hi, Option.bind_some]
  refine ⟨q, ?_, h⟩
  simp
 ·rw [hi, Option.bind_some]
  rw [show decide (((j : Int), f).1 = -1) = false by simp, cond_false, w64_id (by simp only; omega) (by simp only; omega)]
  obtain ⟨i', j', q', e, h1, h2⟩ := delf_L (p := f) hn (q.length - (j + 1)) j (j + 1) KK q rfl (by omega) (by omega) (kk_lt (by omega)) h
  rw [show (((j : Int), f).1, ((j : Int), f).1 + 1, ((j : Int), f).2, q) = ((j : Int), ((j + 1 : Nat) : Int), f, q) from rfl, e, Option.bind_some]
  refine ⟨q'.take i', ?_, ⟨by rw [List.length_take]; have := h2.1; omega, fun x hx => h2.2 x (List.mem_of_mem_take hx)⟩⟩
  refine Option.bind_eq_some_iff.2 ⟨(), grd_ofI (by simp only; omega), Option.bind_eq_some_iff.2 ⟨(), grd_ofI (by simp only; omega), ?_⟩⟩
  simp only [Int.toNat_natCast, Int.toNat_zero, Nat.sub_zero]
  rw [cpyT_eq (by simp; omega), cpy, List.append_assoc, List.take_append_of_le_length (by rw [List.length_take]; omega), List.take_take, Nat.min_self]
theorem settle_spec {n : Nat} {files : List (Int × disk_file)} {q : List disk_sector} {st : List (disk_sector × Bool)} (lost : Int) (down : Bool) (armed : Int) (keep : List Int) (f : Int) (s : List UInt8) (h : QOK n q) (hn : n ≤ 1099511627776) (hs : (st.map (·.1)).Nodup) :
  ∃ q' st', s_disk_Disk_settle_2 files q st lost down armed keep f s = some (st', q', mset f ⟨s, s⟩ files, lost, down, armed, keep) ∧ QOK n q' ∧ (st'.map (·.1)).Nodup := by
 obtain ⟨q', e, h1⟩ := delf_spec f h hn
 refine ⟨q', List.filter (fun p => !decide (p.1.file = f)) st, ?_, h1, ?_⟩
 ·unfold s_disk_Disk_settle_2
  rw [e, Option.bind_some, grd_ofI hs]
  rfl
 ·exact hs.sublist (List.filter_sublist.map _)
/- bytes -/
def putL (s : List UInt8) (a : Nat) (t : List UInt8) : List UInt8 := (s ++ List.replicate (a + t.length - s.length) 0).take a ++ t ++ s.drop (a + t.length)
theorem bytesOf_toNat (s : List UInt8) : bytesOf (s.map fun b => (b.toNat : Int)) = s := by
 unfold bytesOf
 rw [List.map_map]
 refine (List.map_congr_left fun b _ => ?_).trans (List.map_id s)
 simp
theorem bytesOf_append (a b : List Int) : bytesOf (a ++ b) = bytesOf a ++ bytesOf b := by simp [bytesOf]
theorem put_spec {s t : List UInt8} {a : Nat} (ht : t ≠ []) (hs : s.length ≤ 1099511627776) (ha : a + t.length ≤ 1099511627776) : s_disk_put s (a : Int) t = some (putL s a t) := by
 unfold s_disk_put
 have htp : 0 < t.length := List.length_pos_iff.2 ht
 have e1 : w64 ((a : Int) + (t.length : Int)) = ((a + t.length : Nat) : Int) := by rw [w64_id (by omega) (by omega)]; rfl
 have e2 : max (s.length : Int) ((a + t.length : Nat) : Int) = ((max s.length (a + t.length) : Nat) : Int) := by omega
 rw [show decide (t = []) = false by simp [ht], cond_false, e1, e2]
 simp only [Int.toNat_natCast, List.length_replicate]
 rw [grd_ofI (by omega), Option.bind_some, grd_ofI (by omega), Option.bind_some]
 congr 1
 rw [show min s.length (max s.length (a + t.length)) = s.length by omega, show min t.length (max s.length (a + t.length) - a) = t.length by omega]
 rw [List.take_length, List.take_length, cpyT_eq (o := a) (by rw [cpyT_length, List.length_map, List.length_replicate]; omega), cpyT_eq (by simp; omega)]
 simp only [cpy, List.take_zero, List.nil_append, List.length_map, Nat.zero_add, List.drop_replicate]
 rw [bytesOf_append, bytesOf_append, bytesOf_toNat, putL]
 have e3 : bytesOf (s.map (fun b => (b.toNat : Int)) ++ List.replicate (max s.length (a + t.length) - s.length) 0) = s ++ List.replicate (a + t.length - s.length) 0 := by
  rw [bytesOf_append, bytesOf_toNat]
  congr 1
  rw [show max s.length (a + t.length) - s.length = a + t.length - s.length by omega]
  simp [bytesOf]
 have e4 : ∀ l k, bytesOf (List.take k l) = (bytesOf l).take k := fun l k => by simp [bytesOf, List.map_take]
 have e5 : ∀ l k, bytesOf (List.drop k l) = (bytesOf l).drop k := fun l k => by simp [bytesOf, List.map_drop]
 rw [e4, e5, e3]
 congr 1
 rw [List.drop_append]
 rw [show (List.replicate (a + t.length - s.length) (0 : UInt8)).drop (a + t.length - s.length) = [] by simp]
 simp
theorem putL_end (s t : List UInt8) : putL s s.length t = s ++ t := by
 unfold putL
 rw [List.take_append_of_le_length (Nat.le_refl _), List.take_length, List.drop_eq_nil_of_le (by omega), List.append_nil]
def Torn (l n c : List UInt8) : Prop := l.length ≤ c.length ∧ c.length ≤ max l.length n.length ∧ ∀ i b, c[i]? = some b → (i < l.length ∧ l[i]? = some b) ∨ n[i]? = some b ∨ (l.length ≤ i ∧ b = 0)
end Go.Proofs.YtoflckochjijcaaDoor
