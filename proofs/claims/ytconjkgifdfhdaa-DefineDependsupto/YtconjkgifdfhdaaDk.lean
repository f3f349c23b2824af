/- The reference's Order, Names, Reaches and Unknown, to the sign. -/
import Derived.Test.YtconjkgifdfhdaaDj
import Derived.Test.YtconjkgifdfhdaaDc
set_option linter.all false
set_option maxRecDepth 100000
namespace Go.Proofs.Ytconjkgifdfhdaa
open Go Go.RowKit Go.Eng Go.EV Go.Grf
def insV (s : List UInt8) (l : List (List UInt8)) : List (List UInt8) := if s ∈ l then l else l.takeWhile (fun x => decide (x < s)) ++ [s] ++ l.dropWhile (fun x => decide (x < s))
theorem insV_mem {s x : List UInt8} {l : List (List UInt8)} : x ∈ insV s l ↔ x ∈ l ∨ x = s := by
 unfold insV
 split
 ·rename_i h
  exact ⟨.inl, fun h2 => h2.elim id fun e => e ▸ h⟩
 ·have := List.takeWhile_append_dropWhile (p := fun x => decide (x < s)) (l := l)
  rw [List.mem_append, List.mem_append, List.mem_singleton]
  conv => rhs; rw [← this, List.mem_append]
  constructor
  ·rintro ((h | h) | h)
   ·exact .inl (.inl h)
   ·exact .inr h
   ·exact .inl (.inr h)
  ·rintro ((h | h) | h)
   ·exact .inl (.inl h)
   ·exact .inr h
   ·exact .inl (.inr h)
theorem insV_asc {s : List UInt8} : ∀ {l : List (List UInt8)}, asc l → asc (insV s l)
 | [], _ => by unfold insV; rw [if_neg (by simp)]; exact List.pairwise_singleton ..
 | y :: l, h => by
  obtain ⟨h1, h2⟩ := List.pairwise_cons.1 h
  by_cases hm : s ∈ y :: l
  ·unfold insV; rw [if_pos hm]; exact h
  ·have hne : s ≠ y := fun e => hm (e ▸ List.mem_cons_self ..)
   have hnl : s ∉ l := fun e => hm (List.mem_cons_of_mem _ e)
   have ih := insV_asc (s := s) h2
   by_cases hlt : y < s
   ·have e : insV s (y :: l) = y :: insV s l := by
     unfold insV
     rw [if_neg hm, if_neg hnl, List.takeWhile_cons, List.dropWhile_cons, decide_eq_true hlt]; rfl
    rw [e]
    refine List.pairwise_cons.2 ⟨fun z hz => ?_, ih⟩
    rcases insV_mem.1 hz with h3 | rfl
    ·exact h1 z h3
    ·exact hlt
   ·have e : insV s (y :: l) = s :: y :: l := by
     unfold insV
     rw [if_neg hm, List.takeWhile_cons, List.dropWhile_cons, decide_eq_false hlt]; rfl
    have hsy := nm_lt_of hlt (Ne.symm hne)
    rw [e]
    refine List.pairwise_cons.2 ⟨fun z hz => ?_, h⟩
    rcases List.mem_cons.1 hz with rfl | hz
    ·exact hsy
    ·exact List.lt_trans hsy (h1 z hz)
variable [Fuel]
def MFS (N : Nat) (U : Nat → Nat → Prop) (nm : Nat → Nm) (S : Nat → Nat → Prop) (be fr : Int) : Prop :=
 (fr = -1 ∧ be = (N : Int) + 1 ∧ ∀ j m, S j m → ¬ Path U m j j) ∨ ∃ f n : Nat, fr = f ∧ be = n ∧ f < N ∧ 1 ≤ n ∧ n ≤ N ∧ Path U n f f ∧ ∀ j m, S j m → Path U m j j → n < m ∨ (n = m ∧ ¬ nm j < nm f)
def Seen (N i n j m : Nat) : Prop := 1 ≤ m ∧ m ≤ N ∧ (j < i ∨ (j = i ∧ m ≤ n))
section
variable {N : Nat} {U : Nat → Nat → Prop} {nm : Nat → Nm} {i n : Nat} {be fr : Int}
omit [Fuel] in
theorem MFS.sub {S S' : Nat → Nat → Prop} (h : MFS N U nm S be fr) (hs : ∀ j m, S' j m → S j m) : MFS N U nm S' be fr := by
 rcases h with ⟨h1, h2, h3⟩ | ⟨f, n, h1, h2, h3, h4, h5, h6, h7⟩
 ·exact .inl ⟨h1, h2, fun j m h => h3 j m (hs j m h)⟩
 ·exact .inr ⟨f, n, h1, h2, h3, h4, h5, h6, fun j m h => h7 j m (hs j m h)⟩
omit [Fuel] in
theorem MFS.stay (h : MFS N U nm (Seen N i n) be fr) (hn : Path U (n + 1) i i → ∃ f k : Nat, fr = f ∧ be = k ∧ (k < n + 1 ∨ (k = n + 1 ∧ ¬ nm i < nm f))) : MFS N U nm (Seen N i (n + 1)) be fr := by
 have old : ∀ j m, Seen N i (n + 1) j m → Seen N i n j m ∨ (j = i ∧ m = n + 1) := fun j m ⟨h1, h2, h3⟩ => by
  rcases h3 with h3 | ⟨h3, h4⟩
  ·exact .inl ⟨h1, h2, .inl h3⟩
  ·by_cases e : m = n + 1
   ·exact .inr ⟨h3, e⟩
   ·exact .inl ⟨h1, h2, .inr ⟨h3, by omega⟩⟩
 rcases h with ⟨h1, h2, h3⟩ | ⟨f, k, h1, h2, h3, h4, h5, h6, h7⟩
 ·refine .inl ⟨h1, h2, fun j m hs hp => ?_⟩
  rcases old j m hs with hs | ⟨rfl, rfl⟩
  ·exact h3 j m hs hp
  ·obtain ⟨f, k, h4, _⟩ := hn hp
   omega
 ·refine .inr ⟨f, k, h1, h2, h3, h4, h5, h6, fun j m hs hp => ?_⟩
  rcases old j m hs with hs | ⟨rfl, rfl⟩
  ·exact h7 j m hs hp
  ·obtain ⟨f', k', e1, e2, h8⟩ := hn hp
   obtain rfl : f = f' := by omega
   obtain rfl : k = k' := by omega
   exact h8
omit [Fuel] in
theorem MFS.take (h : MFS N U nm (Seen N i n) be fr) (hi : i < N) (hn : n + 1 ≤ N) (hp : Path U (n + 1) i i) (hb : ((n + 1 : Nat) : Int) < be ∨ ((n + 1 : Nat) : Int) = be ∧ ∃ f : Nat, fr = f ∧ nm i < nm f) : MFS N U nm (Seen N i (n + 1)) ((n + 1 : Nat) : Int) (i : Int) := by
 refine .inr ⟨i, n + 1, rfl, rfl, hi, by omega, hn, hp, fun j m ⟨s1, s2, s3⟩ hpm => ?_⟩
 by_cases e : j = i ∧ m = n + 1
 ·obtain ⟨rfl, rfl⟩ := e
  exact .inr ⟨rfl, nm_irrefl _⟩
 ·have hs : Seen N i n j m := ⟨s1, s2, by omega⟩
  rcases h with ⟨h1, h2, h3⟩ | ⟨f, k, h1, h2, h3, h4, h5, h6, h7⟩
  ·exact absurd hpm (h3 j m hs)
  ·rcases h7 j m hs hpm with h8 | ⟨h8, h9⟩
   ·exact .inl (by omega)
   ·rcases hb with hb | ⟨hb, f', hf, hlt⟩
    ·exact .inl (by omega)
    ·obtain rfl : f = f' := by omega
     exact .inr ⟨by omega, fun hlt2 => h9 (nm_trans hlt2 hlt)⟩
end
def LeastK (l : List Def) (U : Nat → Nat → Prop) (t a n j : Nat) (r : Int) : Prop :=
 (r = -1 ∧ ∀ k, k < j → U a k → ¬ Path U n k t) ∨ ∃ k : Nat, r = k ∧ k < l.length ∧ U a k ∧ Path U n k t ∧ ∀ k', k' < j → U a k' → Path U n k' t → ¬ nameAt l k' < nameAt l k
structure Small (p : Plan) : Prop where
 defs : p.Defs.length ≤ 20
 rules : p.Rules.length ≤ 20
 body : ∀ d ∈ p.Defs, cnt d.Body ≤ 60
 test : ∀ d ∈ p.Rules, cnt d.Test ≤ 60
 keyD : ∀ d ∈ p.Defs, ∀ k ∈ namesL d.Body, k.length ≤ 9223372036854775807
 keyR : ∀ d ∈ p.Rules, ∀ k ∈ namesL d.Test, k.length ≤ 9223372036854775807
omit [Fuel] in
theorem cnt_lvl : ∀ (n : Nat) (e : Expr), cnt e ≤ n → lvl n e
 | 0, e, h => by have := cnt_pos e; omega
 | n + 1, e, h => fun x hx => cnt_lvl n x (by have := mem_cnts hx; rw [cnt_eq] at h; omega)
omit [Fuel] in
theorem names_le (e : Expr) : (namesL e).length ≤ cnt e := names_cnt (cnt e) e (cnt_lvl _ e (Nat.le_refl _))
theorem Small.okD {p : Plan} (h : Small p) : okD p.Defs := fun d hd => ⟨by have := names_le d.Body; have := h.body d hd; omega, h.keyD d hd⟩
end Go.Proofs.Ytconjkgifdfhdaa
