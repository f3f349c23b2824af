/- The examples of the documentation. -/
import Derived.Test.YtenljipeggacjaaGreatY
set_option linter.all false
set_option maxRecDepth 100000
namespace Go.Proofs.YtenljipeggacjaaGreat
open Go Go.RowKit Go.Eng Go.EV
def areaS : List UInt8 := [97, 114, 101, 97]
def heightS : List UInt8 := [104, 101, 105, 103, 104, 116]
def lessE (s : List UInt8) (n : Int) : Expr := Expr.mk 11 0 [] [] [(Expr.mk 1 0 s [] []), (Expr.mk 0 n [] [] [])]
def sumE : Expr := Expr.mk 4 0 [] [] [(Expr.mk 1 0 heightS [] []), (Expr.mk 0 1 [] [] [])]
def base0 : List Fact := [⟨areaS, 100, 0, 0, 5⟩, ⟨areaS, 90, 10, 0, 8⟩]
theorem namesV_one {e : Expr} {s : List UInt8} (h : namesL e = [s]) : namesV e = [s] := by
  unfold namesV sortKeys
  rw [h]
  show List.mergeSort [s] _ = [s]
  exact List.mergeSort_singleton _
theorem namesL_less (s : List UInt8) (n : Int) : namesL (lessE s n) = [s] := by simp [lessE, namesL, namesLs]
theorem namesL_sum : namesL sumE = [heightS] := by simp [sumE, namesL, namesLs]
theorem names_less (s : List UInt8) (n : Int) : namesV (lessE s n) = [s] := namesV_one (namesL_less s n)
theorem names_sum : namesV sumE = [heightS] := namesV_one namesL_sum
variable [Fuel]
theorem ask_less (base : List Fact) (a b c r : Int) (s : List UInt8) (n : Int) (l : List Asked) (known : Int) : askF base (Formula.mk a b c (lessE s n) r l) known = [lookF base s b known] := by unfold askF; rw [names_less]; rfl
theorem ask_sum (base : List Fact) (a b c r : Int) (l : List Asked) (known : Int) : askF base (Formula.mk a b c sumE r l) known = [lookF base heightS b known] := by unfold askF; rw [names_sum]; rfl
omit [Fuel] in
theorem val_of {e : Expr} {told : List Asked} {v : Int} (h : ∀ m (hb : 18446744073709551616 ≤ m + 100), @s_reopen_value ⟨m + 100, hb⟩ ⟨0, 0, 0, e, 0, []⟩ told = some v) : ∀ i : Fuel, @valE i e told = v := by
  rintro ⟨n, hb⟩
  obtain ⟨m, rfl⟩ : ∃ m, n = m + 100 := ⟨n - 100, by omega⟩
  unfold valE
  rw [h m hb]; rfl
omit [Fuel] in
theorem val95_100 : ∀ i : Fuel, ∀ d, @valE i (lessE areaS 95) [⟨areaS, d, 100, true⟩] = 0 := fun i d => val_of (fun m hb => rfl) i
omit [Fuel] in
theorem val95_90 : ∀ i : Fuel, ∀ d, @valE i (lessE areaS 95) [⟨areaS, d, 90, true⟩] = 1 := fun i d => val_of (fun m hb => rfl) i
omit [Fuel] in
theorem val120_100 : ∀ i : Fuel, ∀ d, @valE i (lessE areaS 120) [⟨areaS, d, 100, true⟩] = 1 := fun i d => val_of (fun m hb => rfl) i
omit [Fuel] in
theorem val120_90 : ∀ i : Fuel, ∀ d, @valE i (lessE areaS 120) [⟨areaS, d, 90, true⟩] = 1 := fun i d => val_of (fun m hb => rfl) i
omit [Fuel] in
theorem val_sum : ∀ i : Fuel, @valE i sumE [⟨heightS, 0, 0, false⟩] = 1 := fun i => val_of (fun m hb => rfl) i
end Go.Proofs.YtenljipeggacjaaGreat
namespace Go.Proofs.YtenljipeggacjaaGreat
open Go Go.RowKit Go.Eng Go.EV
variable [Fuel]
def g1 : Formula := ⟨1, 12, 6, lessE areaS 95, 0, [⟨areaS, 12, 100, true⟩]⟩
def g2 : Formula := ⟨2, 12, 6, lessE areaS 120, 1, [⟨areaS, 12, 100, true⟩]⟩
def g3 : Formula := ⟨3, 9, 6, lessE areaS 95, 0, [⟨areaS, 9, 100, true⟩]⟩
def g4 : Formula := ⟨4, 0, 0, sumE, 1, [⟨heightS, 0, 0, false⟩]⟩
theorem okN_less (a b c r : Int) (n : Int) (l : List Asked) : okN (Formula.mk a b c (lessE areaS n) r l) := fun k hk => by
  rw [namesL_less, List.mem_singleton] at hk; subst hk; decide
theorem okN_sum (a b c r : Int) (l : List Asked) : okN (Formula.mk a b c sumE r l) := fun k hk => by
  rw [namesL_sum, List.mem_singleton] at hk; subst hk; decide
theorem hb0 : base0.length < 2 ^ 62 := by decide
theorem make_of {f : Formula} (hk : okN f) (hr : rightB base0 = true ∧ RightB f = true) {g : Formula} (he : makeF base0 f = g) : s_reopen_Make base0 f = some (g, 0) := by rw [s_Make hb0 hk, if_pos hr, he]
theorem m1 : s_reopen_Make base0 ⟨1, 12, 6, lessE areaS 95, 0, []⟩ = some (g1, 0) := make_of (okN_less _ _ _ _ _ _) (by decide) (by
  unfold makeF; rw [ask_less, show lookF base0 areaS 12 6 = ⟨areaS, 12, 100, true⟩ from rfl]; simp only; rw [val95_100]; rfl)
theorem m2 : s_reopen_Make base0 ⟨2, 12, 6, lessE areaS 120, 0, []⟩ = some (g2, 0) := make_of (okN_less _ _ _ _ _ _) (by decide) (by
  unfold makeF; rw [ask_less, show lookF base0 areaS 12 6 = ⟨areaS, 12, 100, true⟩ from rfl]; simp only; rw [val120_100]; rfl)
theorem m3 : s_reopen_Make base0 ⟨3, 9, 6, lessE areaS 95, 0, []⟩ = some (g3, 0) := make_of (okN_less _ _ _ _ _ _) (by decide) (by
  unfold makeF; rw [ask_less, show lookF base0 areaS 9 6 = ⟨areaS, 9, 100, true⟩ from rfl]; simp only; rw [val95_100]; rfl)
theorem m4 : s_reopen_Make base0 ⟨4, 0, 0, sumE, 0, []⟩ = some (g4, 0) := make_of (okN_sum _ _ _ _ _) (by decide) (by
  unfold makeF; rw [ask_sum, show lookF base0 heightS 0 0 = ⟨heightS, 0, 0, false⟩ from rfl]; simp only; rw [val_sum]; rfl)
theorem m5 : s_reopen_Make base0 ⟨0, -1, 0, ⟨0, 0, [], [], []⟩, 0, []⟩ = some (bad0, 1) := by
  rw [s_Make hb0 (fun k hk => by simp [namesL, namesLs] at hk), if_neg (by decide)]
theorem r7 : s_reopen_Reopened base0 [g1] 7 = some [] := by
  rw [s_Reopened hb0 (by decide) (fun f hf => by rw [List.mem_singleton] at hf; subst hf; exact okN_less _ _ _ _ _ _)]
  have : outB base0 7 g1 = false := by
    unfold outB g1; rw [ask_less, show lookF base0 areaS 12 7 = ⟨areaS, 12, 100, true⟩ from rfl]; simp only; rw [val95_100]; rfl
  simp only [whichV, this]; rfl
theorem r8 : s_reopen_Reopened base0 [g1, g2] 8 = some [0] := by
  rw [s_Reopened hb0 (by decide) (fun f hf => by
    simp only [List.mem_cons, List.not_mem_nil, or_false] at hf
    rcases hf with rfl | rfl <;> exact okN_less _ _ _ _ _ _)]
  have h1 : outB base0 8 g1 = true := by
    unfold outB g1; rw [ask_less, show lookF base0 areaS 12 8 = ⟨areaS, 12, 90, true⟩ from rfl]; simp only; rw [val95_90]; rfl
  have h2 : outB base0 8 g2 = false := by
    unfold outB g2; rw [ask_less, show lookF base0 areaS 12 8 = ⟨areaS, 12, 90, true⟩ from rfl]; simp only; rw [val120_90]; rfl
  simp only [whichV, h1, h2]; rfl
theorem t8 : s_reopen_Touched base0 [g1, g2] 8 = some [0, 1] := by
  rw [s_Touched hb0 (by decide) (fun f hf => by
    simp only [List.mem_cons, List.not_mem_nil, or_false] at hf
    rcases hf with rfl | rfl <;> decide)]
  rfl
theorem st3 : s_reopen_Stale base0 g3 8 = some [] := by rw [s_Stale hb0 (by decide)]; rfl
theorem st1 : s_reopen_Stale base0 g1 8 = some [areaS] := by rw [s_Stale hb0 (by decide)]; rfl
theorem mk_g1 : makeF base0 g1 = g1 := by
  unfold makeF g1; rw [ask_less, show lookF base0 areaS 12 6 = ⟨areaS, 12, 100, true⟩ from rfl]; simp only; rw [val95_100]
theorem mk_f1 : makeF base0 ⟨1, 12, 6, lessE areaS 95, 0, []⟩ = g1 := by
  unfold makeF; rw [ask_less, show lookF base0 areaS 12 6 = ⟨areaS, 12, 100, true⟩ from rfl]; simp only; rw [val95_100]; rfl
theorem h1 : s_reopen_Holds base0 g1 = some true := by
  rw [s_Holds hb0 (show okN g1 from okN_less _ _ _ _ _ _)]; unfold holdsB; rw [mk_g1]; rfl
theorem h2 : s_reopen_Holds base0 ⟨1, 12, 6, lessE areaS 95, 0, []⟩ = some false := by
  rw [s_Holds hb0 (okN_less _ _ _ _ _ _)]; unfold holdsB; rw [mk_f1]; rfl
theorem less_eq (s : List UInt8) (n : Int) : s_greenbeltlaw45_less s n = some (lessE s n) := rfl
theorem sa1 : s_greenbeltref45_SameAsked g1.Asked [⟨areaS, 12, 100, true⟩] = some true := s_Same (by decide)
theorem sa4 : s_greenbeltref45_SameAsked g4.Asked [⟨heightS, 0, 0, false⟩] = some true := s_Same (by decide)
theorem in1 : s_greenbeltref45_Ints [0] [0] = some true := s_Ints (by decide)
theorem in2 : s_greenbeltref45_Ints [0, 1] [0, 1] = some true := s_Ints (by decide)
theorem tx1 : s_greenbeltref45_Texts [areaS] [areaS] = some true := s_Texts (by decide)
theorem small_true : s_greenbeltlaw45_small = some true := by
  have m4' : s_reopen_Make_2 base0 4 0 0 4 0 [] [] [(Expr.mk 1 0 heightS [] []), (Expr.mk 0 1 [] [] [])] 0 [] = some (g4, 0) := m4
  unfold s_greenbeltlaw45_small
  rw [show ([97, 114, 101, 97] : List UInt8) = areaS from rfl, show ([104, 101, 105, 103, 104, 116] : List UInt8) = heightS from rfl, show [Fact.mk areaS 100 0 0 5, Fact.mk areaS 90 10 0 8] = base0 from rfl]
  simp only [less_eq, Option.bind_some, m1, m2, m3, m4', m5, r7, r8, t8, st3, st1, h1, h2, sa1, sa4, in1, in2, tx1]
  rfl
#print axioms small_true
end Go.Proofs.YtenljipeggacjaaGreat
