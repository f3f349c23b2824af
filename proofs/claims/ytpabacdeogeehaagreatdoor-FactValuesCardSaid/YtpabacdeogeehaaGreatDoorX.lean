/- The examples; the law. -/
import Derived.Test.YtpabacdeogeehaaGreatDoorU
set_option linter.all false
set_option maxRecDepth 100000
namespace Go.Proofs.YtpabacdeogeehaaGreatDoor
open Go Go.RowKit Go.Eng Go.EV
def areaS : List UInt8 := [97, 114, 101, 97]
def sampleV : List Fact := [⟨areaS, 100, 0, 0, 5⟩, ⟨areaS, 90, 10, 20, 8⟩, ⟨areaS, 95, 15, 0, 12⟩]
theorem sortI_is {l s : List Int} (hp : l.Perm s) (hs : s.Pairwise (· ≤ ·)) : sortI l = s := by
 unfold sortI
 have tr : ∀ x y z : Int, decide (x ≤ y) = true → decide (y ≤ z) = true → decide (x ≤ z) = true := fun x y z h1 h2 => by
  simp only [decide_eq_true_eq] at *; omega
 have to : ∀ x y : Int, (decide (x ≤ y) || decide (y ≤ x)) = true := fun x y => by
  simp only [Bool.or_eq_true, decide_eq_true_eq]; omega
 refine List.Perm.eq_of_pairwise (le := fun x y => decide (x ≤ y) = true) (fun x y _ _ h1 h2 => ?_) (List.pairwise_mergeSort tr to l) (hs.imp fun h => decide_eq_true h) ((List.mergeSort_perm l _).trans hp)
 simp only [decide_eq_true_eq] at h1 h2
 omega
theorem sortS_same (a : List UInt8) : sortS [a, a, a] = [a, a, a] := by
 unfold sortS
 have h := List.mergeSort_perm [a, a, a] (fun x y => decide (x ≤ y))
 show _ = List.replicate 3 a
 refine List.eq_replicate_iff.2 ⟨(List.length_mergeSort _).trans rfl, fun b hb => ?_⟩
 have := h.mem_iff.1 hb
 simp only [List.mem_cons, List.not_mem_nil, or_false, or_self] at this
 exact this
theorem days_small : ∀ i : Fuel, @s_fact_days i sampleV areaS = some [0, 10, 15, 20, 1073741825] := by
 rintro ⟨N, hb⟩
 obtain ⟨m, rfl⟩ : ∃ m, N = m + 100 := ⟨N - 100, by omega⟩
 have hL : s_fact_days_L1 sampleV areaS (@KK ⟨m + 100, hb⟩) (0, [0, 1073741825]) = some [0, 1073741825, 0, 1073741825, 10, 20, 15, 1073741825] := rfl
 unfold s_fact_days
 rw [hL, Option.bind_some, @grd_of ⟨m + 100, hb⟩ _ _ (by decide), Option.bind_some, sortI_is (s := [0, 0, 10, 15, 20, 1073741825, 1073741825, 1073741825]) (by decide) (by decide)]
 rfl
theorem hist_small : ∀ i : Fuel, @s_fact_History i sampleV areaS 12 = some [⟨areaS, 100, 0, 10, 5⟩, ⟨areaS, 90, 10, 15, 8⟩, ⟨areaS, 95, 15, 0, 12⟩] := by
 rintro ⟨N, hb⟩
 obtain ⟨m, rfl⟩ : ∃ m, N = m + 100 := ⟨N - 100, by omega⟩
 unfold s_fact_History
 rw [days_small]
 rfl
theorem cor_small1 : ∀ i : Fuel, @s_fact_Corrections i sampleV areaS 8 12 = some [⟨15, 1073741824⟩] := by
 rintro ⟨N, hb⟩
 obtain ⟨m, rfl⟩ : ∃ m, N = m + 100 := ⟨N - 100, by omega⟩
 unfold s_fact_Corrections
 rw [days_small]
 rfl
theorem cor_small2 : ∀ i : Fuel, @s_fact_Corrections i sampleV areaS 4 8 = some [⟨0, 1073741824⟩] := by
 rintro ⟨N, hb⟩
 obtain ⟨m, rfl⟩ : ∃ m, N = m + 100 := ⟨N - 100, by omega⟩
 unfold s_fact_Corrections
 rw [days_small]
 rfl
theorem put_small1 : ∀ i : Fuel, @s_fact_Put i sampleV ⟨[97], 0, 0, 0, 11⟩ = some ([], 20) := by
 rintro ⟨N, hb⟩
 obtain ⟨m, rfl⟩ : ∃ m, N = m + 100 := ⟨N - 100, by omega⟩
 rfl
theorem put_small2 : ∀ i : Fuel, ∃ l, @s_fact_Put i sampleV ⟨[97], 0, 0, 0, 12⟩ = some (l, 0) := by
 rintro ⟨N, hb⟩
 obtain ⟨m, rfl⟩ : ∃ m, N = m + 100 := ⟨N - 100, by omega⟩
 exact ⟨_, rfl⟩
variable [Fuel]
theorem keys_small : s_fact_Keys sampleV = some [areaS] := by
 rw [s_Keys (by decide) (by decide)]
 unfold keysV
 rw [show sampleV.map (·.Key) = [areaS, areaS, areaS] from rfl, sortS_same]; rfl
theorem at_small (known : Int) (v : Int × Bool) (h : atF sampleV areaS 12 known = v) : s_fact_At sampleV areaS 12 known = some v := by rw [s_At (by decide), h]
theorem small_true : s_greenbeltlaw44_small = some true := by
 obtain ⟨l, hp2⟩ := put_small2 inferInstance
 have hs : s_greenbeltlaw44_sample = some sampleV := rfl
 unfold s_greenbeltlaw44_small
 rw [hs, show ([97, 114, 101, 97] : List UInt8) = areaS from rfl]
 simp only [Option.bind_some]
 rw [at_small 4 (0, false) rfl, at_small 5 (100, true) rfl, at_small 8 (90, true) rfl, hist_small, cor_small1, cor_small2, put_small1, hp2, keys_small]
 simp only [Option.bind_some]
 rw [s_Right (by decide), show rightB sampleV = true from by decide]
 rfl
theorem values_true {base : List Fact} (key : List UInt8) (day known n : Int) (hl : base.length ≤ 9223372036854775807) (hg : ∀ f ∈ base, goodF f) : s_greenbeltlaw44_FactValues base key day known n = some true := by
 obtain ⟨b, hb, hfew⟩ := few_ex base hl
 unfold s_greenbeltlaw44_FactValues
 rw [small_true, hb]
 simp only [Option.bind_some]
 cases b with
 | false => rfl
 | true =>
  have h16 := hfew rfl
  rw [s_Right (by omega)]
  cases hr : rightB base with
  | false => rfl
  | true =>
   by_cases hk : key = []
   ·rw [decide_eq_true hk]; rfl
   ·obtain ⟨l, h1, h2, h3⟩ := history_ex key known h16 hg
    have hr3 := read_L3 h3 h2 l.length 0 KK (by omega) (by have := KK_big; omega)
    rw [show ((0 : Nat) : Int) = 0 from rfl, List.drop_zero] at hr3
    have hle : (entriesV base day known).length < 2 ^ 62 := by
     have := keysV_len base
     have h4 := List.length_filter_le (fun k => (atF base k day known).2) (keysV base)
     unfold entriesV
     rw [List.length_map]; omega
    rw [decide_eq_false hk]
    simp only [Bool.not_true, cond_false, Option.bind_some]
    rw [s_Keys h16 hr]
    simp only [Option.bind_some]
    rw [s_entries h16, s_At (by omega)]
    simp only [Option.bind_some]
    rw [show Plan.mk [] [] [] [] [] [] [] 0 = plan0 from rfl, eval_x hle, entries_first]
    simp only [Option.bind_some, decide_true, Bool.not_true, cond_false]
    rw [h1]
    simp only [Option.bind_some]
    rw [write_L2 h3 h2]
    simp only [Option.bind_some, s_wire_Open]
    rw [hr3]
    rfl
#print axioms values_true
end Go.Proofs.YtpabacdeogeehaaGreatDoor
