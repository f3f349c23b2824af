/- The reference of define: names, what uses what. -/
import Derived.Test.YtconjkgifdfhdaaDh
set_option linter.all false
set_option maxRecDepth 100000
namespace Go.Proofs.Ytconjkgifdfhdaa
open Go Go.RowKit Go.Eng Go.EV Go.Grf
theorem toNat_nat' (n : Nat) : Int.toNat (n : Int) = n := by simp
theorem cut_of {α : Type} {l : List α} {a b : Nat} (h1 : a ≤ b) (h2 : b ≤ l.length) : cut l (a : Int) (b : Int) = some ((l.drop a).take (b - a)) := by
 unfold cut
 rw [if_pos ⟨by omega, by omega, by omega⟩, toNat_nat', toNat_nat', List.drop_take]
variable [Fuel]
structure Gb (N : Nat) (U : Nat → Nat → Prop) (use : List (List Bool)) : Prop where
 len : use.length = N
 row : ∀ i, i < N → (use.getD i default).length = N
 mem : ∀ i k, i < N → k < N → ((use.getD i default).getD k default = true ↔ U i k)
 dom : ∀ i k, U i k → i < N ∧ k < N
end Go.Proofs.Ytconjkgifdfhdaa
