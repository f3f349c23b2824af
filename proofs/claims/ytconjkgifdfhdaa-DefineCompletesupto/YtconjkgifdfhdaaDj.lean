/- The reference of define: circles, the order. -/
import Derived.Test.YtconjkgifdfhdaaDi
set_option linter.all false
set_option maxRecDepth 100000
namespace Go.Grf
end Go.Grf
namespace Go.Proofs.Ytconjkgifdfhdaa
open Go Go.RowKit Go.Eng Go.EV Go.Grf
variable [Fuel]
structure Back (N : Nat) (U : Nat → Nat → Prop) (t most : Nat) (b : List (List Bool)) : Prop where
 len : b.length = most + 1
 row : ∀ n, n ≤ most → (b.getD n default).length = N
 mem : ∀ n, n ≤ most → ∀ i, i < N → ((b.getD n default).getD i default = true ↔ Path U n i t)
end Go.Proofs.Ytconjkgifdfhdaa
