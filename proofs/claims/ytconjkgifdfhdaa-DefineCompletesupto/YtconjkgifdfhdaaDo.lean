/- DefineTells and DefineOrders in plain Lean. -/
import Derived.Test.YtconjkgifdfhdaaDn
set_option linter.all false
set_option maxRecDepth 100000
namespace Go.Proofs.Ytconjkgifdfhdaa
open Go Go.RowKit Go.Eng Go.EV Go.Grf
variable [Fuel]
end Go.Proofs.Ytconjkgifdfhdaa
