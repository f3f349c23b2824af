/- Torn records: what is read of a torn file is a beginning of what was there. -/
import Derived.Test.YtoflckochjijcaaDoorR
set_option linter.all false
set_option maxRecDepth 100000
namespace Go.Proofs.YtoflckochjijcaaDoor
open Go Go.RowKit Go.Eng Go.EV Go.Lib
variable [Fuel]
def Sub : List UInt8 → List UInt8 → Prop
 | [], _ => True
 | _ :: _, [] => False
 | b :: x, c :: f => (b = c ∨ b = 0) ∧ Sub x f
def Pr (A sure : List (List UInt8)) (x : List UInt8) : Prop := Sub x (forms A) ∧ forms sure <+: x
end Go.Proofs.YtoflckochjijcaaDoor
