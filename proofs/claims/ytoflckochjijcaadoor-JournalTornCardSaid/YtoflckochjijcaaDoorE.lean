/- (stand-in) -/
import Derived.Test.YtoflckochjijcaaDoorJ
set_option linter.all false
