/- (stand-in) -/
import Derived.Test.YtoflckochjijcaaGreatDoorJ
set_option linter.all false
