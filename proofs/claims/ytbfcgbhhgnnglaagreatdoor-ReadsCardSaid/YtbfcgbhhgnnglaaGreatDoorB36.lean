/- Texts of mine, one behind the other; nothing is assumed. -/
import Derived.Test.YtbfcgbhhgnnglaaGreatDoorB35
import Derived.Test.YtbfcgbhhgnnglaaGreatDoorB34
import Derived.Test.YtbfcgbhhgnnglaaGreatDoorB24
import Derived.RangeFuncNested
set_option linter.unusedSimpArgs false
set_option linter.unusedVariables false
set_option maxRecDepth 100000
namespace Go.W.T
open Go Go.W Go.M Go.Proofs Go.RowKit
end Go.W.T
