/- Texts of mine, one behind the other; nothing is assumed. -/
import Derived.Test.YtbfcgbhhgnnglaaGreatDoorB33
import Derived.Test.YtbfcgbhhgnnglaaGreatDoorB24
import Derived.Test.YtbfcgbhhgnnglaaGreatDoorB36
set_option linter.unusedSimpArgs false
set_option linter.unusedVariables false
set_option maxRecDepth 100000
namespace Go.W.T
open Go Go.W Go.M Go.Proofs
end Go.W.T
