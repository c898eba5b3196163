/- Texts of mine, one behind the other; nothing is assumed. -/
import Derived.Test.YtaaepbggooiblaaGreatDoorB25
import Derived.Stop.Asserts
set_option linter.unusedSimpArgs false
set_option linter.unusedVariables false
set_option maxRecDepth 100000
namespace Go.W.T
open Go Go.Proofs Go.M Go.Extern Go.Stop
end Go.W.T
namespace Go.W.T
open Go Go.Proofs Go.M Go.Extern Go.Stop
end Go.W.T
