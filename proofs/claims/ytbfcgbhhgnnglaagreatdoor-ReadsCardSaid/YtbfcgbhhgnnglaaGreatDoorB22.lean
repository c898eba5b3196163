/- Texts of mine, one behind the other; nothing is assumed. -/
import Derived.Shelf.Strings.Builder1
import Derived.Shelf.Strings.BuilderF
import Derived.Shelf.Strings.Repeat
import Derived.Shelf.Bits.Mul64
import Derived.Test.YtbfcgbhhgnnglaaGreatDoorProg
namespace Go.Proofs
open Go.Shelf
end Go.Proofs
