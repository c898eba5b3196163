/- Texts of mine, one behind the other; nothing is assumed. -/
import Derived.Test.YtaaepbggooiblaaGreatDoorB26
import Derived.Stop.Asserts
set_option linter.unusedSimpArgs false
set_option linter.unusedVariables false
set_option maxRecDepth 100000
namespace Go.W.T
open Go Go.Proofs Go.M Go.Extern Go.Stop
end Go.W.T
namespace Go.W.T
open Go Go.Proofs Go.M Go.Extern Go.Stop
theorem cell_of{w:World}{b o:Nat}{l:List Value}{t:TypeId}{x:Value}(h:w.heap[b]?=some (cl l t))(hx:l[o]?=some x):w.cell? ⟨b,o,none⟩=some x:=by
 unfold World.cell?
 simp[h,hx]
end Go.W.T
set_option maxRecDepth 4000
namespace Go.W.T
open Go Go.W Go.M Go.Proofs
end Go.W.T
