/- Texts of mine, one behind the other; nothing is assumed. -/
import Derived.Test.YtbfcgbhhgnnglaaGreatDoorB16
import Derived.RangeFuncLeaves
import Derived.RangeFuncCalls
import Derived.RangeFuncFrom
import Derived.TacticsIn
import Derived.Test.YtbfcgbhhgnnglaaGreatDoorB08
import Derived.KernelRfl
set_option linter.unusedSimpArgs false
set_option linter.unusedVariables false
namespace Go.W
open Go
def VU(F:Fence):Prop:=F=Fence.wide\/∃l,F=Fence.wide.inRound l
theorem VU.depth{F:Fence}(h:VU F):F.depth=none:=by
 rcases h with rfl|⟨l,rfl⟩<;>rfl
theorem VU.calls{F:Fence}(h:VU F){n:Nat}{P:Program}{f:FuncId}{args:Array Value}{w:World}{R:Ending->World->Prop}(hc:Calls P f args w R):CallsIn F n P f args w R:=by
 rcases h with rfl|⟨l,rfl⟩
 .exact callsIn_wide.2 hc
 .exact CallsIn.inRound l (callsIn_wide.2 hc)
section
variable {F:Fence} {m:Nat} {P:Program} {n:Nat} {keep:List Nat} {ds:List Deferred} {E:KE} {ops:Array Oper} {Q':Exit->Act->World->Prop}
end
end Go.W
set_option maxRecDepth 100000
namespace Go.W.T
open Go Go.Proofs
end Go.W.T
namespace Go.W.T
open Go Go.Proofs
end Go.W.T
