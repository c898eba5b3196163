/- Texts of mine, one behind the other; nothing is assumed. -/
import Derived.Test.YtaaepbggooiblaaGreatDoorB25
import Derived.Laws.MakeOwn
set_option linter.unusedSimpArgs false
set_option linter.unusedVariables false
set_option maxRecDepth 4000
namespace Go.W.T
open Go Go.W Go.M Go.Proofs
theorem aX{lim:Lim}{e e':ES}{parts:List By}(h:e.put lim parts=.ok e')(hN:(e.out.length:Int)≤max 0 lim.size):(e'.out.length:Int)≤max 0 lim.size:=by
 obtain⟨rfl,h2⟩:=YJ h
 rcases h2 with rfl|h2
 ·simpa using hN
 ·simp only at h2 ⊢;omega
end Go.W.T
