/- Texts of mine, one behind the other; nothing is assumed. -/
import Derived.Test.YtbfcgbhhgnnglaaGreatDoorB13
import Derived.Test.YtbfcgbhhgnnglaaGreatDoorCards
set_option linter.unusedSimpArgs false
set_option linter.unusedVariables false
set_option maxRecDepth 100000
namespace Go.Proofs.YtbfcgbhhgnnglaaGreatDoor
open Go.ChangeShapes Go.WideShapes Go.ChangeAt Go.RowKit Go.Lib
theorem t1:Tryz.prog.worded (varsWordLater true)=true:=by kernel_rfl
theorem t2:Tryz.prog.worded (varsWordLater !true)=false:=by kernel_rfl
theorem t3:Tryz.prog.worded rootWordLater=true:=by kernel_rfl
theorem t5:(Tryz.prog.funcNamed "gosem.cut.vars").isSome=true:=by kernel_rfl
theorem Xb:Tryz.pinned.checked.prog.pinnedFits "unicode/utf8.first"=true:=by kernel_rfl
theorem TP:Tryz.pinned.checked.prog.pinnedFits "unicode.Letter"=true:=by kernel_rfl
theorem Xc:Tryz.pinned.checked.prog.pinnedFits "unicode.Digit"=true:=by kernel_rfl
def zZ:List LaidKind:=[.pinned,.data,.data,.pinned,.pinned,.sentinel,.sentinel,.data,.data,.data]
theorem TQ:Tryz.pinned.checked.prog.headLifts.contains "ownunsafe"=false:=by kernel_rfl
theorem Xj:∀y∈iY.zip zZ,y.2=.pinned->Tryz.pinned.checked.prog.pinnedFits y.1.1=true/\Pinned.datum y.1.1=some y.1.2:=by
 intro y hy e;simp only[iY,zZ,List.zip_cons_cons,List.zip_nil_right,List.mem_cons,List.mem_nil_iff,or_false]at hy;rcases hy with rfl|rfl|rfl|rfl|rfl|rfl|rfl|rfl|rfl|rfl
 .exact⟨Xb,by kernel_rfl⟩
 .cases e
 .cases e
 .exact⟨TP,by kernel_rfl⟩
 .exact⟨Xc,by kernel_rfl⟩
 .cases e
 .cases e
 .cases e
 .cases e
 .cases e
end Go.Proofs.YtbfcgbhhgnnglaaGreatDoor
