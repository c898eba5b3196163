/- Texts of mine, one behind the other; nothing is assumed. -/
import Derived.Test.YtaaepbggooiblaaGreatDoorB13
import Derived.Test.YtaaepbggooiblaaGreatDoorCards
set_option linter.unusedSimpArgs false
set_option linter.unusedVariables false
set_option maxRecDepth 100000
namespace Go.Proofs.YtaaepbggooiblaaGreatDoor
open Go.ChangeShapes Go.WideShapes Go.ChangeAt Go.RowKit Go.Lib
def XM:List (String×DataW Unit):=[("unicode/utf8.acceptRanges",Rows.laid_unicode_utf8_acceptRanges),("unicode.properties",Rows.laid_unicode_properties),("strconv.ErrSyntax",Rows.laid_strconv_ErrSyntax),("strconv.ErrRange",Rows.laid_strconv_ErrRange),("internal/strconv.uint64pow10",Rows.laid_internal_strconv_uint64pow10),("math/bits.deBruijn32tab",Rows.laid_math_bits_deBruijn32tab),("math/bits.deBruijn64tab",Rows.laid_math_bits_deBruijn64tab)]
def tieK:List LaidKind:=[.data,.data,.sentinel,.sentinel,.data,.data,.data]
theorem t1:Tryz.prog.worded (varsWordLater true)=true:=by kernel_rfl
theorem t2:Tryz.prog.worded (varsWordLater !true)=false:=by kernel_rfl
theorem t3:Tryz.prog.worded rootWordLater=true:=by kernel_rfl
theorem t4:XM.map (fun x=>Tryz.prog.kindOfLater x.1)=tieK.map some:=by kernel_rfl
theorem t5:(Tryz.prog.funcNamed "gosem.cut.vars").isSome=true:=by kernel_rfl
theorem t6:varsNamedLaterB Tryz.prog (varsId Tryz.prog) XM=true:=by kernel_rfl
theorem t7(os:Os)(tape:Tape):doorLeaves Tryz.prog 400 8 512 XM os tape=some (XM.filter fun x=>x.2.handleName?.isNone,(funcsListed XM).map (·.2.funcsOut)):=by kernel_rfl
theorem tie:Tryz.prog.laidByTextLater XM tieK true:=Program.laidByTextLater_by_one 400 8 512 t1 t2 t3 t4 t5 t6 t7
theorem XQ:Tryz.pinned.checked.prog.pinnedFits "unicode/utf8.first"=true:=by kernel_rfl
theorem Vz:Tryz.pinned.checked.prog.pinnedFits "unicode.Letter"=true:=by kernel_rfl
theorem XR:Tryz.pinned.checked.prog.pinnedFits "unicode.Digit"=true:=by kernel_rfl
def FW:List LaidKind:=[.pinned,.data,.data,.pinned,.pinned,.sentinel,.sentinel,.data,.data,.data]
theorem VC:Tryz.pinned.checked.prog.headLifts.contains "ownunsafe"=false:=by kernel_rfl
theorem X5:Tryz.pinned.checked.prog.listedFits jm=true:=by
 unfold Program.listedFits
 rw[VC]
 kernel_rfl
theorem X4:∀y∈jm.zip FW,y.2=.pinned→Tryz.pinned.checked.prog.pinnedFits y.1.1=true∧Pinned.datum y.1.1=some y.1.2:=by
 intro y hy e
 simp only[jm,FW,List.zip_cons_cons,List.zip_nil_right,List.mem_cons,List.mem_nil_iff,or_false]at hy
 rcases hy with rfl|rfl|rfl|rfl|rfl|rfl|rfl|rfl|rfl|rfl
 ·exact⟨XQ,by kernel_rfl⟩
 ·cases e
 ·cases e
 ·exact⟨Vz,by kernel_rfl⟩
 ·exact⟨XR,by kernel_rfl⟩
 ·cases e
 ·cases e
 ·cases e
 ·cases e
 ·cases e
def acw:Bool×String:=(true,"9d0667d18510fd88294b0b4d835499a0f2d206267e32e35a037392c240d68871")
end Go.Proofs.YtaaepbggooiblaaGreatDoor
