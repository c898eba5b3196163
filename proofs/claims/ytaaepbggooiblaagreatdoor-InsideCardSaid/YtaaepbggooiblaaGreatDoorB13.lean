/- Texts of mine, one behind the other; nothing is assumed. -/
import Derived.Test.YtaaepbggooiblaaGreatDoorB12
import Derived.Test.YtaaepbggooiblaaGreatDoorCards
set_option linter.unusedSimpArgs false
set_option linter.unusedVariables false
set_option maxRecDepth 100000
namespace Go.Proofs.YtaaepbggooiblaaGreatDoor
open Go.ChangeShapes Go.WideShapes Go.ChangeAt Go.RowKit Go.Lib
def Ry:List (String×DataW Unit):=[("unicode/utf8.acceptRanges",Rows.laid_unicode_utf8_acceptRanges),("unicode.properties",Rows.laid_unicode_properties),("strconv.ErrSyntax",Rows.laid_strconv_ErrSyntax),("strconv.ErrRange",Rows.laid_strconv_ErrRange),("internal/strconv.uint64pow10",Rows.laid_internal_strconv_uint64pow10),("math/bits.deBruijn32tab",Rows.laid_math_bits_deBruijn32tab),("math/bits.deBruijn64tab",Rows.laid_math_bits_deBruijn64tab)]
def tieK:List LaidKind:=[.data,.data,.sentinel,.sentinel,.data,.data,.data]
theorem t1:Tryz.prog.worded (varsWordLater true)=true:=by kernel_rfl
theorem t2:Tryz.prog.worded (varsWordLater !true)=false:=by kernel_rfl
theorem t3:Tryz.prog.worded rootWordLater=true:=by kernel_rfl
theorem t4:Ry.map (fun x=>Tryz.prog.kindOfLater x.1)=tieK.map some:=by kernel_rfl
theorem t5:(Tryz.prog.funcNamed "gosem.cut.vars").isSome=true:=by kernel_rfl
theorem t6:varsNamedLaterB Tryz.prog (varsId Tryz.prog) Ry=true:=by kernel_rfl
theorem t7(os:Os)(tape:Tape):doorLeaves Tryz.prog 400 8 512 Ry os tape=some (Ry.filter fun x=>x.2.handleName?.isNone,(funcsListed Ry).map (·.2.funcsOut)):=by kernel_rfl
theorem tie:Tryz.prog.laidByTextLater Ry tieK true:=Program.laidByTextLater_by_one 400 8 512 t1 t2 t3 t4 t5 t6 t7
theorem RG:Tryz.pinned.checked.prog.pinnedFits "unicode/utf8.first"=true:=by kernel_rfl
theorem Pg:Tryz.pinned.checked.prog.pinnedFits "unicode.Letter"=true:=by kernel_rfl
theorem RH:Tryz.pinned.checked.prog.pinnedFits "unicode.Digit"=true:=by kernel_rfl
def Be:List LaidKind:=[.pinned,.data,.data,.pinned,.pinned,.sentinel,.sentinel,.data,.data,.data]
theorem Pj:Tryz.pinned.checked.prog.headLifts.contains "ownunsafe"=false:=by kernel_rfl
theorem RY:Tryz.pinned.checked.prog.listedFits gG=true:=by
 unfold Program.listedFits
 rw[Pj]
 kernel_rfl
theorem RX:∀y∈gG.zip Be,y.2=.pinned→Tryz.pinned.checked.prog.pinnedFits y.1.1=true∧Pinned.datum y.1.1=some y.1.2:=by
 intro y hy e
 simp only[gG,Be,List.zip_cons_cons,List.zip_nil_right,List.mem_cons,List.mem_nil_iff,or_false]at hy
 rcases hy with rfl|rfl|rfl|rfl|rfl|rfl|rfl|rfl|rfl|rfl
 ·exact⟨RG,by kernel_rfl⟩
 ·cases e
 ·cases e
 ·exact⟨Pg,by kernel_rfl⟩
 ·exact⟨RH,by kernel_rfl⟩
 ·cases e
 ·cases e
 ·cases e
 ·cases e
 ·cases e
def Xn:Bool×String:=(true,"9d0667d18510fd88294b0b4d835499a0f2d206267e32e35a037392c240d68871")
end Go.Proofs.YtaaepbggooiblaaGreatDoor
