/- Texts of mine, one behind the other; nothing is assumed. -/
import Derived.Test.YtbfcgbhhgnnglaaGreatDoorB14
import Derived.Test.YtbfcgbhhgnnglaaGreatDoorB33
import Derived.LaidHandle
import Derived.LaidSub
set_option linter.unusedSimpArgs false
set_option linter.unusedVariables false
set_option maxRecDepth 100000
namespace Go.Proofs.YtbfcgbhhgnnglaaGreatDoor
open Go.ChangeShapes Go.WideShapes Go.ChangeAt Go.RowKit Go.Lib
def mW:List (String×DataW Unit):=iY++[("errors.errorType",Rows.laid_errors_errorType)]
def zH:List LaidKind:=zZ++[.handle]
theorem KQ:(mW.filter λx=>x.2.handleName?.isNone)=iY:=by kernel_rfl
theorem KO:(mW.filter λx=>x.2.handleName?.isSome)=[("errors.errorType",Rows.laid_errors_errorType)]:=by kernel_rfl
theorem Tt:(Rows.laid_errors_errorType:DataW Unit).funcsIn?=none:=by kernel_rfl
theorem WB:(Rows.laid_errors_errorType:DataW Unit).handleName?=some [101,114,114,111,114]:=by kernel_rfl
theorem abe:(Tryz.prog.cutTypes.find? (·.1== "internal/reflectlite.rtype")).map (·.2)=some 369:=by kernel_rfl
theorem tail_size:Tryz.prog.types.size=513:=by kernel_rfl
theorem Yy:((List.range 513).filter λt=>Tryz.prog.rowNamed t [101,114,114,111,114])=[55]:=by kernel_rfl
theorem PE:typeHandle Tryz.prog 55=.pointer (some ⟨12,55,none⟩):=by kernel_rfl
theorem WC:Tryz.prog.globalNamed "errors.errorType"=some 0:=by kernel_rfl
theorem Tu:((begin Tryz.prog (λ_ _=>0) default).world.heap[0]?).bind Obj.row?=some (#[.nilIface],304):=by kernel_rfl
theorem UO{w:World}(hs:w.ShapedOpen Tryz.prog)(h:laidMetH Tryz.prog mW w):Go.W.T.Gl w/\Go.W.T.JW w:=by
 obtain⟨h1,h2⟩:=laidMetH_iff.1 h;rw[KQ]at h1;rw[KO]at h2;refine⟨gl_of hs h1,?_⟩;have h3:=h2 _ (List.mem_singleton.2 rfl);simp only[Tt]at h3;obtain⟨name,u,ty,e1,e2,e3,e4,e5⟩:=h3;obtain rfl:=Option.some.inj (WB.symm.trans e1);obtain rfl:=Option.some.inj (abe.symm.trans e2);have hm:ty∈(List.range 513).filter λt=>Tryz.prog.rowNamed t [101,114,114,111,114]:=List.mem_filter.2 ⟨List.mem_range.2 (by rw[<- tail_size];exact e3),e4⟩;rw[Yy]at hm;obtain rfl:=List.mem_singleton.1 hm;rw[PE]at e5;obtain⟨cs,hh⟩:=CP hs 0 (by decide +kernel) Tu;refine⟨304,?_⟩;unfold World.var? at e5;rw[WC,Option.bind_some,hh]at e5;cases e5;exact hh
noncomputable def zG (os:Os):World:=
 let w0:=World.holding Tryz.prog os ⟨#[],#[],[]⟩
 {w0 with heap:=w0.heap.modify 0 fun
   |.cells _ t frozen=>.cells #[.iface 369 (.agg #[.pointer (some ⟨12,55,none⟩)])] t frozen
   |o=>o }
noncomputable def pV (os:Os):World:=(zG os).layVars Tryz.prog iY
theorem abf(os:Os):(pV os).os=os:=World.layVars_os _ _ _
theorem WE(os:Os):(zG os).layFits Tryz.prog iY []=true:=by kernel_rfl
theorem PD(os:Os):(zG os).layIfaces Tryz.prog iY (pV os)=true:=by kernel_rfl
theorem WG(os:Os):laidMet Tryz.prog iY (pV os):=by
 have e1:(iY.filter λx=>(iY.map (·.1)).contains x.1)=iY:=List.filter_eq_self.2 λx hx=>List.contains_iff_mem.2 (List.mem_map.2 ⟨x,hx,rfl⟩);have e2:(iY.filter λx=>!(iY.map (·.1)).contains x.1)=[]:=List.filter_eq_nil_iff.2 λx hx=>by rw[List.contains_iff_mem.2 (List.mem_map.2 ⟨x,hx,rfl⟩)];simp
 exact laidMet_layVars (w0:=zG os) (iY.map (·.1)) [] (by rw[e1];rfl) (by rw[e1];exact WE os) (by rw[e1];exact PD os) (by rw[e2];exact LaidIn.none)
theorem Tq(os:Os)(args:Array Value):((pV os).forCall (λ_ _=>0) ⟨#[],args,[]⟩).Shaped Tryz.prog:=World.shaped_of_ZipB (by kernel_rfl) (by kernel_rfl)
theorem tail_at(os:Os)(args:Array Value):([("errors.errorType",(Rows.laid_errors_errorType:DataW Unit))].all (handleAtB Tryz.prog ((pV os).forCall (λ_ _=>0) ⟨#[],args,[]⟩).memory))=true:=by kernel_rfl
theorem Yz(os:Os)(args:Array Value):laidMetH Tryz.prog mW ((pV os).forCall (λ_ _=>0) ⟨#[],args,[]⟩).memory:=by
 refine laidMetH_of_parts ?_ ?_
 .rw[KQ];exact(WG os).of_heap (by simp[World.memory,World.forCall,Input.heap])
 .rw[KO];exact tail_at os args
def Wx:List (String×DataW Unit):=[("unicode/utf8.acceptRanges",Rows.laid_unicode_utf8_acceptRanges),("unicode.properties",Rows.laid_unicode_properties),("strconv.ErrSyntax",Rows.laid_strconv_ErrSyntax),("strconv.ErrRange",Rows.laid_strconv_ErrRange),("internal/strconv.uint64pow10",Rows.laid_internal_strconv_uint64pow10),("math/bits.deBruijn32tab",Rows.laid_math_bits_deBruijn32tab),("math/bits.deBruijn64tab",Rows.laid_math_bits_deBruijn64tab),("errors.errorType",Rows.laid_errors_errorType)]
def tieHK:List LaidKind:=[.data,.data,.sentinel,.sentinel,.data,.data,.data,.handle]
theorem u4:Wx.map (λx=>Tryz.prog.kindOfLater x.1)=tieHK.map some:=by kernel_rfl
theorem u6:varsNamedLaterB Tryz.prog (varsId Tryz.prog) Wx=true:=by kernel_rfl
theorem u7(os:Os)(tape:Tape):doorLeaves Tryz.prog 400 8 512 Wx os tape=some (Wx.filter λx=>x.2.handleName?.isNone,(funcsListed Wx).map (·.2.funcsOut)):=by kernel_rfl
theorem abd:Tryz.prog.laidByTextLater Wx tieHK true:=Program.laidByTextLater_by_one 400 8 512 t1 t2 t3 u4 t5 u6 u7
theorem Pz:Tryz.pinned.checked.prog.listedFits mW=true:=by
 unfold Program.listedFits;rw[TQ]
 kernel_rfl
theorem WA:∀y∈mW.zip zH,y.2=.pinned->Tryz.pinned.checked.prog.pinnedFits y.1.1=true/\Pinned.datum y.1.1=some y.1.2:=by
 intro y hy e;have:mW.zip zH=iY.zip zZ++[(("errors.errorType",Rows.laid_errors_errorType),.handle)]:=rfl;rw[this]at hy;rcases List.mem_append.mp hy with hy|hy
 .exact Xj y hy e
 .rw[List.mem_singleton]at hy;subst hy;cases e
end Go.Proofs.YtbfcgbhhgnnglaaGreatDoor
