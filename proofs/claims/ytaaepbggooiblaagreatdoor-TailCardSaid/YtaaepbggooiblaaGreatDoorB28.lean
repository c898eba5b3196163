/- Texts of mine, one behind the other; nothing is assumed. -/
import Derived.Test.YtaaepbggooiblaaGreatDoorB14
import Derived.Test.YtaaepbggooiblaaGreatDoorB27
import Derived.LaidHandle
import Derived.LaidSub
set_option linter.unusedSimpArgs false
set_option linter.unusedVariables false
set_option maxRecDepth 100000
namespace Go.Proofs.YtaaepbggooiblaaGreatDoor
open Go.ChangeShapes Go.WideShapes Go.ChangeAt Go.RowKit Go.Lib
def tailLaid : List (String × DataW Unit) := keepLaid ++ [("errors.errorType",Rows.laid_errors_errorType)]
def tailKinds : List LaidKind := keepKinds ++ [.handle]
theorem tail_none : (tailLaid.filter fun x => x.2.handleName?.isNone) = keepLaid := by kernel_rfl
theorem tail_some : (tailLaid.filter fun x => x.2.handleName?.isSome) = [("errors.errorType",Rows.laid_errors_errorType)] := by kernel_rfl
theorem tail_funcs : (Rows.laid_errors_errorType : DataW Unit).funcsIn? = none := by kernel_rfl
theorem tail_name : (Rows.laid_errors_errorType : DataW Unit).handleName? = some [101,114,114,111,114] := by kernel_rfl
theorem tail_rt : (Tryz.prog.cutTypes.find? (·.1 == "internal/reflectlite.rtype")).map (·.2) = some 259 := by kernel_rfl
theorem tail_size : Tryz.prog.types.size = 522 := by kernel_rfl
theorem tail_one : ((List.range 522).filter fun t => Tryz.prog.rowNamed t [101,114,114,111,114]) = [24] := by kernel_rfl
theorem tail_handle : typeHandle Tryz.prog 24 = .pointer (some ⟨12,24,none⟩) := by kernel_rfl
theorem tail_glob : Tryz.prog.globalNamed "errors.errorType" = some 0 := by kernel_rfl
theorem tail_begin : ((begin Tryz.prog (fun _ _ => 0) default).world.heap[0]?).bind Obj.row? = some (#[.nilIface],173) := by kernel_rfl
theorem tail_gl {w : World} (hs : w.ShapedOpen Tryz.prog) (h : laidMetH Tryz.prog tailLaid w) : Go.W.T.Gl w ∧ Go.W.T.ErrT w := by
 obtain ⟨h1,h2⟩ := laidMetH_iff.1 h
 rw [tail_none] at h1
 rw [tail_some] at h2
 refine ⟨gl_of hs h1,?_⟩
 have h3 := h2 _ (List.mem_singleton.2 rfl)
 simp only [tail_funcs] at h3
 obtain ⟨name,u,ty,e1,e2,e3,e4,e5⟩ := h3
 obtain rfl := Option.some.inj (tail_name.symm.trans e1)
 obtain rfl := Option.some.inj (tail_rt.symm.trans e2)
 have hm : ty ∈ (List.range 522).filter fun t => Tryz.prog.rowNamed t [101,114,114,111,114] := List.mem_filter.2 ⟨List.mem_range.2 (by rw [← tail_size]; exact e3),e4⟩
 rw [tail_one] at hm
 obtain rfl := List.mem_singleton.1 hm
 rw [tail_handle] at e5
 obtain ⟨cs,hh⟩ := shaped_cells hs 0 (by decide +kernel) tail_begin
 refine ⟨173,?_⟩
 unfold World.var? at e5
 rw [tail_glob,Option.bind_some,hh] at e5
 cases e5
 exact hh
noncomputable def tailStart (os : Os) : World :=
 let w0 := World.holding Tryz.prog os ⟨#[],#[],[]⟩
 {w0 with heap := w0.heap.modify 0 fun
   | .cells _ t frozen => .cells #[.iface 259 (.agg #[.pointer (some ⟨12,24,none⟩)])] t frozen
   | o => o }
noncomputable def tailWorld (os : Os) : World := (tailStart os).layVars Tryz.prog keepLaid
theorem tail_os (os : Os) : (tailWorld os).os = os := World.layVars_os _ _ _
theorem tail_fits (os : Os) : (tailStart os).layFits Tryz.prog keepLaid [] = true := by kernel_rfl
theorem tail_ifaces (os : Os) : (tailStart os).layIfaces Tryz.prog keepLaid (tailWorld os) = true := by kernel_rfl
theorem tail_data (os : Os) : laidMet Tryz.prog keepLaid (tailWorld os) := by
 have e1 : (keepLaid.filter fun x => (keepLaid.map (·.1)).contains x.1) = keepLaid := List.filter_eq_self.2 fun x hx => List.contains_iff_mem.2 (List.mem_map.2 ⟨x,hx,rfl⟩)
 have e2 : (keepLaid.filter fun x => !(keepLaid.map (·.1)).contains x.1) = [] := List.filter_eq_nil_iff.2 fun x hx => by rw [List.contains_iff_mem.2 (List.mem_map.2 ⟨x,hx,rfl⟩)]; simp
 exact laidMet_layVars (w0 := tailStart os) (keepLaid.map (·.1)) [] (by rw [e1]; rfl) (by rw [e1]; exact tail_fits os) (by rw [e1]; exact tail_ifaces os) (by rw [e2]; exact LaidIn.none)
theorem tail_shape (os : Os) (args : Array Value) : ((tailWorld os).forCall (fun _ _ => 0) ⟨#[],args,[]⟩).Shaped Tryz.prog := World.shaped_of_ZipB (by kernel_rfl) (by kernel_rfl)
theorem tail_at (os : Os) (args : Array Value) : ([("errors.errorType",(Rows.laid_errors_errorType : DataW Unit))].all (handleAtB Tryz.prog ((tailWorld os).forCall (fun _ _ => 0) ⟨#[],args,[]⟩).memory)) = true := by kernel_rfl
theorem tail_met (os : Os) (args : Array Value) : laidMetH Tryz.prog tailLaid ((tailWorld os).forCall (fun _ _ => 0) ⟨#[],args,[]⟩).memory := by
 refine laidMetH_of_parts ?_ ?_
 ·rw [tail_none]
  exact (tail_data os).of_heap (by simp [World.memory,World.forCall,Input.heap])
 ·rw [tail_some]
  exact tail_at os args
def tieH : List (String × DataW Unit) := [("unicode/utf8.acceptRanges",Rows.laid_unicode_utf8_acceptRanges),("unicode.properties",Rows.laid_unicode_properties),("strconv.ErrSyntax",Rows.laid_strconv_ErrSyntax),("strconv.ErrRange",Rows.laid_strconv_ErrRange),("internal/strconv.uint64pow10",Rows.laid_internal_strconv_uint64pow10),("math/bits.deBruijn32tab",Rows.laid_math_bits_deBruijn32tab),("math/bits.deBruijn64tab",Rows.laid_math_bits_deBruijn64tab),("errors.errorType",Rows.laid_errors_errorType)]
def tieHK : List LaidKind := [.data,.data,.sentinel,.sentinel,.data,.data,.data,.handle]
theorem u4 : tieH.map (fun x => Tryz.prog.kindOfLater x.1) = tieHK.map some := by kernel_rfl
theorem u6 : varsNamedLaterB Tryz.prog (varsId Tryz.prog) tieH = true := by kernel_rfl
theorem u7 (os : Os) (tape : Tape) : doorLeaves Tryz.prog 400 8 512 tieH os tape = some (tieH.filter fun x => x.2.handleName?.isNone,(funcsListed tieH).map (·.2.funcsOut)) := by kernel_rfl
theorem tieTail : Tryz.prog.laidByTextLater tieH tieHK true := Program.laidByTextLater_by_one 400 8 512 t1 t2 t3 u4 t5 u6 u7
theorem tail_listed : Tryz.pinned.checked.prog.listedFits tailLaid = true := by
 unfold Program.listedFits
 rw [own_unsafe]
 kernel_rfl
theorem tail_pins : ∀ y ∈ tailLaid.zip tailKinds,y.2 = .pinned → Tryz.pinned.checked.prog.pinnedFits y.1.1 = true ∧ Pinned.datum y.1.1 = some y.1.2 := by
 intro y hy e
 have : tailLaid.zip tailKinds = keepLaid.zip keepKinds ++ [(("errors.errorType",Rows.laid_errors_errorType),.handle)] := rfl
 rw [this] at hy
 rcases List.mem_append.mp hy with hy | hy
 ·exact keep_pins y hy e
 ·rw [List.mem_singleton] at hy; subst hy; cases e
end Go.Proofs.YtaaepbggooiblaaGreatDoor
