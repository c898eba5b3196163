/- Texts of mine, one behind the other; nothing is assumed. -/
import Derived.Test.YtbfcgbhhgnnglaaGreatDoorRows
import Derived.Test.YtbfcgbhhgnnglaaGreatDoorB12
import Derived.WalkKit
import Derived.ProofKit
import Derived.OpenShut
import Derived.Lay
import Derived.Lib.LaidTab
import Derived.Lib.LaidU8
import Derived.Stop.LaidErr
import Derived.Shelf.Vars
import Derived.LaidOnce
import Derived.SevenTiedAt
set_option linter.unusedSimpArgs false
set_option linter.unusedVariables false
set_option maxRecDepth 100000
namespace Go.Proofs.YtbfcgbhhgnnglaaGreatDoor
open Go.ChangeShapes Go.WideShapes Go.ChangeAt Go.RowKit Go.Lib
theorem own:ownKnob Tryz.prog.godebug=none:=by kernel_rfl
theorem CP{w:World}(h:w.ShapedOpen Tryz.prog)(g:Nat)(hg:g<Tryz.prog.globals.size){zero:Array Value}{t:TypeId}(h0:((begin Tryz.prog (λ_ _=>0) default).world.heap[g]?).bind Obj.row?=some (zero,t)):∃cs,w.heap[g]?=some (.cells cs t):=by
 obtain⟨cs,hh,_⟩:=h.1 g zero t hg h0;exact⟨cs,hh⟩
theorem TM{H:Type}:(Rows.laid_unicode_properties:DataW H)=tabData .u8 propertiesTab:=by kernel_rfl
theorem Zc{H:Type}:(Rows.laid_internal_strconv_uint64pow10:DataW H)=tabData .u64 pow10Tab:=by kernel_rfl
theorem gl_of{w:World}(hs:w.ShapedOpen Tryz.prog){a b:String×DataW Unit}{d e:DataW Unit}{r:List (String×DataW Unit)}
  (h:laidMet Tryz.prog (a::b::("unicode.properties",Rows.laid_unicode_properties)::("unicode.Letter",d)::("unicode.Digit",e)::("strconv.ErrSyntax",Rows.laid_strconv_ErrSyntax)::("strconv.ErrRange",Rows.laid_strconv_ErrRange)::("internal/strconv.uint64pow10",Rows.laid_internal_strconv_uint64pow10)::r) w):Go.W.T.Gl w:=by
 have h1:=h.tail.tail;have h2:=h1.tail.tail.tail;have h3:=h2.tail;have h4:=h3.tail;rw[TM]at h1;rw[Zc]at h4;have row:=typeName_ptr_named (P:=Tryz.prog) (nm:= "errors.errorString") (tp:=452) (by kernel_rfl) (by kernel_rfl) (by decide);obtain⟨a5,s5,v5,_⟩:=laid_sentinel h2 (g:=5) (ti:=55) (tp:=452) (te:=454) (ts:=9) (by kernel_rfl) (by kernel_rfl) Tryz.underlying55 row (by kernel_rfl) (Tryz.underlying454) rfl rfl (by kernel_rfl) (by kernel_rfl) (by kernel_rfl);obtain⟨a6,s6,v6,_⟩:=laid_sentinel h3 (g:=6) (ti:=55) (tp:=452) (te:=454) (ts:=9) (by kernel_rfl) (by kernel_rfl) Tryz.underlying55 row (by kernel_rfl) (Tryz.underlying454) rfl rfl (by kernel_rfl) (by kernel_rfl) (by kernel_rfl);have cell:∀(g:Nat) (nm:String) (cs:Array Value) (t:TypeId) (zero:Array Value),g<Tryz.prog.globals.size->Tryz.prog.globalNamed nm=some g->((begin Tryz.prog (λ_ _=>0) default).world.heap[g]?).bind Obj.row?=some (zero,t)->w.var? Tryz.prog nm=some cs->w.heap[g]?=some (.cells cs t):=by
  intro g nm cs t zero hg hn h0 hv;obtain⟨cs',h'⟩:=CP hs g hg h0;unfold World.var? at hv;rw[hn,Option.bind_some,h']at hv;cases hv;exact h'
 refine⟨tabIs_of_head (g:=1) (t:=420) (e:=5) (n:=256) (by kernel_rfl) (by kernel_rfl) (by kernel_rfl) (by kernel_rfl) (by kernel_rfl) (by kernel_rfl) h1,
  tabIs_of_head (g:=9) (t:=461) (e:=393) (n:=20) (by kernel_rfl) (by kernel_rfl) (by kernel_rfl) (by kernel_rfl) (by kernel_rfl) (by kernel_rfl) h4,
  cell_of_shapedOpen_int (g:=4) (t:=3) (zero:=#[.int .i64 0]) hs (by decide +kernel) (by kernel_rfl) rfl (by kernel_rfl) (by kernel_rfl) (by kernel_rfl),
  ⟨_,_,cell 5 "strconv.ErrSyntax" _ 55 #[.nilIface] (by decide +kernel) (by kernel_rfl) (by kernel_rfl) v5⟩,⟨_,_,cell 6 "strconv.ErrRange" _ 55 #[.nilIface] (by decide +kernel) (by kernel_rfl) (by kernel_rfl) v6⟩,?_⟩
 obtain⟨o,_,hh,_⟩:=hs.2 12 (by decide +kernel) (by decide +kernel);exact Nat.le_of_lt (Array.getElem?_eq_some_iff.mp hh).1
end Go.Proofs.YtbfcgbhhgnnglaaGreatDoor
namespace Go.Proofs.YtbfcgbhhgnnglaaGreatDoor
open Go.ChangeShapes Go.WideShapes Go.ChangeAt Go.RowKit Go.Lib
theorem Gh{w w':World}(h:Go.W.Kp [] w w'):Below w.heap.size w w':=⟨h.os,h.tape,h.output,h.size,λb hb=>h.same b hb trivial⟩
def iY:List (String×DataW Unit):=[("unicode/utf8.first",Rows.laid_unicode_utf8_first),("unicode/utf8.acceptRanges",Rows.laid_unicode_utf8_acceptRanges),("unicode.properties",Rows.laid_unicode_properties),("unicode.Letter",Rows.laid_unicode_Letter),("unicode.Digit",Rows.laid_unicode_Digit),("strconv.ErrSyntax",Rows.laid_strconv_ErrSyntax),("strconv.ErrRange",Rows.laid_strconv_ErrRange),("internal/strconv.uint64pow10",Rows.laid_internal_strconv_uint64pow10),("math/bits.deBruijn32tab",Rows.laid_math_bits_deBruijn32tab),("math/bits.deBruijn64tab",Rows.laid_math_bits_deBruijn64tab)]
end Go.Proofs.YtbfcgbhhgnnglaaGreatDoor
