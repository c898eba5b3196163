/- Texts of mine, one behind the other; nothing is assumed. -/
import Derived.Test.YtaaepbggooiblaaGreatDoorRows
import Derived.Test.YtaaepbggooiblaaGreatDoorB11
import Derived.WalkKit
import Derived.ProofKit
import Derived.OpenShut
import Derived.Lay
import Derived.Lib.LaidTab
import Derived.Lib.LaidU8
import Derived.Stop.LaidErr
import Derived.Shelf.Vars
import Derived.LaidOnce
import Derived.SevenTiedAt
set_option linter.unusedSimpArgs false
set_option linter.unusedVariables false
set_option maxRecDepth 100000
namespace Go.Proofs.YtaaepbggooiblaaGreatDoor
open Go.ChangeShapes Go.WideShapes Go.ChangeAt Go.RowKit Go.Lib
theorem own:ownKnob Tryz.prog.godebug=none:=by kernel_rfl
theorem Ky{w:World}(h:w.ShapedOpen Tryz.prog)(g:Nat)(hg:g<Tryz.prog.globals.size){zero:Array Value}{t:TypeId}(h0:((begin Tryz.prog (fun _ _=>0) default).world.heap[g]?).bind Obj.row?=some (zero,t)):∃cs,w.heap[g]?=some (.cells cs t):=by
 obtain⟨cs,hh,_⟩:=h.1 g zero t hg h0
 exact⟨cs,hh⟩
theorem O8{H:Type}:(Rows.laid_unicode_properties:DataW H)=tabData .u8 propertiesTab:=by kernel_rfl
theorem TT{H:Type}:(Rows.laid_internal_strconv_uint64pow10:DataW H)=tabData .u64 pow10Tab:=by kernel_rfl
theorem gl_of{w:World}(hs:w.ShapedOpen Tryz.prog){a b:String×DataW Unit}{d e:DataW Unit}{r:List (String×DataW Unit)}
  (h:laidMet Tryz.prog (a::b::("unicode.properties",Rows.laid_unicode_properties)::("unicode.Letter",d)::("unicode.Digit",e)::("strconv.ErrSyntax",Rows.laid_strconv_ErrSyntax)::("strconv.ErrRange",Rows.laid_strconv_ErrRange)::("internal/strconv.uint64pow10",Rows.laid_internal_strconv_uint64pow10)::r) w):Go.W.T.Gl w:=by
 have h1:=h.tail.tail
 have h2:=h1.tail.tail.tail
 have h3:=h2.tail
 have h4:=h3.tail
 rw[O8]at h1
 rw[TT]at h4
 have row:=typeName_ptr_named (P:=Tryz.prog) (nm:="errors.errorString") (tp:=459) (by kernel_rfl) (by kernel_rfl) (by decide)
 obtain⟨a5,s5,v5,_⟩:=laid_sentinel h2 (g:=5) (ti:=24) (tp:=459) (te:=461) (ts:=9) (by kernel_rfl) (by kernel_rfl) Tryz.underlying24 row (by kernel_rfl) (Tryz.underlying461) rfl rfl (by kernel_rfl) (by kernel_rfl) (by kernel_rfl)
 obtain⟨a6,s6,v6,_⟩:=laid_sentinel h3 (g:=6) (ti:=24) (tp:=459) (te:=461) (ts:=9) (by kernel_rfl) (by kernel_rfl) Tryz.underlying24 row (by kernel_rfl) (Tryz.underlying461) rfl rfl (by kernel_rfl) (by kernel_rfl) (by kernel_rfl)
 have cell:∀(g:Nat) (nm:String) (cs:Array Value) (t:TypeId) (zero:Array Value),g<Tryz.prog.globals.size→Tryz.prog.globalNamed nm=some g→((begin Tryz.prog (fun _ _=>0) default).world.heap[g]?).bind Obj.row?=some (zero,t)→w.var? Tryz.prog nm=some cs→w.heap[g]?=some (.cells cs t):=by
  intro g nm cs t zero hg hn h0 hv
  obtain⟨cs',h'⟩:=Ky hs g hg h0
  unfold World.var? at hv
  rw[hn,Option.bind_some,h']at hv
  cases hv
  exact h'
 refine⟨tabIs_of_head (g:=1) (t:=384) (e:=5) (n:=256) (by kernel_rfl) (by kernel_rfl) (by kernel_rfl) (by kernel_rfl) (by kernel_rfl) (by kernel_rfl) h1,
  tabIs_of_head (g:=9) (t:=470) (e:=347) (n:=20) (by kernel_rfl) (by kernel_rfl) (by kernel_rfl) (by kernel_rfl) (by kernel_rfl) (by kernel_rfl) h4,
  cell_of_shapedOpen_int (g:=4) (t:=3) (zero:=#[.int .i64 0]) hs (by decide +kernel) (by kernel_rfl) rfl (by kernel_rfl) (by kernel_rfl) (by kernel_rfl),
  ⟨_,_,cell 5 "strconv.ErrSyntax" _ 24 #[.nilIface] (by decide +kernel) (by kernel_rfl) (by kernel_rfl) v5⟩,⟨_,_,cell 6 "strconv.ErrRange" _ 24 #[.nilIface] (by decide +kernel) (by kernel_rfl) (by kernel_rfl) v6⟩,?_⟩
 obtain⟨o,_,hh,_⟩:=hs.2 12 (by decide +kernel) (by decide +kernel)
 exact Nat.le_of_lt (Array.getElem?_eq_some_iff.mp hh).1
end Go.Proofs.YtaaepbggooiblaaGreatDoor
namespace Go.Proofs.YtaaepbggooiblaaGreatDoor
open Go.ChangeShapes Go.WideShapes Go.ChangeAt Go.RowKit Go.Lib
theorem wrap{H:Type}{enc:TypeId×Value→H}{a:Assume}{C:Checked}{os:Os}{f:FuncId}{fn:Func}{s:ChangeSpec}{conds:List PathCond}{apart fresh handsOn again:Bool}{X:World→Array Value→Prop}
  (hX:∀(w w':World) (args:Array Value),w.heap=w'.heap→X w args→X w' args)
  (hown:ownKnob C.prog.godebug=none) (started:os.Started) (noInit:C.prog.inits.idxOf? f=none) (hfn:C.prog.funcs[f]?=some fn)
  (witness:∃(w:World) (tape:Tape) (i:Input),w.os=os∧(w.forCall tape i).Shaped C.prog∧i.vars=[]∧Input.okWide C.prog (w.forCall tape i) .any w.heap.size f i ∧
   ((s.pre enc C.prog fn conds apart (w.forCall tape i).memory i.args∧X (w.forCall tape i).memory i.args)∧sizedMet enc C.prog fn (OpenSpec.ofChange s) apart (w.forCall tape i).memory i.args)∧a.holds C.prog (lone (Frame.enter C.prog f i.args .normal) [] (w.forCall tape i)))
  (walk:∀(W:World) (base:Nat) (args:Array Value) (ds gs:List (DataW H)) (before:List MemPlace),(∀(j:Nat) t v,fn.params[j]?=some t→args[j]?=some v→Value.okWide C.prog W .any base t v) →
   DataW.Whole enc C.prog fn.params.toList s.vars apart W args.toList ds gs before→X W args→W.ShapedOpen C.prog→Calls C.prog f args W fun e W'=>∃v,e=.returned v∧s.post enc C.prog fn apart fresh handsOn again W args v W'):
  ReturnsInHanded a C os f .any (fun w args=>(s.pre enc C.prog fn conds apart w args∧X w args)∧sizedMet enc C.prog fn (OpenSpec.ofChange s) apart w args) (s.post enc C.prog fn apart fresh handsOn again):=by
 refine returnsInHanded_of_calls hown started noInit witness fun w tape i _ hsh _ hok hpre _=>?_
 obtain⟨_,_,_,g,hg,_,_,_,_,hv⟩:=hok
 obtain rfl:g=fn:=Option.some.inj (hg.symm.trans hfn)
 obtain⟨⟨⟨ds,gs,before,hw,_⟩,hx⟩,_⟩:=hpre
 refine(walk _ _ _ ds gs before hv (DataW.Whole.of_heap (w':=w.forCall tape i) (by rfl) hw) (hX _ _ _ (by rfl) hx) hsh).mono fun e W' h=>?_
 obtain⟨v,rfl,hp⟩:=h
 exact ChangeSpec.post_blind hp
theorem NS{w w':World}(h:Go.W.Kp [] w w'):Below w.heap.size w w':=⟨h.os,h.tape,h.output,h.size,fun b hb=>h.same b hb trivial⟩
def gG:List (String×DataW Unit):=[("unicode/utf8.first",Rows.laid_unicode_utf8_first),("unicode/utf8.acceptRanges",Rows.laid_unicode_utf8_acceptRanges),("unicode.properties",Rows.laid_unicode_properties),("unicode.Letter",Rows.laid_unicode_Letter),("unicode.Digit",Rows.laid_unicode_Digit),("strconv.ErrSyntax",Rows.laid_strconv_ErrSyntax),("strconv.ErrRange",Rows.laid_strconv_ErrRange),("internal/strconv.uint64pow10",Rows.laid_internal_strconv_uint64pow10),("math/bits.deBruijn32tab",Rows.laid_math_bits_deBruijn32tab),("math/bits.deBruijn64tab",Rows.laid_math_bits_deBruijn64tab)]
theorem Io(w:World):laidMetH Tryz.prog gG w=laidMet Tryz.prog gG w:=MakeChecks.laidMetH_plain _ _ _ (by kernel_rfl)
theorem Ws{w:World}(hs:w.ShapedOpen Tryz.prog)(h:laidMetH Tryz.prog gG w):Go.W.T.Gl w:=by
 rw[Io]at h
 exact gl_of hs h
theorem PE(os:Os)(args:Array Value):((World.laidAll Tryz.prog os gG).forCall (fun _ _=>0) ⟨#[],args,[]⟩).Shaped Tryz.prog:=World.shaped_of_ZipB (by kernel_rfl) (by kernel_rfl)
theorem Uj(os:Os)(args:Array Value):laidMetH Tryz.prog gG ((World.laidAll Tryz.prog os gG).forCall (fun _ _=>0) ⟨#[],args,[]⟩).memory:=by
 rw[Io]
 exact laidMet_laidAll _ (by kernel_rfl) (by kernel_rfl)
end Go.Proofs.YtaaepbggooiblaaGreatDoor
