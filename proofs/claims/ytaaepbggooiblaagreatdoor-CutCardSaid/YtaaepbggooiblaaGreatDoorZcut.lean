/- Cut, as its card says it: for every input the law returns true, and its arguments read as they did; the listed variables start as the program lays them. No other condition. -/
import Derived.Test.YtaaepbggooiblaaGreatDoorB14
import Derived.Test.YtaaepbggooiblaaGreatDoorB32
set_option linter.unusedSimpArgs false
set_option linter.unusedVariables false
set_option maxRecDepth 100000
namespace Go.Proofs.YtaaepbggooiblaaGreatDoor.cut
open Go.ChangeShapes Go.WideShapes Go.ChangeAt Go.RowKit Go.Lib Go.ChangeMaps
theorem a0:(Rows.cutRow.wf (OpenSpec.ofChange Rows.cutSpec))=true:=by kernel_rfl
theorem a1:(laidOutB Tryz.pinned.checked.prog)=true:=by kernel_rfl
theorem a2:(mapsRowed Tryz.pinned.checked.prog)=true:=by kernel_rfl
theorem a3:(Tryz.f12.params.all (Tryz.pinned.checked.prog.readableRec ·))=true:=by kernel_rfl
theorem a4:(namedTie Tryz.pinned.checked.prog Rows.cutRow.named Rows.cutSpec.vars)=true:=by kernel_rfl
theorem a5:(Rows.cutRow.stops==[])=true:=by kernel_rfl
theorem a6:(Tryz.pinned.checked.prog.stops==[])=true:=by kernel_rfl
theorem a7:(Rows.cutRow.knobs==[])=true:=by kernel_rfl
theorem a8:(Tryz.pinned.checked.prog.stopKnobs==[])=true:=by kernel_rfl
theorem a9:(Rows.cutRow.inPlace==Tryz.pinned.checked.prog.inPlace 12)=true:=by kernel_rfl
theorem a10:(Rows.cutRow.unfollowed==Tryz.pinned.checked.prog.unfollowed 12)=true:=by kernel_rfl
theorem a11:(Rows.cutRow.recurses==Tryz.pinned.checked.prog.recurses 12)=true:=by kernel_rfl
theorem a12:(Rows.cutRow.named==Tryz.pinned.checked.prog.varsNamed 12)=true:=by kernel_rfl
theorem a13:(Rows.cutRow.maps==(Tryz.f12.params.toList++Rows.cutSpec.plain.varTypes Tryz.pinned.checked.prog).any (Tryz.pinned.checked.prog.mapsRec ·))=true:=by kernel_rfl
theorem a14:(Rows.cutRow.ifaces==(Tryz.f12.params.toList++Rows.cutSpec.plain.varTypes Tryz.pinned.checked.prog).any (Tryz.pinned.checked.prog.ifacesRec ·))=true:=by kernel_rfl
theorem a15:(Rows.cutRow.mapsOut==Tryz.pinned.checked.prog.mapsAmong Tryz.f12.resultTypes.toList)=true:=by kernel_rfl
theorem a16:(Rows.cutRow.loops==(Tryz.f12.params.toList++Rows.cutSpec.plain.varTypes Tryz.pinned.checked.prog).any (Tryz.pinned.checked.prog.loopsFrom ·))=true:=by kernel_rfl
theorem a17:(Rows.cutRow.wideKeys==(Tryz.f12.params.toList++Rows.cutSpec.plain.varTypes Tryz.pinned.checked.prog++Tryz.f12.resultTypes.toList).any (Tryz.pinned.checked.prog.wideKeysFrom ·))=true:=by kernel_rfl
theorem a18:(Rows.cutSpec.vars.all (Tryz.pinned.checked.prog.varReadable ·))=true:=by kernel_rfl
theorem a19:(Tryz.f12.resultTypes.all (fun t=>Tryz.pinned.checked.prog.readableRec t&&decide (t<Tryz.pinned.checked.prog.types.size)))=true:=by kernel_rfl
theorem a20:(Rows.cutRow.ifacesOut==Tryz.f12.resultTypes.toList.any (Tryz.pinned.checked.prog.ifacesRec ·))=true:=by kernel_rfl
theorem a21:(Rows.cutRow.loopsOut==Tryz.f12.resultTypes.toList.any (Tryz.pinned.checked.prog.loopsFrom ·))=true:=by kernel_rfl
theorem a22:(Rows.cutRow.plainKeys==Tryz.pinned.checked.prog.plainKeys)=true:=by kernel_rfl
theorem a23:(Rows.cutRow.shortTexts.isNone)=true:=by kernel_rfl
theorem a24:(Tryz.pinned.checked.prog.stopsHeard)=true:=by kernel_rfl
theorem a25:(Tryz.pinned.checked.prog.mayEnter)=true:=by kernel_rfl
theorem a26:(Rows.cutRow.lifted==Tryz.pinned.checked.prog.liftsFinal)=true:=by kernel_rfl
theorem a27:(Tryz.pinned.checked.prog.make==some Rows.cutRow.make)=true:=by kernel_rfl
theorem a28:(Rows.cutRow.kinds==(if Rows.cutRow.domain.isEmpty then[]else Tryz.f12.params.toList.map fun t=>match Tryz.pinned.checked.prog.underlying t with|some (.int k)=>some k|_=>none))=true:=by kernel_rfl
theorem a29:(Rows.cutRow.pinned==Rows.cutRow.pinnedBy)=true:=by kernel_rfl
theorem a30:(Rows.cutRow.veiled==(Tryz.f12.params.toList++Rows.cutSpec.plain.varTypes Tryz.pinned.checked.prog++Tryz.f12.resultTypes.toList).any (Tryz.pinned.checked.prog.veiledRec ·))=true:=by kernel_rfl
theorem a31:(Rows.cutRow.veiledFits Tryz.pinned.checked.prog Tryz.f12.params.toList (Tryz.f12.params.toList++Rows.cutSpec.plain.varTypes Tryz.pinned.checked.prog++Tryz.f12.resultTypes.toList))=true:=by kernel_rfl
theorem closed:joinedFacts Tryz.pinned.checked.prog 12 Tryz.f12 Rows.cutSpec Rows.cutRow=true:=by
 unfold joinedFacts
 rw[a0,a1,a2,a3,a4,a5,a6,a7,a8,a9,a10,a11,a12,a13,a14,a15,a16,a17,a18,a19,a20,a21,a22,a23,a24,a25,a26,a27,a29,a30,a31]
 kernel_rfl
theorem inst:Tryz.f12.isInstance Tryz.pinned.checked.prog Rows.cutRow.origin Rows.cutRow.targs:=of_decide_eq_true (by kernel_rfl)
theorem wrapper:Tryz.f12.isWrapper Tryz.pinned.checked.prog Rows.cutRow.wrapper Rows.cutRow.mainSum:=by unfold Func.isWrapper;first|(rw[if_pos (by decide +kernel)];kernel_rfl)|(rw[if_neg (by decide +kernel)];exact⟨rfl,rfl⟩)
theorem named:Tryz.pinned.checked.prog.funcNamed Rows.cutRow.func=some 12:=by kernel_rfl
theorem lifted(os:Os)(started:os.Started)(H:Type)(enc:TypeId×Value→H):
  ReturnsInHanded {} Tryz.checked os 12 .any (fun w args=>(Rows.cutSpec.pre enc Tryz.prog Tryz.f12 [] false w args∧laidMetH Tryz.prog jm w)∧sizedMet enc Tryz.prog Tryz.f12 (OpenSpec.ofChange Rows.cutSpec) false w args)
   (Rows.cutSpec.post enc Tryz.prog Tryz.f12 false true false false):=by
 refine wrap (C:=Tryz.checked) (X:=fun w _=>laidMetH Tryz.prog jm w) (fun _ _ _ hh h=>h.of_heap hh) own started (by kernel_rfl) Tryz.func12
  (ChangeSpec.witness_shaped (enc:=enc) (C:=Tryz.checked) (os:=os) (X:=fun w _=>laidMetH Tryz.prog jm w) false (World.laidAll Tryz.prog os jm) #[.string ⟨#[]⟩,.int .i64 0,.int .i64 0] 8 (World.laidAll_os _ _ _)
   (VL os _) (by kernel_rfl) (by kernel_rfl) (by kernel_rfl) (Zu os _)) ?_
 intro W base args ds gs before hval0 hW hL hsh
 have hval:∀(j:Nat) t v,Tryz.f12.params[j]?=some t→args[j]?=some v→Value.okWide Tryz.prog W .any base t v:=hval0
 have hW':=hW
 obtain⟨p,q,hA0,hV,rfl,_,_⟩:=hW
 have hA:DataW.TrodAll enc Tryz.prog W 0 (fun _=>true) true Tryz.f12.params.toList args.toList ds p:=hA0
 rw[Tryz.params12]at hA hval
 obtain⟨v0,v1,v2,d0,d1,d2,p0,p1,p2,rfl,rfl,rfl,h0,h1,h2⟩:=trodAll_three hA
 obtain⟨rfl,rfl⟩:=trodVars_none hV
 obtain⟨s0,rfl,rfl,rfl,hs0⟩:=open_string Tryz.underlying9 (hval 0 9 v0 rfl rfl) h0
 obtain⟨c1,rfl,rfl,rfl,wc1⟩:=open_int Tryz.underlying3 (hval 1 3 v1 rfl rfl) h1
 have hc1 : -9223372036854775808≤c1∧c1≤9223372036854775807:=by simpa [Lit.wf,IntKind.min,IntKind.max,IntKind.signed,IntKind.bits] using wc1
 obtain⟨c2,rfl,rfl,rfl,wc2⟩:=open_int Tryz.underlying3 (hval 2 3 v2 rfl rfl) h2
 have hc2 : -9223372036854775808≤c2∧c2≤9223372036854775807:=by simpa [Lit.wf,IntKind.min,IntKind.max,IntKind.signed,IntKind.bits] using wc2
 simp only[List.append_nil]at hW'
 have hwalk:=Go.W.T.w_Cut (abJ hsh hL) s0.data.toList c1 hc1 c2 hc2
 rw[show Go.W.κs s0.data.toList=.string s0 from congrArg Value.string (Go.W.acy s0)]at hwalk
 refine hwalk.mono fun e W' h=>?_
 obtain⟨rfl,hk⟩:=h
 exact⟨_,rfl,_,_,_,[],[],[],hW',trodAll_mk1 (shut_bool Tryz.underlying4 _),trodAll_mk3 (shut_string Tryz.underlying9 hs0) (shut_int Tryz.underlying3 wc1) (shut_int Tryz.underlying3 wc2),rfl,(Ur hk).frame _,fun h=>by cases h⟩
theorem over:Rows.CutSaid:=
 OpenClaim.holds_of_wide 12 Tryz.f12 rfl rfl rfl rfl rfl rfl rfl ⟨rfl,rfl,rfl,rfl,rfl⟩ rfl rfl rfl rfl rfl named Tryz.func12 closed inst wrapper (fun os started H enc _=>lifted os started H enc)
theorem row_tie:Rows.cutRow.laidByTextAt .later Tryz.pinned FW true:=
 OpenClaim.laidByTextAt_pinned rfl rfl tie rfl rfl rfl rfl X4 X5
theorem proved:Rows.CutCardSaid:=
 Claim7.holds_tied_plain_at .later [] FW true acw true over (fun _ h=>by cases h) (by kernel_rfl) (fun _ h=>by cases h) row_tie rfl ⟨rfl,rfl⟩ (by kernel_rfl) rfl
  (fun f fn hf hfn=>by
   obtain rfl:f=12:=Option.some.inj (hf.symm.trans named)
   obtain rfl:fn=Tryz.f12:=Option.some.inj (hfn.symm.trans Tryz.func12)
   exact⟨by kernel_rfl,fun j t ht=>by
    rw[Tryz.params12]at ht
    have hm:t∈[9,3,3]:=by simpa using Array.mem_of_getElem? ht
    have hall:([9,3,3].all fun u=>!Tryz.prog.wantsStandIn u)=true:=by kernel_rfl
    exact(show Tryz.prog.wantsStandIn t=false by simpa using List.all_eq_true.1 hall t hm)⟩)
  (by kernel_rfl)
#print axioms proved
end Go.Proofs.YtaaepbggooiblaaGreatDoor.cut
