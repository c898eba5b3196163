/- Inside, as its card says it: for every input the law returns true, and its arguments read as they did; the listed variables start as the program lays them. No other condition. -/
import Derived.Test.YtaaepbggooiblaaGreatDoorB13
import Derived.Test.YtaaepbggooiblaaGreatDoorB31
set_option linter.unusedSimpArgs false
set_option linter.unusedVariables false
set_option maxRecDepth 100000
namespace Go.Proofs.YtaaepbggooiblaaGreatDoor.inside
open Go.ChangeShapes Go.WideShapes Go.ChangeAt Go.RowKit Go.Lib Go.ChangeMaps
theorem a0:(Rows.insideRow.wf (OpenSpec.ofChange Rows.insideSpec))=true:=by kernel_rfl
theorem a1:(laidOutB Tryz.pinned.checked.prog)=true:=by kernel_rfl
theorem a2:(mapsRowed Tryz.pinned.checked.prog)=true:=by kernel_rfl
theorem a3:(Tryz.f10.params.all (Tryz.pinned.checked.prog.readableRec ·))=true:=by kernel_rfl
theorem a4:(namedTie Tryz.pinned.checked.prog Rows.insideRow.named Rows.insideSpec.vars)=true:=by kernel_rfl
theorem a5:(Rows.insideRow.stops==[])=true:=by kernel_rfl
theorem a6:(Tryz.pinned.checked.prog.stops==[])=true:=by kernel_rfl
theorem a7:(Rows.insideRow.knobs==[])=true:=by kernel_rfl
theorem a8:(Tryz.pinned.checked.prog.stopKnobs==[])=true:=by kernel_rfl
theorem a9:(Rows.insideRow.inPlace==Tryz.pinned.checked.prog.inPlace 10)=true:=by kernel_rfl
theorem a10:(Rows.insideRow.unfollowed==Tryz.pinned.checked.prog.unfollowed 10)=true:=by kernel_rfl
theorem a11:(Rows.insideRow.recurses==Tryz.pinned.checked.prog.recurses 10)=true:=by kernel_rfl
theorem a12:(Rows.insideRow.named==Tryz.pinned.checked.prog.varsNamed 10)=true:=by kernel_rfl
theorem a13:(Rows.insideRow.maps==(Tryz.f10.params.toList++Rows.insideSpec.plain.varTypes Tryz.pinned.checked.prog).any (Tryz.pinned.checked.prog.mapsRec ·))=true:=by kernel_rfl
theorem a14:(Rows.insideRow.ifaces==(Tryz.f10.params.toList++Rows.insideSpec.plain.varTypes Tryz.pinned.checked.prog).any (Tryz.pinned.checked.prog.ifacesRec ·))=true:=by kernel_rfl
theorem a15:(Rows.insideRow.mapsOut==Tryz.pinned.checked.prog.mapsAmong Tryz.f10.resultTypes.toList)=true:=by kernel_rfl
theorem a16:(Rows.insideRow.loops==(Tryz.f10.params.toList++Rows.insideSpec.plain.varTypes Tryz.pinned.checked.prog).any (Tryz.pinned.checked.prog.loopsFrom ·))=true:=by kernel_rfl
theorem a17:(Rows.insideRow.wideKeys==(Tryz.f10.params.toList++Rows.insideSpec.plain.varTypes Tryz.pinned.checked.prog++Tryz.f10.resultTypes.toList).any (Tryz.pinned.checked.prog.wideKeysFrom ·))=true:=by kernel_rfl
theorem a18:(Rows.insideSpec.vars.all (Tryz.pinned.checked.prog.varReadable ·))=true:=by kernel_rfl
theorem a19:(Tryz.f10.resultTypes.all (fun t=>Tryz.pinned.checked.prog.readableRec t&&decide (t<Tryz.pinned.checked.prog.types.size)))=true:=by kernel_rfl
theorem a20:(Rows.insideRow.ifacesOut==Tryz.f10.resultTypes.toList.any (Tryz.pinned.checked.prog.ifacesRec ·))=true:=by kernel_rfl
theorem a21:(Rows.insideRow.loopsOut==Tryz.f10.resultTypes.toList.any (Tryz.pinned.checked.prog.loopsFrom ·))=true:=by kernel_rfl
theorem a22:(Rows.insideRow.plainKeys==Tryz.pinned.checked.prog.plainKeys)=true:=by kernel_rfl
theorem a23:(Rows.insideRow.shortTexts.isNone)=true:=by kernel_rfl
theorem a24:(Tryz.pinned.checked.prog.stopsHeard)=true:=by kernel_rfl
theorem a25:(Tryz.pinned.checked.prog.mayEnter)=true:=by kernel_rfl
theorem a26:(Rows.insideRow.lifted==Tryz.pinned.checked.prog.liftsFinal)=true:=by kernel_rfl
theorem a27:(Tryz.pinned.checked.prog.make==some Rows.insideRow.make)=true:=by kernel_rfl
theorem a28:(Rows.insideRow.kinds==(if Rows.insideRow.domain.isEmpty then[]else Tryz.f10.params.toList.map fun t=>match Tryz.pinned.checked.prog.underlying t with|some (.int k)=>some k|_=>none))=true:=by kernel_rfl
theorem a29:(Rows.insideRow.pinned==Rows.insideRow.pinnedBy)=true:=by kernel_rfl
theorem a30:(Rows.insideRow.veiled==(Tryz.f10.params.toList++Rows.insideSpec.plain.varTypes Tryz.pinned.checked.prog++Tryz.f10.resultTypes.toList).any (Tryz.pinned.checked.prog.veiledRec ·))=true:=by kernel_rfl
theorem a31:(Rows.insideRow.veiledFits Tryz.pinned.checked.prog Tryz.f10.params.toList (Tryz.f10.params.toList++Rows.insideSpec.plain.varTypes Tryz.pinned.checked.prog++Tryz.f10.resultTypes.toList))=true:=by kernel_rfl
theorem closed:joinedFacts Tryz.pinned.checked.prog 10 Tryz.f10 Rows.insideSpec Rows.insideRow=true:=by
 unfold joinedFacts
 rw[a0,a1,a2,a3,a4,a5,a6,a7,a8,a9,a10,a11,a12,a13,a14,a15,a16,a17,a18,a19,a20,a21,a22,a23,a24,a25,a26,a27,a29,a30,a31]
 kernel_rfl
theorem inst:Tryz.f10.isInstance Tryz.pinned.checked.prog Rows.insideRow.origin Rows.insideRow.targs:=of_decide_eq_true (by kernel_rfl)
theorem wrapper:Tryz.f10.isWrapper Tryz.pinned.checked.prog Rows.insideRow.wrapper Rows.insideRow.mainSum:=by unfold Func.isWrapper;first|(rw[if_pos (by decide +kernel)];kernel_rfl)|(rw[if_neg (by decide +kernel)];exact⟨rfl,rfl⟩)
theorem named:Tryz.pinned.checked.prog.funcNamed Rows.insideRow.func=some 10:=by kernel_rfl
theorem lifted(os:Os)(started:os.Started)(H:Type)(enc:TypeId×Value→H):
  ReturnsInHanded {} Tryz.checked os 10 .any (fun w args=>(Rows.insideSpec.pre enc Tryz.prog Tryz.f10 [] false w args∧laidMetH Tryz.prog gG w)∧sizedMet enc Tryz.prog Tryz.f10 (OpenSpec.ofChange Rows.insideSpec) false w args)
   (Rows.insideSpec.post enc Tryz.prog Tryz.f10 false true false false):=by
 refine wrap (C:=Tryz.checked) (X:=fun w _=>laidMetH Tryz.prog gG w) (fun _ _ _ hh h=>h.of_heap hh) own started (by kernel_rfl) Tryz.func10
  (ChangeSpec.witness_shaped (enc:=enc) (C:=Tryz.checked) (os:=os) (X:=fun w _=>laidMetH Tryz.prog gG w) false (World.laidAll Tryz.prog os gG) #[.int .i64 0,.string ⟨#[]⟩,.int .i64 0] 8 (World.laidAll_os _ _ _)
   (PE os _) (by kernel_rfl) (by kernel_rfl) (by kernel_rfl) (Uj os _)) ?_
 intro W base args ds gs before hval0 hW hL hsh
 have hval:∀(j:Nat) t v,Tryz.f10.params[j]?=some t→args[j]?=some v→Value.okWide Tryz.prog W .any base t v:=hval0
 have hW':=hW
 obtain⟨p,q,hA0,hV,rfl,_,_⟩:=hW
 have hA:DataW.TrodAll enc Tryz.prog W 0 (fun _=>true) true Tryz.f10.params.toList args.toList ds p:=hA0
 rw[Tryz.params10]at hA hval
 obtain⟨v0,v1,v2,d0,d1,d2,p0,p1,p2,rfl,rfl,rfl,h0,h1,h2⟩:=trodAll_three hA
 obtain⟨rfl,rfl⟩:=trodVars_none hV
 obtain⟨c0,rfl,rfl,rfl,wc0⟩:=open_int Tryz.underlying3 (hval 0 3 v0 rfl rfl) h0
 have hc0 : -9223372036854775808≤c0∧c0≤9223372036854775807:=by simpa [Lit.wf,IntKind.min,IntKind.max,IntKind.signed,IntKind.bits] using wc0
 obtain⟨s1,rfl,rfl,rfl,hs1⟩:=open_string Tryz.underlying9 (hval 1 9 v1 rfl rfl) h1
 obtain⟨c2,rfl,rfl,rfl,wc2⟩:=open_int Tryz.underlying3 (hval 2 3 v2 rfl rfl) h2
 have hc2 : -9223372036854775808≤c2∧c2≤9223372036854775807:=by simpa [Lit.wf,IntKind.min,IntKind.max,IntKind.signed,IntKind.bits] using wc2
 simp only[List.append_nil]at hW'
 have hwalk:=Go.W.T.Tv (Ws hsh hL) c0 hc0 s1.data.toList c2 hc2
 rw[show Go.W.κs s1.data.toList=.string s1 from congrArg Value.string (Go.W.Xp s1)]at hwalk
 refine hwalk.mono fun e W' h=>?_
 obtain⟨rfl,hk⟩:=h
 exact⟨_,rfl,_,_,_,[],[],[],hW',trodAll_mk1 (shut_bool Tryz.underlying4 _),trodAll_mk3 (shut_int Tryz.underlying3 wc0) (shut_string Tryz.underlying9 hs1) (shut_int Tryz.underlying3 wc2),rfl,(NS hk).frame _,fun h=>by cases h⟩
theorem over:Rows.InsideSaid:=
 OpenClaim.holds_of_wide 10 Tryz.f10 rfl rfl rfl rfl rfl rfl rfl ⟨rfl,rfl,rfl,rfl,rfl⟩ rfl rfl rfl rfl rfl named Tryz.func10 closed inst wrapper (fun os started H enc _=>lifted os started H enc)
theorem row_tie:Rows.insideRow.laidByTextAt .later Tryz.pinned Be true:=
 OpenClaim.laidByTextAt_pinned rfl rfl tie rfl rfl rfl rfl RX RY
theorem proved:Rows.InsideCardSaid:=
 Claim7.holds_tied_plain_at .later [] Be true Xn true over (fun _ h=>by cases h) (by kernel_rfl) (fun _ h=>by cases h) row_tie rfl ⟨rfl,rfl⟩ (by kernel_rfl) rfl
  (fun f fn hf hfn=>by
   obtain rfl:f=10:=Option.some.inj (hf.symm.trans named)
   obtain rfl:fn=Tryz.f10:=Option.some.inj (hfn.symm.trans Tryz.func10)
   exact⟨by kernel_rfl,fun j t ht=>by
    rw[Tryz.params10]at ht
    have hm:t∈[3,9,3]:=by simpa using Array.mem_of_getElem? ht
    have hall:([3,9,3].all fun u=>!Tryz.prog.wantsStandIn u)=true:=by kernel_rfl
    exact(show Tryz.prog.wantsStandIn t=false by simpa using List.all_eq_true.1 hall t hm)⟩)
  (by kernel_rfl)
#print axioms proved
end Go.Proofs.YtaaepbggooiblaaGreatDoor.inside
