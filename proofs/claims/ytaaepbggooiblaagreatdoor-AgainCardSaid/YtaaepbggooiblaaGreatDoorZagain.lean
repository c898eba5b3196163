/- Again, as its card says it: for every input the law returns true, and its arguments read as they did; the listed variables start as the program lays them. No other condition. -/
import Derived.Test.YtaaepbggooiblaaGreatDoorB13
import Derived.Test.YtaaepbggooiblaaGreatDoorB29
set_option linter.unusedSimpArgs false
set_option linter.unusedVariables false
set_option maxRecDepth 100000
namespace Go.Proofs.YtaaepbggooiblaaGreatDoor.again
open Go.ChangeShapes Go.WideShapes Go.ChangeAt Go.RowKit Go.Lib Go.ChangeMaps
theorem a0:(Rows.againRow.wf (OpenSpec.ofChange Rows.againSpec))=true:=by kernel_rfl
theorem a1:(laidOutB Tryz.pinned.checked.prog)=true:=by kernel_rfl
theorem a2:(mapsRowed Tryz.pinned.checked.prog)=true:=by kernel_rfl
theorem a3:(Tryz.f3.params.all (Tryz.pinned.checked.prog.readableRec ·))=true:=by kernel_rfl
theorem a4:(namedTie Tryz.pinned.checked.prog Rows.againRow.named Rows.againSpec.vars)=true:=by kernel_rfl
theorem a5:(Rows.againRow.stops==[])=true:=by kernel_rfl
theorem a6:(Tryz.pinned.checked.prog.stops==[])=true:=by kernel_rfl
theorem a7:(Rows.againRow.knobs==[])=true:=by kernel_rfl
theorem a8:(Tryz.pinned.checked.prog.stopKnobs==[])=true:=by kernel_rfl
theorem a9:(Rows.againRow.inPlace==Tryz.pinned.checked.prog.inPlace 3)=true:=by kernel_rfl
theorem a10:(Rows.againRow.unfollowed==Tryz.pinned.checked.prog.unfollowed 3)=true:=by kernel_rfl
theorem a11:(Rows.againRow.recurses==Tryz.pinned.checked.prog.recurses 3)=true:=by kernel_rfl
theorem a12:(Rows.againRow.named==Tryz.pinned.checked.prog.varsNamed 3)=true:=by kernel_rfl
theorem a13:(Rows.againRow.maps==(Tryz.f3.params.toList++Rows.againSpec.plain.varTypes Tryz.pinned.checked.prog).any (Tryz.pinned.checked.prog.mapsRec ·))=true:=by kernel_rfl
theorem a14:(Rows.againRow.ifaces==(Tryz.f3.params.toList++Rows.againSpec.plain.varTypes Tryz.pinned.checked.prog).any (Tryz.pinned.checked.prog.ifacesRec ·))=true:=by kernel_rfl
theorem a15:(Rows.againRow.mapsOut==Tryz.pinned.checked.prog.mapsAmong Tryz.f3.resultTypes.toList)=true:=by kernel_rfl
theorem a16:(Rows.againRow.loops==(Tryz.f3.params.toList++Rows.againSpec.plain.varTypes Tryz.pinned.checked.prog).any (Tryz.pinned.checked.prog.loopsFrom ·))=true:=by kernel_rfl
theorem a17:(Rows.againRow.wideKeys==(Tryz.f3.params.toList++Rows.againSpec.plain.varTypes Tryz.pinned.checked.prog++Tryz.f3.resultTypes.toList).any (Tryz.pinned.checked.prog.wideKeysFrom ·))=true:=by kernel_rfl
theorem a18:(Rows.againSpec.vars.all (Tryz.pinned.checked.prog.varReadable ·))=true:=by kernel_rfl
theorem a19:(Tryz.f3.resultTypes.all (fun t=>Tryz.pinned.checked.prog.readableRec t&&decide (t<Tryz.pinned.checked.prog.types.size)))=true:=by kernel_rfl
theorem a20:(Rows.againRow.ifacesOut==Tryz.f3.resultTypes.toList.any (Tryz.pinned.checked.prog.ifacesRec ·))=true:=by kernel_rfl
theorem a21:(Rows.againRow.loopsOut==Tryz.f3.resultTypes.toList.any (Tryz.pinned.checked.prog.loopsFrom ·))=true:=by kernel_rfl
theorem a22:(Rows.againRow.plainKeys==Tryz.pinned.checked.prog.plainKeys)=true:=by kernel_rfl
theorem a23:(Rows.againRow.shortTexts.isNone)=true:=by kernel_rfl
theorem a24:(Tryz.pinned.checked.prog.stopsHeard)=true:=by kernel_rfl
theorem a25:(Tryz.pinned.checked.prog.mayEnter)=true:=by kernel_rfl
theorem a26:(Rows.againRow.lifted==Tryz.pinned.checked.prog.liftsFinal)=true:=by kernel_rfl
theorem a27:(Tryz.pinned.checked.prog.make==some Rows.againRow.make)=true:=by kernel_rfl
theorem a28:(Rows.againRow.kinds==(if Rows.againRow.domain.isEmpty then[]else Tryz.f3.params.toList.map fun t=>match Tryz.pinned.checked.prog.underlying t with|some (.int k)=>some k|_=>none))=true:=by kernel_rfl
theorem a29:(Rows.againRow.pinned==Rows.againRow.pinnedBy)=true:=by kernel_rfl
theorem a30:(Rows.againRow.veiled==(Tryz.f3.params.toList++Rows.againSpec.plain.varTypes Tryz.pinned.checked.prog++Tryz.f3.resultTypes.toList).any (Tryz.pinned.checked.prog.veiledRec ·))=true:=by kernel_rfl
theorem a31:(Rows.againRow.veiledFits Tryz.pinned.checked.prog Tryz.f3.params.toList (Tryz.f3.params.toList++Rows.againSpec.plain.varTypes Tryz.pinned.checked.prog++Tryz.f3.resultTypes.toList))=true:=by kernel_rfl
theorem closed:joinedFacts Tryz.pinned.checked.prog 3 Tryz.f3 Rows.againSpec Rows.againRow=true:=by
 unfold joinedFacts
 rw[a0,a1,a2,a3,a4,a5,a6,a7,a8,a9,a10,a11,a12,a13,a14,a15,a16,a17,a18,a19,a20,a21,a22,a23,a24,a25,a26,a27,a29,a30,a31]
 kernel_rfl
theorem inst:Tryz.f3.isInstance Tryz.pinned.checked.prog Rows.againRow.origin Rows.againRow.targs:=of_decide_eq_true (by kernel_rfl)
theorem wrapper:Tryz.f3.isWrapper Tryz.pinned.checked.prog Rows.againRow.wrapper Rows.againRow.mainSum:=by unfold Func.isWrapper;first|(rw[if_pos (by decide +kernel)];kernel_rfl)|(rw[if_neg (by decide +kernel)];exact⟨rfl,rfl⟩)
theorem named:Tryz.pinned.checked.prog.funcNamed Rows.againRow.func=some 3:=by kernel_rfl
theorem lifted(os:Os)(started:os.Started)(H:Type)(enc:TypeId×Value→H):
  ReturnsInHanded {} Tryz.checked os 3 .any (fun w args=>(Rows.againSpec.pre enc Tryz.prog Tryz.f3 [] false w args∧laidMetH Tryz.prog je w)∧sizedMet enc Tryz.prog Tryz.f3 (OpenSpec.ofChange Rows.againSpec) false w args)
   (Rows.againSpec.post enc Tryz.prog Tryz.f3 false true false false):=by
 refine wrap (C:=Tryz.checked) (X:=fun w _=>laidMetH Tryz.prog je w) (fun _ _ _ hh h=>h.of_heap hh) own started (by kernel_rfl) Tryz.func3
  (ChangeSpec.witness_shaped (enc:=enc) (C:=Tryz.checked) (os:=os) (X:=fun w _=>laidMetH Tryz.prog je w) false (World.laidAll Tryz.prog os je) #[.string ⟨#[]⟩] 8 (World.laidAll_os _ _ _)
   (RY os _) (by kernel_rfl) (by kernel_rfl) (by kernel_rfl) (WB os _)) ?_
 intro W base args ds gs before hval0 hW hL hsh
 have hval:∀(j:Nat) t v,Tryz.f3.params[j]?=some t→args[j]?=some v→Value.okWide Tryz.prog W .any base t v:=hval0
 have hW':=hW
 obtain⟨p,q,hA0,hV,rfl,_,_⟩:=hW
 have hA:DataW.TrodAll enc Tryz.prog W 0 (fun _=>true) true Tryz.f3.params.toList args.toList ds p:=hA0
 rw[Tryz.params3]at hA hval
 obtain⟨v0,d0,rfl,rfl,h0⟩:=trodAll_one hA
 obtain⟨rfl,rfl⟩:=trodVars_none hV
 obtain⟨s0,rfl,rfl,rfl,hs0⟩:=open_string Tryz.underlying9 (hval 0 9 v0 rfl rfl) h0
 simp only[List.append_nil]at hW'
 have hwalk:=Go.W.T.XU (YG hsh hL) s0.data.toList
 rw[show Go.W.κs s0.data.toList=.string s0 from congrArg Value.string (Go.W.Ze s0)]at hwalk
 refine hwalk.mono fun e W' h=>?_
 obtain⟨rfl,hk⟩:=h
 exact⟨_,rfl,_,_,_,[],[],[],hW',trodAll_mk1 (shut_bool Tryz.underlying4 _),trodAll_mk1 (shut_string Tryz.underlying9 hs0),rfl,(Qu hk).frame _,fun h=>by cases h⟩
theorem over:Rows.AgainSaid:=
 OpenClaim.holds_of_wide 3 Tryz.f3 rfl rfl rfl rfl rfl rfl rfl ⟨rfl,rfl,rfl,rfl,rfl⟩ rfl rfl rfl rfl rfl named Tryz.func3 closed inst wrapper (fun os started H enc _=>lifted os started H enc)
theorem row_tie:Rows.againRow.laidByTextAt .later Tryz.pinned CP true:=
 OpenClaim.laidByTextAt_pinned rfl rfl tie rfl rfl rfl rfl UQ UR
theorem proved:Rows.AgainCardSaid:=
 Claim7.holds_tied_plain_at .later [] CP true Zc true over (fun _ h=>by cases h) (by kernel_rfl) (fun _ h=>by cases h) row_tie rfl ⟨rfl,rfl⟩ (by kernel_rfl) rfl
  (fun f fn hf hfn=>by
   obtain rfl:f=3:=Option.some.inj (hf.symm.trans named)
   obtain rfl:fn=Tryz.f3:=Option.some.inj (hfn.symm.trans Tryz.func3)
   exact⟨by kernel_rfl,fun j t ht=>by
    rw[Tryz.params3]at ht
    have hm:t∈[9]:=by simpa using Array.mem_of_getElem? ht
    have hall:([9].all fun u=>!Tryz.prog.wantsStandIn u)=true:=by kernel_rfl
    exact(show Tryz.prog.wantsStandIn t=false by simpa using List.all_eq_true.1 hall t hm)⟩)
  (by kernel_rfl)
#print axioms proved
end Go.Proofs.YtaaepbggooiblaaGreatDoor.again
