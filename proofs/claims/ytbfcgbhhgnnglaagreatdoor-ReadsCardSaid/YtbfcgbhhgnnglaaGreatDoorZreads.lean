/- Reads, as its card says it: for every input the law returns true, and its arguments read as they did; the listed variables start as the program lays them. No other condition. -/
import Derived.Test.YtbfcgbhhgnnglaaGreatDoorB42
import Derived.Test.YtbfcgbhhgnnglaaGreatDoorB43
import Derived.Test.YtbfcgbhhgnnglaaGreatDoorB41
set_option linter.unusedSimpArgs false
set_option linter.unusedVariables false
set_option maxRecDepth 100000
namespace Go.Proofs.YtbfcgbhhgnnglaaGreatDoor.reads
open Go.ChangeShapes Go.WideShapes Go.ChangeAt Go.RowKit Go.Lib Go.ChangeMaps
def OL:Bool×String:=(true,"f43e7573e687bc53a3a721246addb05927c8ce4f992c33e7671ca342fbd560b9")
theorem a0:(Rows.readsRow.wf (OpenSpec.ofChange Rows.readsSpec))=true:=by kernel_rfl
theorem a1:(laidOutB Tryz.pinned.checked.prog)=true:=by kernel_rfl
theorem a2:(mapsRowed Tryz.pinned.checked.prog)=true:=by kernel_rfl
theorem a3:(Tryz.f3.params.all (Tryz.pinned.checked.prog.readableRec ·))=true:=by kernel_rfl
theorem a4:(namedTie Tryz.pinned.checked.prog Rows.readsRow.named Rows.readsSpec.vars)=true:=by kernel_rfl
theorem a5:(Rows.readsRow.stops==[])=true:=by kernel_rfl
theorem a6:(Tryz.pinned.checked.prog.stops==[])=true:=by kernel_rfl
theorem a7:(Rows.readsRow.knobs==[])=true:=by kernel_rfl
theorem a8:(Tryz.pinned.checked.prog.stopKnobs==[])=true:=by kernel_rfl
theorem a9:(Rows.readsRow.inPlace==Tryz.pinned.checked.prog.inPlace 3)=true:=by kernel_rfl
theorem a10:(Rows.readsRow.unfollowed==Tryz.pinned.checked.prog.unfollowed 3)=true:=by kernel_rfl
theorem a11:(Rows.readsRow.recurses==Tryz.pinned.checked.prog.recurses 3)=true:=by kernel_rfl
theorem a12:(Rows.readsRow.named==Tryz.pinned.checked.prog.varsNamed 3)=true:=by kernel_rfl
theorem a13:(Rows.readsRow.maps==(Tryz.f3.params.toList++Rows.readsSpec.plain.varTypes Tryz.pinned.checked.prog).any (Tryz.pinned.checked.prog.mapsRec ·))=true:=by kernel_rfl
theorem a14:(Rows.readsRow.ifaces==(Tryz.f3.params.toList++Rows.readsSpec.plain.varTypes Tryz.pinned.checked.prog).any (Tryz.pinned.checked.prog.ifacesRec ·))=true:=by kernel_rfl
theorem a15:(Rows.readsRow.mapsOut==Tryz.pinned.checked.prog.mapsAmong Tryz.f3.resultTypes.toList)=true:=by kernel_rfl
theorem a16:(Rows.readsRow.loops==(Tryz.f3.params.toList++Rows.readsSpec.plain.varTypes Tryz.pinned.checked.prog).any (Tryz.pinned.checked.prog.loopsFrom ·))=true:=by kernel_rfl
theorem a17:(Rows.readsRow.wideKeys==(Tryz.f3.params.toList++Rows.readsSpec.plain.varTypes Tryz.pinned.checked.prog++Tryz.f3.resultTypes.toList).any (Tryz.pinned.checked.prog.wideKeysFrom ·))=true:=by kernel_rfl
theorem a18:(Rows.readsSpec.vars.all (Tryz.pinned.checked.prog.varReadable ·))=true:=by kernel_rfl
theorem a19:(Tryz.f3.resultTypes.all (λt=>Tryz.pinned.checked.prog.readableRec t&&decide (t<Tryz.pinned.checked.prog.types.size)))=true:=by kernel_rfl
theorem a20:(Rows.readsRow.ifacesOut==Tryz.f3.resultTypes.toList.any (Tryz.pinned.checked.prog.ifacesRec ·))=true:=by kernel_rfl
theorem a21:(Rows.readsRow.loopsOut==Tryz.f3.resultTypes.toList.any (Tryz.pinned.checked.prog.loopsFrom ·))=true:=by kernel_rfl
theorem a22:(Rows.readsRow.plainKeys==Tryz.pinned.checked.prog.plainKeys)=true:=by kernel_rfl
theorem a23:(Rows.readsRow.shortTexts.isNone)=true:=by kernel_rfl
theorem a24:(Tryz.pinned.checked.prog.stopsHeard)=true:=by kernel_rfl
theorem a25:(Tryz.pinned.checked.prog.mayEnter)=true:=by kernel_rfl
theorem a26:(Rows.readsRow.lifted==Tryz.pinned.checked.prog.liftsFinal)=true:=by kernel_rfl
theorem a27:(Tryz.pinned.checked.prog.make==some Rows.readsRow.make)=true:=by kernel_rfl
theorem a28:(Rows.readsRow.kinds==(if Rows.readsRow.domain.isEmpty then[]else Tryz.f3.params.toList.map λt=>match Tryz.pinned.checked.prog.underlying t with|some (.int k)=>some k|_=>none))=true:=by kernel_rfl
theorem a29:(Rows.readsRow.pinned==Rows.readsRow.pinnedBy)=true:=by kernel_rfl
theorem a30:(Rows.readsRow.veiled==(Tryz.f3.params.toList++Rows.readsSpec.plain.varTypes Tryz.pinned.checked.prog++Tryz.f3.resultTypes.toList).any (Tryz.pinned.checked.prog.veiledRec ·))=true:=by kernel_rfl
theorem a31:(Rows.readsRow.veiledFits Tryz.pinned.checked.prog Tryz.f3.params.toList (Tryz.f3.params.toList++Rows.readsSpec.plain.varTypes Tryz.pinned.checked.prog++Tryz.f3.resultTypes.toList))=true:=by kernel_rfl
theorem closed:joinedFacts Tryz.pinned.checked.prog 3 Tryz.f3 Rows.readsSpec Rows.readsRow=true:=by
 unfold joinedFacts;rw[a0,a1,a2,a3,a4,a5,a6,a7,a8,a9,a10,a11,a12,a13,a14,a15,a16,a17,a18,a19,a20,a21,a22,a23,a24,a25,a26,a27,a29,a30,a31]
 kernel_rfl
theorem inst:Tryz.f3.isInstance Tryz.pinned.checked.prog Rows.readsRow.origin Rows.readsRow.targs:=of_decide_eq_true (by kernel_rfl)
theorem wrapper:Tryz.f3.isWrapper Tryz.pinned.checked.prog Rows.readsRow.wrapper Rows.readsRow.mainSum:=by unfold Func.isWrapper;first|(rw[if_pos (by decide +kernel)];kernel_rfl)|(rw[if_neg (by decide +kernel)];exact⟨rfl,rfl⟩)
theorem named:Tryz.pinned.checked.prog.funcNamed Rows.readsRow.func=some 3:=by kernel_rfl
theorem lifted(os:Os)(started:os.Started)(H:Type)(enc:TypeId×Value->H):
  ReturnsInHanded {} Tryz.checked os 3 .any (λw args=>(Rows.readsSpec.pre enc Tryz.prog Tryz.f3 [] false w args/\laidMetH Tryz.prog mW w)/\sizedMet enc Tryz.prog Tryz.f3 (OpenSpec.ofChange Rows.readsSpec) false w args)
   (Rows.readsSpec.post enc Tryz.prog Tryz.f3 false true false false):=by
 refine wrapW (C:=Tryz.checked) (X:=λw _=>laidMetH Tryz.prog mW w) (λ_ _ _ hh h=>h.of_heap hh) own started (by kernel_rfl) Tryz.func3
  (ChangeSpec.witness_shaped (enc:=enc) (C:=Tryz.checked) (os:=os) (X:=λw _=>laidMetH Tryz.prog mW w) false (pV os) #[.slice none 0 0] 8 (abf _)
   (Tq os _) (by kernel_rfl) (by kernel_rfl) (by kernel_rfl) (Yz os _)) ?_
 intro W base args ds gs before hval0 hW hwt hL hsh;have hval:∀(j:Nat) t v,Tryz.f3.params[j]?=some t->args[j]?=some v->Value.okWide Tryz.prog W .any base t v:=hval0;have hW':=hW;obtain⟨p,q,hA0,hV,rfl,_,_⟩:=hW;have hA:DataW.TrodAll enc Tryz.prog W 0 (λ_=>true) true Tryz.f3.params.toList args.toList ds p:=hA0;rw[Tryz.params3]at hA hval;obtain⟨v0,d0,rfl,rfl,h0⟩:=trodAll_one hA;obtain⟨rfl,rfl⟩:=trodVars_none hV;simp only[List.append_nil]at hW';have hlt:∀x∈p,x.block<W.heap.size:=λx hx=>by simpa using hW'.lt x (by simpa using hx)
 have hw1:(d0.weights Tryz.prog 22).all (·<=reachBytes)=true:=by
  rw[List.all_eq_true]at hwt ⊢;intro x hx;refine hwt x ?_;show x∈DataW.weightsEach Tryz.prog (Tryz.f3.params.toList++_) ([d0]++_);rw[Tryz.params3];exact List.mem_append_left _ hx
 obtain⟨l,hl,hnb,hno,hlb⟩:=Zf h0 (hval 0 22 v0 rfl rfl) hw1;have hwalk:=Go.W.T.aa0 (UO hsh hL).1 (UO hsh hL).2 hl hlb hnb hno;refine hwalk.mono λe W' h=>?_;obtain⟨rfl,hk⟩:=h;exact⟨_,rfl,_,_,_,[],_,[],hW',trodAll_mk1 (shut_bool Tryz.underlying4 _),trodAll_mk1 (Below.trod a1 (by kernel_rfl) (of_decide_eq_true (by kernel_rfl)) h0 (Gh hk) hlt),rfl,(Gh hk).frame _,λh=>by cases h⟩
theorem p1:Rows.readsRow.wfByText (OpenSpec.ofChange Rows.readsSpec)=true:=by kernel_rfl
theorem p2:Tryz.pinned.checked.prog.mainIs=some (OL.1,OL.2.toList):=by kernel_rfl
theorem p3:true=Tryz.pinned.checked.prog.looks []:=by kernel_rfl
theorem p4:([22].all λu=>!Tryz.prog.wantsStandIn u)=true:=by kernel_rfl
theorem p5:false=Rows.readsRow.goesBy Tryz.pinned.checked.prog:=by kernel_rfl
theorem over:Rows.ReadsSaid:=
 OpenClaim.holds_of_wide 3 Tryz.f3 rfl rfl rfl rfl rfl rfl rfl ⟨rfl,rfl,rfl,rfl,rfl⟩ rfl rfl rfl rfl rfl named Tryz.func3 closed inst wrapper (λos started H enc _=>lifted os started H enc)
theorem row_tie:Rows.readsRow.laidByTextAt .later Tryz.pinned zH true:=
 OpenClaim.laidByTextAt_pinned rfl rfl abd rfl rfl rfl rfl WA Pz
theorem proved:Rows.ReadsCardSaid:=
 Claim7.holds_tied_plain_at .later [] zH true OL true over (λ_ h=>by cases h) p1 (λ_ h=>by cases h) row_tie rfl ⟨rfl,rfl⟩ p2 rfl
  (λf fn hf hfn=>by
   obtain rfl:f=3:=Option.some.inj (hf.symm.trans named);obtain rfl:fn=Tryz.f3:=Option.some.inj (hfn.symm.trans Tryz.func3)
   exact⟨p3,λj t ht=>by
    rw[Tryz.params3]at ht;have hm:t∈[22]:=by simpa using Array.mem_of_getElem? ht
    exact(show Tryz.prog.wantsStandIn t=false by simpa using List.all_eq_true.1 p4 t hm)⟩)
  p5
#print axioms proved
end Go.Proofs.YtbfcgbhhgnnglaaGreatDoor.reads
