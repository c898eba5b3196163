/- Tail, as its card says it: for every input the law returns true, and its arguments read as they did; the listed variables start as the program lays them. No other condition. -/
import Derived.Test.YtaaepbggooiblaaGreatDoorB28
import Derived.Test.YtaaepbggooiblaaGreatDoorB27
set_option linter.unusedSimpArgs false
set_option linter.unusedVariables false
set_option maxRecDepth 100000
namespace Go.Proofs.YtaaepbggooiblaaGreatDoor.tail
open Go.ChangeShapes Go.WideShapes Go.ChangeAt Go.RowKit Go.Lib Go.ChangeMaps
theorem a0 : (Rows.tailRow.wf (OpenSpec.ofChange Rows.tailSpec)) = true := by kernel_rfl
theorem a1 : (laidOutB Tryz.pinned.checked.prog) = true := by kernel_rfl
theorem a2 : (mapsRowed Tryz.pinned.checked.prog) = true := by kernel_rfl
theorem a3 : (Tryz.f11.params.all (Tryz.pinned.checked.prog.readableRec ·)) = true := by kernel_rfl
theorem a4 : (namedTie Tryz.pinned.checked.prog Rows.tailRow.named Rows.tailSpec.vars) = true := by kernel_rfl
theorem a5 : (Rows.tailRow.stops == []) = true := by kernel_rfl
theorem a6 : (Tryz.pinned.checked.prog.stops == []) = true := by kernel_rfl
theorem a7 : (Rows.tailRow.knobs == []) = true := by kernel_rfl
theorem a8 : (Tryz.pinned.checked.prog.stopKnobs == []) = true := by kernel_rfl
theorem a9 : (Rows.tailRow.inPlace == Tryz.pinned.checked.prog.inPlace 11) = true := by kernel_rfl
theorem a10 : (Rows.tailRow.unfollowed == Tryz.pinned.checked.prog.unfollowed 11) = true := by kernel_rfl
theorem a11 : (Rows.tailRow.recurses == Tryz.pinned.checked.prog.recurses 11) = true := by kernel_rfl
theorem a12 : (Rows.tailRow.named == Tryz.pinned.checked.prog.varsNamed 11) = true := by kernel_rfl
theorem a13 : (Rows.tailRow.maps == (Tryz.f11.params.toList ++ Rows.tailSpec.plain.varTypes Tryz.pinned.checked.prog).any (Tryz.pinned.checked.prog.mapsRec ·)) = true := by kernel_rfl
theorem a14 : (Rows.tailRow.ifaces == (Tryz.f11.params.toList ++ Rows.tailSpec.plain.varTypes Tryz.pinned.checked.prog).any (Tryz.pinned.checked.prog.ifacesRec ·)) = true := by kernel_rfl
theorem a15 : (Rows.tailRow.mapsOut == Tryz.pinned.checked.prog.mapsAmong Tryz.f11.resultTypes.toList) = true := by kernel_rfl
theorem a16 : (Rows.tailRow.loops == (Tryz.f11.params.toList ++ Rows.tailSpec.plain.varTypes Tryz.pinned.checked.prog).any (Tryz.pinned.checked.prog.loopsFrom ·)) = true := by kernel_rfl
theorem a17 : (Rows.tailRow.wideKeys == (Tryz.f11.params.toList ++ Rows.tailSpec.plain.varTypes Tryz.pinned.checked.prog ++ Tryz.f11.resultTypes.toList).any (Tryz.pinned.checked.prog.wideKeysFrom ·)) = true := by kernel_rfl
theorem a18 : (Rows.tailSpec.vars.all (Tryz.pinned.checked.prog.varReadable ·)) = true := by kernel_rfl
theorem a19 : (Tryz.f11.resultTypes.all (fun t => Tryz.pinned.checked.prog.readableRec t && decide (t < Tryz.pinned.checked.prog.types.size))) = true := by kernel_rfl
theorem a20 : (Rows.tailRow.ifacesOut == Tryz.f11.resultTypes.toList.any (Tryz.pinned.checked.prog.ifacesRec ·)) = true := by kernel_rfl
theorem a21 : (Rows.tailRow.loopsOut == Tryz.f11.resultTypes.toList.any (Tryz.pinned.checked.prog.loopsFrom ·)) = true := by kernel_rfl
theorem a22 : (Rows.tailRow.plainKeys == Tryz.pinned.checked.prog.plainKeys) = true := by kernel_rfl
theorem a23 : (Rows.tailRow.shortTexts.isNone) = true := by kernel_rfl
theorem a24 : (Tryz.pinned.checked.prog.stopsHeard) = true := by kernel_rfl
theorem a25 : (Tryz.pinned.checked.prog.mayEnter) = true := by kernel_rfl
theorem a26 : (Rows.tailRow.lifted == Tryz.pinned.checked.prog.liftsFinal) = true := by kernel_rfl
theorem a27 : (Tryz.pinned.checked.prog.make == some Rows.tailRow.make) = true := by kernel_rfl
theorem a28 : (Rows.tailRow.kinds == (if Rows.tailRow.domain.isEmpty then [] else Tryz.f11.params.toList.map fun t => match Tryz.pinned.checked.prog.underlying t with | some (.int k) => some k | _ => none)) = true := by kernel_rfl
theorem a29 : (Rows.tailRow.pinned == Rows.tailRow.pinnedBy) = true := by kernel_rfl
theorem a30 : (Rows.tailRow.veiled == (Tryz.f11.params.toList ++ Rows.tailSpec.plain.varTypes Tryz.pinned.checked.prog ++ Tryz.f11.resultTypes.toList).any (Tryz.pinned.checked.prog.veiledRec ·)) = true := by kernel_rfl
theorem a31 : (Rows.tailRow.veiledFits Tryz.pinned.checked.prog Tryz.f11.params.toList (Tryz.f11.params.toList ++ Rows.tailSpec.plain.varTypes Tryz.pinned.checked.prog ++ Tryz.f11.resultTypes.toList)) = true := by kernel_rfl
theorem closed : joinedFacts Tryz.pinned.checked.prog 11 Tryz.f11 Rows.tailSpec Rows.tailRow = true := by
 unfold joinedFacts
 rw [a0,a1,a2,a3,a4,a5,a6,a7,a8,a9,a10,a11,a12,a13,a14,a15,a16,a17,a18,a19,a20,a21,a22,a23,a24,a25,a26,a27,a29,a30,a31]
 kernel_rfl
theorem inst : Tryz.f11.isInstance Tryz.pinned.checked.prog Rows.tailRow.origin Rows.tailRow.targs := of_decide_eq_true (by kernel_rfl)
theorem wrapper : Tryz.f11.isWrapper Tryz.pinned.checked.prog Rows.tailRow.wrapper Rows.tailRow.mainSum := by unfold Func.isWrapper; first | (rw [if_pos (by decide +kernel)]; kernel_rfl) | (rw [if_neg (by decide +kernel)]; exact ⟨rfl,rfl⟩)
theorem named : Tryz.pinned.checked.prog.funcNamed Rows.tailRow.func = some 11 := by kernel_rfl
theorem lifted (os : Os) (started : os.Started) (H : Type) (enc : TypeId × Value → H) :
  ReturnsInHanded {} Tryz.checked os 11 .any (fun w args => (Rows.tailSpec.pre enc Tryz.prog Tryz.f11 [] false w args ∧ laidMetH Tryz.prog tailLaid w) ∧ sizedMet enc Tryz.prog Tryz.f11 (OpenSpec.ofChange Rows.tailSpec) false w args)
   (Rows.tailSpec.post enc Tryz.prog Tryz.f11 false true false false) := by
 refine wrap (C := Tryz.checked) (X := fun w _ => laidMetH Tryz.prog tailLaid w) (fun _ _ _ hh h => h.of_heap hh) own started (by kernel_rfl) Tryz.func11
  (ChangeSpec.witness_shaped (enc := enc) (C := Tryz.checked) (os := os) (X := fun w _ => laidMetH Tryz.prog tailLaid w) false (tailWorld os) #[.int .i64 0,.string ⟨#[]⟩,.string ⟨#[]⟩] 8 (tail_os _)
   (tail_shape os _) (by kernel_rfl) (by kernel_rfl) (by kernel_rfl) (tail_met os _)) ?_
 intro W base args ds gs before hval0 hW hL hsh
 have hval : ∀ (j : Nat) t v,Tryz.f11.params[j]? = some t → args[j]? = some v → Value.okWide Tryz.prog W .any base t v := hval0
 have hW' := hW
 obtain ⟨p,q,hA0,hV,rfl,_,_⟩ := hW
 have hA : DataW.TrodAll enc Tryz.prog W 0 (fun _ => true) true Tryz.f11.params.toList args.toList ds p := hA0
 rw [Tryz.params11] at hA hval
 obtain ⟨v0,v1,v2,d0,d1,d2,p0,p1,p2,rfl,rfl,rfl,h0,h1,h2⟩ := trodAll_three hA
 obtain ⟨rfl,rfl⟩ := trodVars_none hV
 obtain ⟨c0,rfl,rfl,rfl,wc0⟩ := open_int Tryz.underlying3 (hval 0 3 v0 rfl rfl) h0
 have hc0 : -9223372036854775808 ≤ c0 ∧ c0 ≤ 9223372036854775807 := by simpa [Lit.wf,IntKind.min,IntKind.max,IntKind.signed,IntKind.bits] using wc0
 obtain ⟨s1,rfl,rfl,rfl,hs1⟩ := open_string Tryz.underlying9 (hval 1 9 v1 rfl rfl) h1
 obtain ⟨s2,rfl,rfl,rfl,hs2⟩ := open_string Tryz.underlying9 (hval 2 9 v2 rfl rfl) h2
 simp only [List.append_nil] at hW'
 have hwalk := Go.W.T.w_Tail (tail_gl hsh hL).1 (tail_gl hsh hL).2 c0 hc0 s1.data.toList s2.data.toList
 rw [show Go.W.κs s1.data.toList = .string s1 from congrArg Value.string (Go.W.bs_data s1)] at hwalk
 rw [show Go.W.κs s2.data.toList = .string s2 from congrArg Value.string (Go.W.bs_data s2)] at hwalk
 refine hwalk.mono fun e W' h => ?_
 obtain ⟨rfl,hk⟩ := h
 exact ⟨_,rfl,_,_,_,[],[],[],hW',trodAll_mk1 (shut_bool Tryz.underlying4 _),trodAll_mk3 (shut_int Tryz.underlying3 wc0) (shut_string Tryz.underlying9 hs1) (shut_string Tryz.underlying9 hs2),rfl,(frame_of_kp hk).frame _,fun h => by cases h⟩
theorem over : Rows.TailSaid :=
 OpenClaim.holds_of_wide 11 Tryz.f11 rfl rfl rfl rfl rfl rfl rfl ⟨rfl,rfl,rfl,rfl,rfl⟩ rfl rfl rfl rfl rfl named Tryz.func11 closed inst wrapper (fun os started H enc _ => lifted os started H enc)
theorem row_tie : Rows.tailRow.laidByTextAt .later Tryz.pinned tailKinds true :=
 OpenClaim.laidByTextAt_pinned rfl rfl tieTail rfl rfl rfl rfl tail_pins tail_listed
theorem proved : Rows.TailCardSaid :=
 Claim7.holds_tied_plain_at .later [] tailKinds true cardSum true over (fun _ h => by cases h) (by kernel_rfl) (fun _ h => by cases h) row_tie rfl ⟨rfl,rfl⟩ (by kernel_rfl) rfl
  (fun f fn hf hfn => by
   obtain rfl : f = 11 := Option.some.inj (hf.symm.trans named)
   obtain rfl : fn = Tryz.f11 := Option.some.inj (hfn.symm.trans Tryz.func11)
   exact ⟨by kernel_rfl,fun j t ht => by
    rw [Tryz.params11] at ht
    have hm : t ∈ [3,9,9] := by simpa using Array.mem_of_getElem? ht
    have hall : ([3,9,9].all fun u => !Tryz.prog.wantsStandIn u) = true := by kernel_rfl
    exact (show Tryz.prog.wantsStandIn t = false by simpa using List.all_eq_true.1 hall t hm)⟩)
  (by kernel_rfl)
#print axioms proved
end Go.Proofs.YtaaepbggooiblaaGreatDoor.tail
