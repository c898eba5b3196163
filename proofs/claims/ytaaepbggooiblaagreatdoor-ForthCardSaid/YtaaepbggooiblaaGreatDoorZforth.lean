/- Forth, as its card says it: for every input the law returns true, and its arguments read as they did; the listed variables start as the program lays them. No other condition. -/
import Derived.Test.YtaaepbggooiblaaGreatDoorB14
import Derived.Test.YtaaepbggooiblaaGreatDoorB26
set_option linter.unusedSimpArgs false
set_option linter.unusedVariables false
set_option maxRecDepth 100000
namespace Go.Proofs.YtaaepbggooiblaaGreatDoor.forth
open Go.ChangeShapes Go.WideShapes Go.ChangeAt Go.RowKit Go.Lib Go.ChangeMaps
theorem a0 : (Rows.forthRow.wf (OpenSpec.ofChange Rows.forthSpec)) = true := by kernel_rfl
theorem a1 : (laidOutB Tryz.pinned.checked.prog) = true := by kernel_rfl
theorem a2 : (mapsRowed Tryz.pinned.checked.prog) = true := by kernel_rfl
theorem a3 : (Tryz.f7.params.all (Tryz.pinned.checked.prog.readableRec ·)) = true := by kernel_rfl
theorem a4 : (namedTie Tryz.pinned.checked.prog Rows.forthRow.named Rows.forthSpec.vars) = true := by kernel_rfl
theorem a5 : (Rows.forthRow.stops == []) = true := by kernel_rfl
theorem a6 : (Tryz.pinned.checked.prog.stops == []) = true := by kernel_rfl
theorem a7 : (Rows.forthRow.knobs == []) = true := by kernel_rfl
theorem a8 : (Tryz.pinned.checked.prog.stopKnobs == []) = true := by kernel_rfl
theorem a9 : (Rows.forthRow.inPlace == Tryz.pinned.checked.prog.inPlace 7) = true := by kernel_rfl
theorem a10 : (Rows.forthRow.unfollowed == Tryz.pinned.checked.prog.unfollowed 7) = true := by kernel_rfl
theorem a11 : (Rows.forthRow.recurses == Tryz.pinned.checked.prog.recurses 7) = true := by kernel_rfl
theorem a12 : (Rows.forthRow.named == Tryz.pinned.checked.prog.varsNamed 7) = true := by kernel_rfl
theorem a13 : (Rows.forthRow.maps == (Tryz.f7.params.toList ++ Rows.forthSpec.plain.varTypes Tryz.pinned.checked.prog).any (Tryz.pinned.checked.prog.mapsRec ·)) = true := by kernel_rfl
theorem a14 : (Rows.forthRow.ifaces == (Tryz.f7.params.toList ++ Rows.forthSpec.plain.varTypes Tryz.pinned.checked.prog).any (Tryz.pinned.checked.prog.ifacesRec ·)) = true := by kernel_rfl
theorem a15 : (Rows.forthRow.mapsOut == Tryz.pinned.checked.prog.mapsAmong Tryz.f7.resultTypes.toList) = true := by kernel_rfl
theorem a16 : (Rows.forthRow.loops == (Tryz.f7.params.toList ++ Rows.forthSpec.plain.varTypes Tryz.pinned.checked.prog).any (Tryz.pinned.checked.prog.loopsFrom ·)) = true := by kernel_rfl
theorem a17 : (Rows.forthRow.wideKeys == (Tryz.f7.params.toList ++ Rows.forthSpec.plain.varTypes Tryz.pinned.checked.prog ++ Tryz.f7.resultTypes.toList).any (Tryz.pinned.checked.prog.wideKeysFrom ·)) = true := by kernel_rfl
theorem a18 : (Rows.forthSpec.vars.all (Tryz.pinned.checked.prog.varReadable ·)) = true := by kernel_rfl
theorem a19 : (Tryz.f7.resultTypes.all (fun t => Tryz.pinned.checked.prog.readableRec t && decide (t < Tryz.pinned.checked.prog.types.size))) = true := by kernel_rfl
theorem a20 : (Rows.forthRow.ifacesOut == Tryz.f7.resultTypes.toList.any (Tryz.pinned.checked.prog.ifacesRec ·)) = true := by kernel_rfl
theorem a21 : (Rows.forthRow.loopsOut == Tryz.f7.resultTypes.toList.any (Tryz.pinned.checked.prog.loopsFrom ·)) = true := by kernel_rfl
theorem a22 : (Rows.forthRow.plainKeys == Tryz.pinned.checked.prog.plainKeys) = true := by kernel_rfl
theorem a23 : (Rows.forthRow.shortTexts.isNone) = true := by kernel_rfl
theorem a24 : (Tryz.pinned.checked.prog.stopsHeard) = true := by kernel_rfl
theorem a25 : (Tryz.pinned.checked.prog.mayEnter) = true := by kernel_rfl
theorem a26 : (Rows.forthRow.lifted == Tryz.pinned.checked.prog.liftsFinal) = true := by kernel_rfl
theorem a27 : (Tryz.pinned.checked.prog.make == some Rows.forthRow.make) = true := by kernel_rfl
theorem a28 : (Rows.forthRow.kinds == (if Rows.forthRow.domain.isEmpty then [] else Tryz.f7.params.toList.map fun t => match Tryz.pinned.checked.prog.underlying t with | some (.int k) => some k | _ => none)) = true := by kernel_rfl
theorem a29 : (Rows.forthRow.pinned == Rows.forthRow.pinnedBy) = true := by kernel_rfl
theorem a30 : (Rows.forthRow.veiled == (Tryz.f7.params.toList ++ Rows.forthSpec.plain.varTypes Tryz.pinned.checked.prog ++ Tryz.f7.resultTypes.toList).any (Tryz.pinned.checked.prog.veiledRec ·)) = true := by kernel_rfl
theorem a31 : (Rows.forthRow.veiledFits Tryz.pinned.checked.prog Tryz.f7.params.toList (Tryz.f7.params.toList ++ Rows.forthSpec.plain.varTypes Tryz.pinned.checked.prog ++ Tryz.f7.resultTypes.toList)) = true := by kernel_rfl
theorem closed : joinedFacts Tryz.pinned.checked.prog 7 Tryz.f7 Rows.forthSpec Rows.forthRow = true := by
 unfold joinedFacts
 rw [a0,a1,a2,a3,a4,a5,a6,a7,a8,a9,a10,a11,a12,a13,a14,a15,a16,a17,a18,a19,a20,a21,a22,a23,a24,a25,a26,a27,a29,a30,a31]
 kernel_rfl
theorem inst : Tryz.f7.isInstance Tryz.pinned.checked.prog Rows.forthRow.origin Rows.forthRow.targs := of_decide_eq_true (by kernel_rfl)
theorem wrapper : Tryz.f7.isWrapper Tryz.pinned.checked.prog Rows.forthRow.wrapper Rows.forthRow.mainSum := by unfold Func.isWrapper; first | (rw [if_pos (by decide +kernel)]; kernel_rfl) | (rw [if_neg (by decide +kernel)]; exact ⟨rfl,rfl⟩)
theorem named : Tryz.pinned.checked.prog.funcNamed Rows.forthRow.func = some 7 := by kernel_rfl
theorem lifted (os : Os) (started : os.Started) (H : Type) (enc : TypeId × Value → H) :
  ReturnsInHanded {} Tryz.checked os 7 .any (fun w args => (Rows.forthSpec.pre enc Tryz.prog Tryz.f7 [] false w args ∧ laidMetH Tryz.prog keepLaid w) ∧ sizedMet enc Tryz.prog Tryz.f7 (OpenSpec.ofChange Rows.forthSpec) false w args)
   (Rows.forthSpec.post enc Tryz.prog Tryz.f7 false true false false) := by
 refine wrap (C := Tryz.checked) (X := fun w _ => laidMetH Tryz.prog keepLaid w) (fun _ _ _ hh h => h.of_heap hh) own started (by kernel_rfl) Tryz.func7
  (ChangeSpec.witness_shaped (enc := enc) (C := Tryz.checked) (os := os) (X := fun w _ => laidMetH Tryz.prog keepLaid w) false (World.laidAll Tryz.prog os keepLaid) #[.int .i64 0,.string ⟨#[]⟩] 8 (World.laidAll_os _ _ _)
   (keep_shape os _) (by kernel_rfl) (by kernel_rfl) (by kernel_rfl) (keep_met os _)) ?_
 intro W base args ds gs before hval0 hW hL hsh
 have hval : ∀ (j : Nat) t v,Tryz.f7.params[j]? = some t → args[j]? = some v → Value.okWide Tryz.prog W .any base t v := hval0
 have hW' := hW
 obtain ⟨p,q,hA0,hV,rfl,_,_⟩ := hW
 have hA : DataW.TrodAll enc Tryz.prog W 0 (fun _ => true) true Tryz.f7.params.toList args.toList ds p := hA0
 rw [Tryz.params7] at hA hval
 obtain ⟨v0,v1,d0,d1,p0,p1,rfl,rfl,rfl,h0,h1⟩ := trodAll_two hA
 obtain ⟨rfl,rfl⟩ := trodVars_none hV
 obtain ⟨c0,rfl,rfl,rfl,wc0⟩ := open_int Tryz.underlying3 (hval 0 3 v0 rfl rfl) h0
 have hc0 : -9223372036854775808 ≤ c0 ∧ c0 ≤ 9223372036854775807 := by simpa [Lit.wf,IntKind.min,IntKind.max,IntKind.signed,IntKind.bits] using wc0
 obtain ⟨s1,rfl,rfl,rfl,hs1⟩ := open_string Tryz.underlying9 (hval 1 9 v1 rfl rfl) h1
 simp only [List.append_nil] at hW'
 have hwalk := Go.W.T.w_Forth (keep_gl hsh hL) c0 hc0 s1.data.toList
 rw [show Go.W.κs s1.data.toList = .string s1 from congrArg Value.string (Go.W.bs_data s1)] at hwalk
 refine hwalk.mono fun e W' h => ?_
 obtain ⟨rfl,hk⟩ := h
 exact ⟨_,rfl,_,_,_,[],[],[],hW',trodAll_mk1 (shut_bool Tryz.underlying4 _),trodAll_mk2 (shut_int Tryz.underlying3 wc0) (shut_string Tryz.underlying9 hs1),rfl,(frame_of_kp hk).frame _,fun h => by cases h⟩
theorem over : Rows.ForthSaid :=
 OpenClaim.holds_of_wide 7 Tryz.f7 rfl rfl rfl rfl rfl rfl rfl ⟨rfl,rfl,rfl,rfl,rfl⟩ rfl rfl rfl rfl rfl named Tryz.func7 closed inst wrapper (fun os started H enc _ => lifted os started H enc)
theorem row_tie : Rows.forthRow.laidByTextAt .later Tryz.pinned keepKinds true :=
 OpenClaim.laidByTextAt_pinned rfl rfl tie rfl rfl rfl rfl keep_pins keep_fits
theorem proved : Rows.ForthCardSaid :=
 Claim7.holds_tied_plain_at .later [] keepKinds true cardSum true over (fun _ h => by cases h) (by kernel_rfl) (fun _ h => by cases h) row_tie rfl ⟨rfl,rfl⟩ (by kernel_rfl) rfl
  (fun f fn hf hfn => by
   obtain rfl : f = 7 := Option.some.inj (hf.symm.trans named)
   obtain rfl : fn = Tryz.f7 := Option.some.inj (hfn.symm.trans Tryz.func7)
   exact ⟨by kernel_rfl,fun j t ht => by
    rw [Tryz.params7] at ht
    have hm : t ∈ [3,9] := by simpa using Array.mem_of_getElem? ht
    have hall : ([3,9].all fun u => !Tryz.prog.wantsStandIn u) = true := by kernel_rfl
    exact (show Tryz.prog.wantsStandIn t = false by simpa using List.all_eq_true.1 hall t hm)⟩)
  (by kernel_rfl)
#print axioms proved
end Go.Proofs.YtaaepbggooiblaaGreatDoor.forth
