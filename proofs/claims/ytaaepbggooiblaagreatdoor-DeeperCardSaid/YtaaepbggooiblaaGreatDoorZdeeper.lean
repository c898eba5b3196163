/- Deeper, as its card says it: for every input the law returns true, and its arguments read as they did; the listed variables start as the program lays them. No other condition. -/
import Derived.Test.YtaaepbggooiblaaGreatDoorB14
import Derived.Test.YtaaepbggooiblaaGreatDoorB26
set_option linter.unusedSimpArgs false
set_option linter.unusedVariables false
set_option maxRecDepth 100000
namespace Go.Proofs.YtaaepbggooiblaaGreatDoor.deeper
open Go.ChangeShapes Go.WideShapes Go.ChangeAt Go.RowKit Go.Lib Go.ChangeMaps
section
variable {H : Type} {enc : TypeId × Value → H} {P : Program} {w : World} {base : Nat} {spare : Nat → Bool} {held : Bool}
theorem five {t0 t1 t2 t3 t4 : TypeId} {args : Array Value} {ds : List (DataW H)} {ps : List MemPlace} (h : DataW.TrodAll enc P w base spare held [t0,t1,t2,t3,t4] args.toList ds ps) : ∃ v0 v1 v2 v3 v4 d0 d1 d2 d3 d4 p0 p1 p2 p3 p4,args = #[v0,v1,v2,v3,v4] ∧ ds = [d0,d1,d2,d3,d4] ∧ ps = p0 ++ p1 ++ p2 ++ p3 ++ p4 ∧ DataW.Trod enc P w base spare held t0 v0 d0 p0 ∧ DataW.Trod enc P w base spare held t1 v1 d1 p1 ∧ DataW.Trod enc P w base spare held t2 v2 d2 p2 ∧ DataW.Trod enc P w base spare held t3 v3 d3 p3 ∧ DataW.Trod enc P w base spare held t4 v4 d4 p4 := by
 obtain ⟨v0,vs,d0,ds0,p0,q0,ha,rfl,rfl,h0,r0⟩ := trodAll_cons h
 obtain ⟨v1,vs1,d1,ds1,p1,q1,rfl,rfl,rfl,h1,r1⟩ := trodAll_cons r0
 obtain ⟨v2,vs2,d2,ds2,p2,q2,rfl,rfl,rfl,h2,r2⟩ := trodAll_cons r1
 obtain ⟨v3,vs3,d3,ds3,p3,q3,rfl,rfl,rfl,h3,r3⟩ := trodAll_cons r2
 obtain ⟨v4,vs4,d4,ds4,p4,q4,rfl,rfl,rfl,h4,r4⟩ := trodAll_cons r3
 obtain ⟨rfl,rfl,rfl⟩ := trodAll_nil r4
 exact ⟨v0,v1,v2,v3,v4,d0,d1,d2,d3,d4,p0,p1,p2,p3,p4,by cases args; simp_all,rfl,by simp,h0,h1,h2,h3,h4⟩
theorem mk5 {t0 t1 t2 t3 t4 : TypeId} {v0 v1 v2 v3 v4 : Value} {d0 d1 d2 d3 d4 : DataW H} {p0 p1 p2 p3 p4 : List MemPlace} (h0 : DataW.Trod enc P w base spare held t0 v0 d0 p0) (h1 : DataW.Trod enc P w base spare held t1 v1 d1 p1) (h2 : DataW.Trod enc P w base spare held t2 v2 d2 p2) (h3 : DataW.Trod enc P w base spare held t3 v3 d3 p3) (h4 : DataW.Trod enc P w base spare held t4 v4 d4 p4) : DataW.TrodAll enc P w base spare held [t0,t1,t2,t3,t4] [v0,v1,v2,v3,v4] [d0,d1,d2,d3,d4] (p0 ++ (p1 ++ (p2 ++ (p3 ++ p4)))) := ⟨_,_,h0,trodAll_mk4 h1 h2 h3 h4,rfl⟩
end
theorem a0 : (Rows.deeperRow.wf (OpenSpec.ofChange Rows.deeperSpec)) = true := by kernel_rfl
theorem a1 : (laidOutB Tryz.pinned.checked.prog) = true := by kernel_rfl
theorem a2 : (mapsRowed Tryz.pinned.checked.prog) = true := by kernel_rfl
theorem a3 : (Tryz.f9.params.all (Tryz.pinned.checked.prog.readableRec ·)) = true := by kernel_rfl
theorem a4 : (namedTie Tryz.pinned.checked.prog Rows.deeperRow.named Rows.deeperSpec.vars) = true := by kernel_rfl
theorem a5 : (Rows.deeperRow.stops == []) = true := by kernel_rfl
theorem a6 : (Tryz.pinned.checked.prog.stops == []) = true := by kernel_rfl
theorem a7 : (Rows.deeperRow.knobs == []) = true := by kernel_rfl
theorem a8 : (Tryz.pinned.checked.prog.stopKnobs == []) = true := by kernel_rfl
theorem a9 : (Rows.deeperRow.inPlace == Tryz.pinned.checked.prog.inPlace 9) = true := by kernel_rfl
theorem a10 : (Rows.deeperRow.unfollowed == Tryz.pinned.checked.prog.unfollowed 9) = true := by kernel_rfl
theorem a11 : (Rows.deeperRow.recurses == Tryz.pinned.checked.prog.recurses 9) = true := by kernel_rfl
theorem a12 : (Rows.deeperRow.named == Tryz.pinned.checked.prog.varsNamed 9) = true := by kernel_rfl
theorem a13 : (Rows.deeperRow.maps == (Tryz.f9.params.toList ++ Rows.deeperSpec.plain.varTypes Tryz.pinned.checked.prog).any (Tryz.pinned.checked.prog.mapsRec ·)) = true := by kernel_rfl
theorem a14 : (Rows.deeperRow.ifaces == (Tryz.f9.params.toList ++ Rows.deeperSpec.plain.varTypes Tryz.pinned.checked.prog).any (Tryz.pinned.checked.prog.ifacesRec ·)) = true := by kernel_rfl
theorem a15 : (Rows.deeperRow.mapsOut == Tryz.pinned.checked.prog.mapsAmong Tryz.f9.resultTypes.toList) = true := by kernel_rfl
theorem a16 : (Rows.deeperRow.loops == (Tryz.f9.params.toList ++ Rows.deeperSpec.plain.varTypes Tryz.pinned.checked.prog).any (Tryz.pinned.checked.prog.loopsFrom ·)) = true := by kernel_rfl
theorem a17 : (Rows.deeperRow.wideKeys == (Tryz.f9.params.toList ++ Rows.deeperSpec.plain.varTypes Tryz.pinned.checked.prog ++ Tryz.f9.resultTypes.toList).any (Tryz.pinned.checked.prog.wideKeysFrom ·)) = true := by kernel_rfl
theorem a18 : (Rows.deeperSpec.vars.all (Tryz.pinned.checked.prog.varReadable ·)) = true := by kernel_rfl
theorem a19 : (Tryz.f9.resultTypes.all (fun t => Tryz.pinned.checked.prog.readableRec t && decide (t < Tryz.pinned.checked.prog.types.size))) = true := by kernel_rfl
theorem a20 : (Rows.deeperRow.ifacesOut == Tryz.f9.resultTypes.toList.any (Tryz.pinned.checked.prog.ifacesRec ·)) = true := by kernel_rfl
theorem a21 : (Rows.deeperRow.loopsOut == Tryz.f9.resultTypes.toList.any (Tryz.pinned.checked.prog.loopsFrom ·)) = true := by kernel_rfl
theorem a22 : (Rows.deeperRow.plainKeys == Tryz.pinned.checked.prog.plainKeys) = true := by kernel_rfl
theorem a23 : (Rows.deeperRow.shortTexts.isNone) = true := by kernel_rfl
theorem a24 : (Tryz.pinned.checked.prog.stopsHeard) = true := by kernel_rfl
theorem a25 : (Tryz.pinned.checked.prog.mayEnter) = true := by kernel_rfl
theorem a26 : (Rows.deeperRow.lifted == Tryz.pinned.checked.prog.liftsFinal) = true := by kernel_rfl
theorem a27 : (Tryz.pinned.checked.prog.make == some Rows.deeperRow.make) = true := by kernel_rfl
theorem a28 : (Rows.deeperRow.kinds == (if Rows.deeperRow.domain.isEmpty then [] else Tryz.f9.params.toList.map fun t => match Tryz.pinned.checked.prog.underlying t with | some (.int k) => some k | _ => none)) = true := by kernel_rfl
theorem a29 : (Rows.deeperRow.pinned == Rows.deeperRow.pinnedBy) = true := by kernel_rfl
theorem a30 : (Rows.deeperRow.veiled == (Tryz.f9.params.toList ++ Rows.deeperSpec.plain.varTypes Tryz.pinned.checked.prog ++ Tryz.f9.resultTypes.toList).any (Tryz.pinned.checked.prog.veiledRec ·)) = true := by kernel_rfl
theorem a31 : (Rows.deeperRow.veiledFits Tryz.pinned.checked.prog Tryz.f9.params.toList (Tryz.f9.params.toList ++ Rows.deeperSpec.plain.varTypes Tryz.pinned.checked.prog ++ Tryz.f9.resultTypes.toList)) = true := by kernel_rfl
theorem closed : joinedFacts Tryz.pinned.checked.prog 9 Tryz.f9 Rows.deeperSpec Rows.deeperRow = true := by
 unfold joinedFacts
 rw [a0,a1,a2,a3,a4,a5,a6,a7,a8,a9,a10,a11,a12,a13,a14,a15,a16,a17,a18,a19,a20,a21,a22,a23,a24,a25,a26,a27,a29,a30,a31]
 kernel_rfl
theorem inst : Tryz.f9.isInstance Tryz.pinned.checked.prog Rows.deeperRow.origin Rows.deeperRow.targs := of_decide_eq_true (by kernel_rfl)
theorem wrapper : Tryz.f9.isWrapper Tryz.pinned.checked.prog Rows.deeperRow.wrapper Rows.deeperRow.mainSum := by unfold Func.isWrapper; first | (rw [if_pos (by decide +kernel)]; kernel_rfl) | (rw [if_neg (by decide +kernel)]; exact ⟨rfl,rfl⟩)
theorem named : Tryz.pinned.checked.prog.funcNamed Rows.deeperRow.func = some 9 := by kernel_rfl
theorem lifted (os : Os) (started : os.Started) (H : Type) (enc : TypeId × Value → H) :
  ReturnsInHanded {} Tryz.checked os 9 .any (fun w args => (Rows.deeperSpec.pre enc Tryz.prog Tryz.f9 [] false w args ∧ laidMetH Tryz.prog keepLaid w) ∧ sizedMet enc Tryz.prog Tryz.f9 (OpenSpec.ofChange Rows.deeperSpec) false w args)
   (Rows.deeperSpec.post enc Tryz.prog Tryz.f9 false true false false) := by
 refine wrap (C := Tryz.checked) (X := fun w _ => laidMetH Tryz.prog keepLaid w) (fun _ _ _ hh h => h.of_heap hh) own started (by kernel_rfl) Tryz.func9
  (ChangeSpec.witness_shaped (enc := enc) (C := Tryz.checked) (os := os) (X := fun w _ => laidMetH Tryz.prog keepLaid w) false (World.laidAll Tryz.prog os keepLaid) #[.int .i64 0,.string ⟨#[]⟩,.int .i64 0,.int .i64 0,.int .i64 0] 8 (World.laidAll_os _ _ _)
   (keep_shape os _) (by kernel_rfl) (by kernel_rfl) (by kernel_rfl) (keep_met os _)) ?_
 intro W base args ds gs before hval0 hW hL hsh
 have hval : ∀ (j : Nat) t v,Tryz.f9.params[j]? = some t → args[j]? = some v → Value.okWide Tryz.prog W .any base t v := hval0
 have hW' := hW
 obtain ⟨p,q,hA0,hV,rfl,_,_⟩ := hW
 have hA : DataW.TrodAll enc Tryz.prog W 0 (fun _ => true) true Tryz.f9.params.toList args.toList ds p := hA0
 rw [Tryz.params9] at hA hval
 obtain ⟨v0,v1,v2,v3,v4,d0,d1,d2,d3,d4,p0,p1,p2,p3,p4,rfl,rfl,rfl,h0,h1,h2,h3,h4⟩ := five hA
 obtain ⟨rfl,rfl⟩ := trodVars_none hV
 obtain ⟨c0,rfl,rfl,rfl,wc0⟩ := open_int Tryz.underlying3 (hval 0 3 v0 rfl rfl) h0
 have hc0 : -9223372036854775808 ≤ c0 ∧ c0 ≤ 9223372036854775807 := by simpa [Lit.wf,IntKind.min,IntKind.max,IntKind.signed,IntKind.bits] using wc0
 obtain ⟨s1,rfl,rfl,rfl,hs1⟩ := open_string Tryz.underlying9 (hval 1 9 v1 rfl rfl) h1
 obtain ⟨c2,rfl,rfl,rfl,wc2⟩ := open_int Tryz.underlying3 (hval 2 3 v2 rfl rfl) h2
 have hc2 : -9223372036854775808 ≤ c2 ∧ c2 ≤ 9223372036854775807 := by simpa [Lit.wf,IntKind.min,IntKind.max,IntKind.signed,IntKind.bits] using wc2
 obtain ⟨c3,rfl,rfl,rfl,wc3⟩ := open_int Tryz.underlying3 (hval 3 3 v3 rfl rfl) h3
 have hc3 : -9223372036854775808 ≤ c3 ∧ c3 ≤ 9223372036854775807 := by simpa [Lit.wf,IntKind.min,IntKind.max,IntKind.signed,IntKind.bits] using wc3
 obtain ⟨c4,rfl,rfl,rfl,wc4⟩ := open_int Tryz.underlying3 (hval 4 3 v4 rfl rfl) h4
 have hc4 : -9223372036854775808 ≤ c4 ∧ c4 ≤ 9223372036854775807 := by simpa [Lit.wf,IntKind.min,IntKind.max,IntKind.signed,IntKind.bits] using wc4
 simp only [List.append_nil] at hW'
 have hwalk := Go.W.T.w_Deeper (keep_gl hsh hL) c0 hc0 s1.data.toList c2 hc2 c3 hc3 c4 hc4
 rw [show Go.W.κs s1.data.toList = .string s1 from congrArg Value.string (Go.W.bs_data s1)] at hwalk
 refine hwalk.mono fun e W' h => ?_
 obtain ⟨rfl,hk⟩ := h
 exact ⟨_,rfl,_,_,_,[],[],[],hW',trodAll_mk1 (shut_bool Tryz.underlying4 _),mk5 (shut_int Tryz.underlying3 wc0) (shut_string Tryz.underlying9 hs1) (shut_int Tryz.underlying3 wc2) (shut_int Tryz.underlying3 wc3) (shut_int Tryz.underlying3 wc4),rfl,(frame_of_kp hk).frame _,fun h => by cases h⟩
theorem over : Rows.DeeperSaid :=
 OpenClaim.holds_of_wide 9 Tryz.f9 rfl rfl rfl rfl rfl rfl rfl ⟨rfl,rfl,rfl,rfl,rfl⟩ rfl rfl rfl rfl rfl named Tryz.func9 closed inst wrapper (fun os started H enc _ => lifted os started H enc)
theorem row_tie : Rows.deeperRow.laidByTextAt .later Tryz.pinned keepKinds true :=
 OpenClaim.laidByTextAt_pinned rfl rfl tie rfl rfl rfl rfl keep_pins keep_fits
theorem proved : Rows.DeeperCardSaid :=
 Claim7.holds_tied_plain_at .later [] keepKinds true cardSum true over (fun _ h => by cases h) (by kernel_rfl) (fun _ h => by cases h) row_tie rfl ⟨rfl,rfl⟩ (by kernel_rfl) rfl
  (fun f fn hf hfn => by
   obtain rfl : f = 9 := Option.some.inj (hf.symm.trans named)
   obtain rfl : fn = Tryz.f9 := Option.some.inj (hfn.symm.trans Tryz.func9)
   exact ⟨by kernel_rfl,fun j t ht => by
    rw [Tryz.params9] at ht
    have hm : t ∈ [3,9,3,3,3] := by simpa using Array.mem_of_getElem? ht
    have hall : ([3,9,3,3,3].all fun u => !Tryz.prog.wantsStandIn u) = true := by kernel_rfl
    exact (show Tryz.prog.wantsStandIn t = false by simpa using List.all_eq_true.1 hall t hm)⟩)
  (by kernel_rfl)
#print axioms proved
end Go.Proofs.YtaaepbggooiblaaGreatDoor.deeper
