/- Texts of mine, one behind the other; nothing is assumed. -/
import Derived.Test.YtaaepbggooiblaaGreatDoorB26
import Derived.Stop.Asserts
set_option linter.unusedSimpArgs false
set_option linter.unusedVariables false
set_option maxRecDepth 100000
namespace Go.W.T
open Go Go.Proofs Go.M Go.Extern Go.Stop
theorem CallN.by {P : Program} {s : Sem Next} {w w' : World} {v : Value} {E : KE} {K : KV} (h : s.run P w = .ok (.value v) w') (hK : K v w') : CallN P s w E K := ⟨by unfold CallND; rw [h]; exact hK⟩
theorem CallI.by {P : Program} {r : Value} {nm : String} {args : Array Value} {w w' : World} {v : Value} {E : KE} {K : KV} (h : (callMethod r nm args).run P w = .ok (.value v) w') (hK : K v w') : CallI P r nm args w E K := ⟨CallN.by h hK⟩
theorem as_kind84 (w : World) : (callMethod (.iface 259 (.agg #[.pointer (some ⟨12,84,none⟩)])) "Kind" #[]).run P w = .ok (.value (.int .u8 22)) w := by kernel_rfl
theorem as_kind63 (w : World) : (callMethod (.iface 259 (.agg #[.pointer (some ⟨12,63,none⟩)])) "Kind" #[]).run P w = .ok (.value (.int .u8 22)) w := by kernel_rfl
theorem as_elem84 (w : World) : (callMethod (.iface 259 (.agg #[.pointer (some ⟨12,84,none⟩)])) "Elem" #[]).run P w = .ok (.value (.iface 259 (.agg #[.pointer (some ⟨12,63,none⟩)]))) w := by kernel_rfl
theorem as_impl (w : World) : (callMethod (.iface 259 (.agg #[.pointer (some ⟨12,63,none⟩)])) "Implements" #[.iface 259 (.agg #[.pointer (some ⟨12,24,none⟩)])]).run P w = .ok (.value (.bool true)) w := by kernel_rfl
theorem as_assign (w : World) : (callMethod (.iface 259 (.agg #[.pointer (some ⟨12,63,none⟩)])) "AssignableTo" #[.iface 259 (.agg #[.pointer (some ⟨12,63,none⟩)])]).run P w = .ok (.value (.bool true)) w := by kernel_rfl
theorem as_value84 (t : Addr) (w : World) : (callFunc 63 #[.iface 84 (.pointer (some t))]).run P w = .ok (.value (.agg #[.pointer (some ⟨12,84,none⟩),.pointer (some ⟨w.heap.size,0,none⟩),.int .u64 150])) (w.alloc (.cells #[.pointer (some t)] 84)) := by kernel_rfl
theorem as_value63 (t : Addr) (w : World) : (callFunc 63 #[.iface 63 (.pointer (some t))]).run P w = .ok (.value (.agg #[.pointer (some ⟨12,63,none⟩),.pointer (some ⟨w.heap.size,0,none⟩),.int .u64 150])) (w.alloc (.cells #[.pointer (some t)] 63)) := by kernel_rfl
theorem as_type84 (a : Addr) (w : World) : (callFunc 64 #[.agg #[.pointer (some ⟨12,84,none⟩),.pointer (some a),.int .u64 150]]).run P w = .ok (.value (.iface 259 (.agg #[.pointer (some ⟨12,84,none⟩)]))) w := by kernel_rfl
theorem as_typeOf63 (v : Value) (w : World) : (callFunc 103 #[.iface 63 v]).run P w = .ok (.value (.iface 259 (.agg #[.pointer (some ⟨12,63,none⟩)]))) w := by kernel_rfl
theorem rlm (z : Sem Value) (f : TypeId → Addr → Nat → Nat → Sem Value) (v : Value) :
  ReflectliteValue.method z f #[v] = (do match ← ReflectliteValue.parts v with | none => z | some (t,a,fl) => f t a fl (fl % 32)) := rfl
theorem as_parts84 (a : Addr) (w : World) : (ReflectliteValue.parts (.agg #[.pointer (some ⟨12,84,none⟩),.pointer (some a),.int .u64 150])).run P w = .ok (some (84,a,150)) w := by kernel_rfl
theorem as_isNil0 (a p : Addr) (W : World) (ha : W.cell? a = some (.pointer (some p))) :
  (ReflectliteValue.method (ReflectliteValue.valueError "reflectlite.Value.IsNil" 0) ReflectliteValue.isNil #[.agg #[.pointer (some ⟨12,84,none⟩),.pointer (some a),.int .u64 150]]).run P W = .ok (.bool false) W := by
 rw [rlm]
 simp only [Sem.run_bind,as_parts84,Result.andThen]
 simp [ReflectliteValue.isNil,loadVar,isAgg,underlying,Tryz.underlying84,ha,Result.andThen]
theorem as_elemOf84 (w : World) : (Rtype.elem? 84).run P w = .ok (some 63) w := by kernel_rfl
theorem as_mk63 (p : Addr) (w : World) : (ReflectliteValue.mk 63 p ReflectliteValue.flagAddr).run P w = .ok (.agg #[.pointer (some ⟨12,63,none⟩),.pointer (some p),.int .u64 406]) w := by kernel_rfl
theorem as_elemV0 (a p : Addr) (W : World) (ha : W.cell? a = some (.pointer (some p))) :
  (ReflectliteValue.method (ReflectliteValue.valueError "reflectlite.Value.Elem" 0) ReflectliteValue.elem #[.agg #[.pointer (some ⟨12,84,none⟩),.pointer (some a),.int .u64 150]]).run P W
   = .ok (.agg #[.pointer (some ⟨12,63,none⟩),.pointer (some p),.int .u64 406]) W := by
 rw [rlm]
 simp only [Sem.run_bind,as_parts84,Result.andThen]
 simp [ReflectliteValue.elem,loadVar,isAgg,underlying,Tryz.underlying84,ha,Result.andThen,as_elemOf84,as_mk63]
theorem rls (v x : Value) : ReflectliteValue.set #[v,x] = (do
  let (some (dst,a,fl),some (src,b,_)) := (← ReflectliteValue.parts v,← ReflectliteValue.parts x)
   | unsupported (.noEntry "extern/(internal/reflectlite.Value).Set.zeroValue")
  if fl / ReflectliteValue.flagAddr % 2 == 0 then unsupported (.noEntry "extern/(internal/reflectlite.Value).Set.unaddressable")
  let val ← loadVar src b
  if ← Rtype.directlyAssignable dst src then storeVar dst a val
  else if ← Rtype.implements dst src then
   if (← Rtype.kind src) == 20 then
    match val with
    | .nilIface => unsupported (.noEntry "extern/reflectlite: a nil value of one interface type handed on as a value of another")
    | _ => storeVar dst a val
   else storeVar dst a (.iface src val)
  else panicString ("reflectlite.Set: value of type " ++ (← Rtype.spelt src) ++ " is not assignable to type " ++ (← Rtype.spelt dst))
  pure (.tuple #[])) := rfl
theorem as_parts63a (a : Addr) (w : World) : (ReflectliteValue.parts (.agg #[.pointer (some ⟨12,63,none⟩),.pointer (some a),.int .u64 406])).run P w = .ok (some (63,a,406)) w := by kernel_rfl
theorem as_parts63 (a : Addr) (w : World) : (ReflectliteValue.parts (.agg #[.pointer (some ⟨12,63,none⟩),.pointer (some a),.int .u64 150])).run P w = .ok (some (63,a,150)) w := by kernel_rfl
theorem as_direct63 (w : World) : (Rtype.directlyAssignable 63 63).run P w = .ok true w := by kernel_rfl
theorem as_set0 (ta b e : Addr) (old : Value) (W : World) (hb : W.cell? b = some (.pointer (some e))) (ht : W.cell? ta = some old) (hf : W.frozen? ta = false) :
  (ReflectliteValue.set #[.agg #[.pointer (some ⟨12,63,none⟩),.pointer (some ta),.int .u64 406],.agg #[.pointer (some ⟨12,63,none⟩),.pointer (some b),.int .u64 150]]).run P W
   = .ok (.tuple #[]) (W.setCell ta (.pointer (some e))) := by
 rw [rls]
 simp only [Sem.run_bind,as_parts63a,as_parts63,Result.andThen]
 simp [ReflectliteValue.flagAddr,loadVar,isAgg,underlying,Tryz.underlying63,hb,Result.andThen,as_direct63,storeVar,Value.cells,storeCells,Addr.add]
 rw [run_store P W ta _ _ (by rfl)]
 simp [ht,hf]
theorem as_isNil (a p : Addr) (W : World) (ha : W.cell? a = some (.pointer (some p))) : (callFunc 65 #[.agg #[.pointer (some ⟨12,84,none⟩),.pointer (some a),.int .u64 150]]).run P W = .ok (.value (.bool false)) W := by
 rw [@run_callFunc_extern P 65 _ (ReflectliteValue.method (ReflectliteValue.valueError "reflectlite.Value.IsNil" 0) ReflectliteValue.isNil) Tryz.func65 (by kernel_rfl) (by kernel_rfl) (by kernel_rfl) (by kernel_rfl),as_isNil0 a p W ha]; rfl
theorem as_elemV (a p : Addr) (W : World) (ha : W.cell? a = some (.pointer (some p))) : (callFunc 104 #[.agg #[.pointer (some ⟨12,84,none⟩),.pointer (some a),.int .u64 150]]).run P W = .ok (.value (.agg #[.pointer (some ⟨12,63,none⟩),.pointer (some p),.int .u64 406])) W := by
 rw [@run_callFunc_extern P 104 _ (ReflectliteValue.method (ReflectliteValue.valueError "reflectlite.Value.Elem" 0) ReflectliteValue.elem) Tryz.func104 (by kernel_rfl) (by kernel_rfl) (by kernel_rfl) (by kernel_rfl),as_elemV0 a p W ha]; rfl
theorem as_set (ta b e : Addr) (old : Value) (W : World) (hb : W.cell? b = some (.pointer (some e))) (ht : W.cell? ta = some old) (hf : W.frozen? ta = false) :
  (callFunc 105 #[.agg #[.pointer (some ⟨12,63,none⟩),.pointer (some ta),.int .u64 406],.agg #[.pointer (some ⟨12,63,none⟩),.pointer (some b),.int .u64 150]]).run P W = .ok (.value (.tuple #[])) (W.setCell ta (.pointer (some e))) := by
 rw [@run_callFunc_extern P 105 _ ReflectliteValue.set Tryz.func105 (by kernel_rfl) (by kernel_rfl) (by kernel_rfl) (by kernel_rfl),as_set0 ta b e old W hb ht hf]; rfl
end Go.W.T
namespace Go.W.T
open Go Go.Proofs Go.M Go.Extern Go.Stop
theorem cell_of {w : World} {b o : Nat} {l : List Value} {t : TypeId} {x : Value} (h : w.heap[b]? = some (cl l t)) (hx : l[o]? = some x) : w.cell? ⟨b,o,none⟩ = some x := by
 unfold World.cell?
 simp [h,hx]
theorem froz_of {w : World} {b o : Nat} {l : List Value} {t : TypeId} (h : w.heap[b]? = some (cl l t)) : w.frozen? ⟨b,o,none⟩ = false := by
 unfold World.frozen?
 simp [h]
theorem set_of {w : World} {b : Nat} {x v : Value} {t : TypeId} (h : w.heap[b]? = some (cl [x] t)) : w.setCell ⟨b,0,none⟩ v = setObjW w b (cl [v] t) := by
 rw [setCell_obj h]; rfl
theorem w_as {w : World} {e t b : Nat} {old : Value} {tt : TypeId} (hb : w.heap[b]? = some (cl [pt t 0] 84)) (ht : w.heap[t]? = some (cl [old] tt)) :
  Calls P n_errors_as #[.iface 63 (pt e 0),.iface 84 (pt t 0),.agg #[pt 12 84,pt b 0,.int .u64 150],.iface 259 (.agg #[pt 12 63])] w (Ret fun v w' => v = .bool true ∧ w'.heap[t]? = some (cl [pt e 0] tt) ∧ Kp [(t,t + 1)] w w') := by
 refine Ret.R fun R hR => ?_
 apply o_errors_as
 unfold s_errors_as
 have lb := lt_of_heap hb
 have lt := lt_of_heap ht
 repeat' (first|refine .a ?_|refine .d ?_|refine .s ?_|refine .t ?_|refine .f ?_|fail)
 refine Lp.intro (fun vals w' => vals = [.iface 63 (pt e 0),undef] ∧ w' = w.alloc (cl [pt 12 84,pt b 0,.int .u64 150] 170)) (fun _ _ => 0) ⟨rfl,rfl⟩ ?_
 rintro _ _ jk ⟨rfl,rfl⟩
 repeat' (first|refine .a ?_|refine .d ?_|refine .s ?_|refine .t ?_|refine .f ?_|fail)
 refine CallN.by (as_typeOf63 _ _) ?_
 refine CallI.by (as_assign _) ?_
 repeat' (first|refine .a ?_|refine .d ?_|refine .s ?_|refine .t ?_|refine .f ?_|fail)
 have hb1 := (heap_alloc_lt (o := cl [pt 12 84,pt b 0,.int .u64 150] 170) lb).trans hb
 have ht1 := (heap_alloc_lt (o := cl [pt 12 84,pt b 0,.int .u64 150] 170) lt).trans ht
 refine CallN.by (as_elemV _ _ _ (cell_of hb1 rfl)) ?_
 refine CallN.by (as_value63 _ _) ?_
 have lt1 := lt_of_heap ht1
 have ht2 := (heap_alloc_lt (o := cl [pt e 0] 63) lt1).trans ht1
 refine CallN.by (as_set _ _ _ _ _ (cell_of (heap_alloc_self _ (cl [pt e 0] 63)) rfl) (cell_of ht2 rfl) (froz_of ht2)) ?_
 rw [set_of ht2]
 exact hR _ _ ⟨rfl,by exact lookA,by exact kpA⟩
theorem w_As {w : World} {e t : Nat} {old : Value} {tt te : TypeId} (hg : w.heap[0]? = some (cl [.iface 259 (.agg #[pt 12 24])] te)) (ht : w.heap[t]? = some (cl [old] tt)) :
  Calls P n_errors_As #[.iface 63 (pt e 0),.iface 84 (pt t 0)] w (Ret fun v w' => v = .bool true ∧ w'.heap[t]? = some (cl [pt e 0] tt) ∧ Kp [(t,t + 1)] w w') := by
 refine Ret.R fun R hR => ?_
 apply o_errors_As
 unfold s_errors_As
 have lt := lt_of_heap ht
 have l0 := lt_of_heap hg
 repeat' (first|refine .a ?_|refine .d ?_|refine .s ?_|refine .t ?_|refine .f ?_|fail)
 refine Jn.direct ?_
 repeat' (first|refine .a ?_|refine .d ?_|refine .s ?_|refine .t ?_|refine .f ?_|fail)
 intro jk
 refine CallN.by (as_value84 _ _) ?_
 repeat' (first|refine .a ?_|refine .d ?_|refine .s ?_|refine .t ?_|refine .f ?_|fail)
 refine CallN.by (as_type84 _ _) ?_
 repeat' (first|refine .a ?_|refine .d ?_|refine .s ?_|refine .t ?_|refine .f ?_|fail)
 refine Jn.direct ?_
 refine CallI.by (as_kind84 _) ?_
 repeat' (first|refine .a ?_|refine .d ?_|refine .s ?_|refine .t ?_|refine .f ?_|fail)
 refine CallN.by (as_isNil _ ⟨t,0,none⟩ _ (cell_of (b := w.heap.size) (l := [pt t 0]) (t := 84) (by exact lookA) rfl)) ?_
 repeat' (first|refine .a ?_|refine .d ?_|refine .s ?_|refine .t ?_|refine .f ?_|fail)
 intro jk2
 refine CallI.by (as_elem84 _) ?_
 refine Jn.direct ?_
 refine CallI.by (as_kind63 _) ?_
 repeat' (first|refine .a ?_|refine .d ?_|refine .s ?_|refine .t ?_|refine .f ?_|fail)
 refine CallI.by (as_impl _) ?_
 repeat' (first|refine .a ?_|refine .d ?_|refine .s ?_|refine .t ?_|refine .f ?_|fail)
 intro jk3
 repeat' (first|refine .a ?_|refine .d ?_|refine .s ?_|refine .t ?_|refine .f ?_|fail)
 refine Cl.ret (w_as (b := w.heap.size) (t := t) (e := e) (old := old) (tt := tt) (by exact lookA) (by exact lookA)) ?_
 rintro _ w2 ⟨rfl,h1,h2⟩
 exact hR _ _ ⟨rfl,h1,by exact kpA⟩
end Go.W.T
set_option maxRecDepth 4000
namespace Go.W.T
open Go Go.W Go.M Go.Proofs
def ErrT (w : World) : Prop := ∃ te,w.heap[0]? = some (cl [.iface 259 (.agg #[pt 12 24])] te)
theorem ErrT.kp {w w' : World} (h : ErrT w) (k : Kp [] w w') : ErrT w' := by
 obtain ⟨te,h⟩ := h
 exact ⟨te,(k.same 0 (lt_of_heap h) trivial).trans h⟩
theorem w_Told {w : World} {e a : Nat} {v : Value} (hg : ErrT w) (h : ErrAt w e a v) : Calls P n_plain_Told #[v] w (Ret fun r w' => r = .tuple #[i64 e,i64 a] ∧ Kp [] w w') := by
 obtain ⟨fb,rfl,hf⟩ := h
 obtain ⟨te,hg⟩ := hg
 refine Ret.R fun R hR => ?_
 apply o_plain_Told
 unfold s_plain_Told
 have l0 := lt_of_heap hg
 have lf := lt_of_heap hf
 repeat' (first|refine .a ?_|refine .d ?_|refine .s ?_|refine .t ?_|refine .f ?_|fail)
 refine Cl.ret (w_As (t := w.heap.size) (te := te) (tt := 63) (old := .pointer none) (by exact lookA) (by exact lookA)) ?_
 rintro _ w5 ⟨rfl,h5,k5⟩
 have hf5 : w5.heap[fb]? = some (cl [i64 e,i64 a] t_api_Fault) := by exact lookA
 have k05 : Kp [] w w5 := by exact kpA
 repeat' (first|refine .a ?_|refine .d ?_|refine .s ?_|refine .t ?_|refine .f ?_|fail)
 exact hR _ _ ⟨rfl,by exact kpA⟩
theorem w_Tail {w : World} (hg : Gl w) (h0 : ErrT w) (c : Int) (hc : -9223372036854775808 ≤ c ∧ c ≤ 9223372036854775807) (b : By) (more : By) : Calls P n_marshalkeep_Tail #[.int .i64 c,κs b,κs more] w (Law w) := by
 refine Law.R fun R hR => ?_
 apply o_marshalkeep_Tail
 unfold s_marshalkeep_Tail
 refine Cl.ret (w_spec hg) ?_
 rintro v w2 ⟨⟨sb,rfl⟩,⟨d,hk⟩,hg2,k2⟩
 by_cases hb : (b.length : Int) > 4000
 ·have hb' : decide ((b.length : Int) > 4000) = true := decide_eq_true hb
  repeat' (first|refine .a ?_|refine .d ?_|refine .s ?_|refine .t ?_|refine .f ?_|fail)
  exact hR _ _ rfl k2
 have hb' : decide ((b.length : Int) > 4000) = false := decide_eq_false hb
 by_cases hm : (more.length : Int) > 4000
 ·have hm' : decide ((more.length : Int) > 4000) = true := decide_eq_true hm
  repeat' (first|refine .a ?_|refine .d ?_|refine .s ?_|refine .t ?_|refine .f ?_|fail)
  exact hR _ _ rfl k2
 have hm' : decide ((more.length : Int) > 4000) = false := decide_eq_false hm
 by_cases hz : more = []
 ·have hz' : ((more.length : Int) == 0) = true := by rw [hz]; rfl
  repeat' (first|refine .a ?_|refine .d ?_|refine .s ?_|refine .t ?_|refine .f ?_|fail)
  exact hR _ _ rfl k2
 have hz' : ((more.length : Int) == 0) = false := by
  have := List.length_pos_iff.mpr hz
  rw [beq_eq_false_iff_ne]; omega
 repeat' (first|refine .a ?_|refine .d ?_|refine .s ?_|refine .t ?_|refine .f ?_|fail)
 refine Cl.ret (w_kinds c hc) ?_
 rintro v w18 ⟨rfl,k18⟩
 refine Cl.ret w_wide ?_
 rintro v w20 ⟨rfl,k20⟩
 have k020 := (k2.tt k18).tt k20
 have h20 := hk.kp0 (k18.tt k20)
 have hn := keepName_mem c
 have hks := hk.ks
 generalize keepName c = name at *
 refine .s ?_
 refine .s ?_
 refine .s ?_
 refine Cl.w (fun w23 => Kp [] w20 w23 ∧ w23.heap[w20.heap.size]? = some (cl [.int .i64 wideL.depth,.int .i64 wideL.fuel,.int .i64 wideL.size] 32)) ⟨by exact kpA,by exact lookA⟩ ?_
 rintro w23 ⟨k23,n23⟩
 refine Cl.ret ((h20.kp0 k23).decode name b wideL) ?_
 rintro r w26 ⟨k26,hd⟩
 have n26 : w26.heap[w20.heap.size]? = _ := (k26.same _ (lt_of_heap n23) trivial).trans n23
 have k026 := k020.tt (k23.tt k26)
 rw [hks.dec hn wide_valid (by show _ ≤ (100000 : Int); omega)] at hd
 cases hmm : decT d.defs wideL (.named name 0) b with
 | no e a =>
  rw [hmm] at hd
  obtain ⟨ev,rfl,fb,rfl,hE⟩ := hd
  repeat' (first|refine .a ?_|refine .d ?_|refine .s ?_|refine .t ?_|refine .f ?_|fail)
  exact hR _ _ rfl k026
 | ok l =>
  rw [hmm] at hd
  obtain ⟨lv,o,rfl,hgw,ho⟩ := hd
  have h26 := h20.kp0 (k23.tt k26)
  repeat' (first|refine .a ?_|refine .d ?_|refine .s ?_|refine .t ?_|refine .f ?_|fail)
  have two := h26.decode name (b ++ more) wideL
  rw [hks.dec hn wide_valid (by rw [List.length_append]; show _ ≤ (100000 : Int); omega),tailT hks.ok rfl hmm hz] at two
  refine Cl.ret two ?_
  rintro r w59 ⟨k59,hd2⟩
  obtain ⟨ev2,rfl,hE2⟩ := hd2
  refine .s ?_
  refine .s ?_
  refine Cl.ret (w_Told (h0.kp (k026.tt k59)) hE2) ?_
  rintro _ w63 ⟨rfl,k63⟩
  obtain ⟨_,hb4,hne,_⟩ := bigT hks.ok rfl (by simp) hmm
  have hb0 : ((b.length : Int) == 0) = false := by rw [beq_eq_false_iff_ne]; omega
  have h63 := h26.kp0 (k59.tt k63)
  have n63 : w63.heap[w20.heap.size]? = _ := ((k59.tt k63).same _ (lt_of_heap n26) trivial).trans n26
  repeat' (first|refine .a ?_|refine .d ?_|refine .s ?_|refine .t ?_|refine .f ?_|fail)
  refine Cl.ret (w_pick (more.length : Int) (b.length : Int) (by omega) (by omega) (by omega)) ?_
  rintro _ w71 ⟨rfl,rfl⟩
  obtain ⟨pr1,pr2⟩ := pickM_range (c := (more.length : Int)) (n := (b.length : Int)) (by omega)
  generalize pickM (more.length : Int) (b.length : Int) = kk at *
  obtain ⟨k,rfl⟩ : ∃ k : Nat,kk = k := ⟨kk.toNat,by omega⟩
  refine SlS.t ?_
  repeat' (first|refine .a ?_|refine .d ?_|refine .s ?_|refine .t ?_|refine .f ?_|fail)
  obtain ⟨e3,a3,hs3⟩ := shortT hks.ok rfl hmm (k := k) (by omega)
  have three := h63.kp0 (show Kp [] w71 w71.drew by exact kpA) |>.decode name (b.take k) wideL
  rw [hks.dec hn wide_valid (by rw [List.length_take]; show _ ≤ (100000 : Int); omega),hs3] at three
  refine Cl.ret three ?_
  rintro r w75 ⟨k75,hd3⟩
  obtain ⟨ev3,rfl,fb3,rfl,hE3⟩ := hd3
  obtain ⟨a,cc,rfl⟩ := (Gw.ns hgw).1
  have hpos : decide (((l.length : Nat) : Int) > 0) = true := decide_eq_true (by have := List.length_pos_iff.mpr hne; omega)
  repeat' (first|refine .a ?_|refine .d ?_|refine .s ?_|refine .t ?_|refine .f ?_|fail)
  have hbb : ((b.length : Int) == (b.length : Int)) = true := by simp
  repeat' (first|refine .a ?_|refine .d ?_|refine .s ?_|refine .t ?_|refine .f ?_|fail)
  exact hR _ _ rfl (k026.tt (k59.tt (k63.tt (Kp.tt (show Kp [] w71 w71.drew by exact kpA) k75))))
end Go.W.T
