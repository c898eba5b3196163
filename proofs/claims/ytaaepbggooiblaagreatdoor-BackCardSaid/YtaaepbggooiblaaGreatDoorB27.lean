/- Texts of mine, one behind the other; nothing is assumed. -/
import Derived.Test.YtaaepbggooiblaaGreatDoorB26
import Derived.Laws.MakeOwn
set_option linter.unusedSimpArgs false
set_option linter.unusedVariables false
set_option maxRecDepth 4000
namespace Go.W.T
open Go Go.W Go.M Go.Proofs
theorem u34 : P.underlying 34 = some (.slice 52) := by kernel_rfl
noncomputable def i52 : TypeInfo := (P.info? 52).getD default
theorem i52_info : P.info? 52 = some i52 := by kernel_rfl
theorem i52_zero : i52.zero = some (.agg #[.int .i64 0,.int .i64 0,.string ⟨#[]⟩,.int .i64 0,.int .i64 0]) := by kernel_rfl
theorem i52_size : i52.size = 5 := by kernel_rfl
theorem i52_bytes : i52.bytes = 48 := by kernel_rfl
theorem w_said {w : World} {l : List Nd} {lv : Value} (hl : NsAt w lv l) (hn : l.length ≤ 400) :
  Calls P n_marshalkeep_said #[lv] w (Ret fun v w' => Kp [] w w' ∧ NsAt w' v (l.map said)) := by
 refine Ret.R fun R hR => ?_
 apply o_marshalkeep_said
 unfold s_marshalkeep_said
 have hl' := hl
 obtain ⟨⟨aa,ac,rfl⟩,_⟩ := hl'
 refine .t ?_
 have hrun := run_makeSlice (P := P) (w := w) 34 52 i52 _ u34 i52_info i52_zero .i64 .i64 (l.length : Nat) (l.length : Nat) (by omega) (Int.le_refl _) (by rw [i52_size]; omega) (by rw [i52_bytes]; omega) (by omega)
 refine RunV.by hrun ?_
 rw [Int.toNat_natCast,i52_size]
 obtain ⟨cs,hcs,hcl⟩ : ∃ cs : List Value,madeCells (Value.agg #[.int .i64 0,.int .i64 0,.string ⟨#[]⟩,.int .i64 0,.int .i64 0]).cells (l.length * 5) = cs.toArray ∧ cs.length = l.length * 5 :=
  ⟨_,(Array.toArray_toList).symm,by rw [Array.length_toList,size_madeCells]⟩
 rw [hcs]
 have k3 : Kp [] w (w.alloc (cl cs 52)) := by exact kpA
 have n3 : (w.alloc (cl cs 52)).heap[w.heap.size]? = some (cl cs 52) := by exact lookA
 have z3 : (w.alloc (cl cs 52)).heap.size = w.heap.size + 1 := by simp only [size_alloc]
 generalize w.alloc (cl cs 52) = w3 at *
 refine Lp.nat (n := l.length) (fun n vals w' => ∃ (i : Nat) (rest : List Value),vals = [.int .i64 i] ∧ i + n = l.length ∧ Kp [] w w' ∧ w'.heap[w.heap.size]? = some (cl (nodeCells ((l.take i).map said) ++ rest) 52) ∧ rest.length = n * 5) ⟨0,cs,rfl,by omega,k3,by simpa [nodeCells] using n3,hcl⟩ ?_
 rintro n _ w5 jk C ⟨i,rest,rfl,hi,k5,n5,hr⟩ hC
 refine .s ?_
 refine .t ?_
 refine .s ?_
 refine .split (fun h => ?_) (fun h => ?_)
 ·have hlt : i < l.length := by have := of_decide_eq_true h; omega
  obtain ⟨x,hx⟩ : ∃ x,l[i]? = some x := ⟨_,List.getElem?_eq_getElem hlt⟩
  obtain ⟨b1,o1,t1,f1,cs1,c1,e1,g1,x0,x1,x2,x3,x4,_⟩ := (hl.kp k5).fields hx
  cases e1
  have hb1 : b1 < w.heap.size := by
   obtain ⟨b2,o2,t2,f2,cs2,c2,e2,g2,_⟩ := hl.at hx
   cases e2
   exact lt_of_heap g2
  have hrb := lt_of_heap n5
  refine .s ?_
  refine .s ?_
  refine .t ?_
  refine .s ?_
  refine .s ?_
  refine .s ?_
  refine Jn.by (fun _ w' => Kp [] w w' ∧ w5.heap.size < w'.heap.size ∧ w'.heap[w.heap.size]? = some (cl (nodeCells ((l.take i).map said) ++ rest) 52) ∧ w'.heap[w5.heap.size]? = some (cl (nodeV (said x)) 52)) (fun J hJ => ?_) ?_
  ·have fin : ∀ w',Kp [(w5.heap.size,w5.heap.size + 1)] w5 w' → w5.heap.size < w'.heap.size → w'.heap[w5.heap.size]? = some (cl (nodeV (said x)) 52) → J [] w' := fun w' k hs hh => hJ _ _ ⟨k5.trans k (fun j hj _ => ⟨trivial,by have := k5.size; omega,trivial⟩),hs,(k.same _ hrb ⟨by omega,trivial⟩).trans n5,hh⟩
   unfold said nodeV at fin
   cases q1 : (x.kind == 1) with
   | true =>
    have e : x.kind = 1 := by simpa using q1
    rw [if_pos e] at fin
    repeat' (first|refine .a ?_|refine .d ?_|refine .s ?_|refine .t ?_|refine .f ?_|fail)
    refine fin _ (by exact kpA) (by simp only [size_setObj,size_alloc]; omega) ?_
    rw [e]
    exact lookA
   | false =>
   have e1 : x.kind ≠ 1 := by simpa using q1
   rw [if_neg e1] at fin
   cases q2 : (x.kind == 2) with
   | true =>
    have e : x.kind = 2 := by simpa using q2
    rw [if_pos e] at fin
    repeat' (first|refine .a ?_|refine .d ?_|refine .s ?_|refine .t ?_|refine .f ?_|fail)
    refine fin _ (by exact kpA) (by simp only [size_setObj,size_alloc]; omega) ?_
    rw [e]
    exact lookA
   | false =>
   have e2 : x.kind ≠ 2 := by simpa using q2
   rw [if_neg e2] at fin
   cases q3 : (x.kind == 3) with
   | true =>
    have e : x.kind = 3 := by simpa using q3
    rw [if_pos e] at fin
    repeat' (first|refine .a ?_|refine .d ?_|refine .s ?_|refine .t ?_|refine .f ?_|fail)
    refine fin _ (by exact kpA) (by simp only [size_setObj,size_alloc]; omega) ?_
    rw [e]
    exact lookA
   | false =>
   have e3 : x.kind ≠ 3 := by simpa using q3
   rw [if_neg e3] at fin
   cases q4 : (x.kind == 4) with
   | true =>
    have e : x.kind = 4 := by simpa using q4
    rw [if_pos e] at fin
    repeat' (first|refine .a ?_|refine .d ?_|refine .s ?_|refine .t ?_|refine .f ?_|fail)
    refine fin _ (by exact kpA) (by simp only [size_setObj,size_alloc]; omega) ?_
    rw [e]
    exact lookA
   | false =>
    have e4 : x.kind ≠ 4 := by simpa using q4
    rw [if_neg e4] at fin
    repeat' (first|refine .a ?_|refine .d ?_|refine .s ?_|refine .t ?_|refine .f ?_|fail)
    refine fin _ (by exact kpA) (by simp only [size_setObj,size_alloc]; omega) ?_
    exact lookA
  ·rintro _ w49 jk ⟨k49,z49,n49,m49⟩
   have hpre : (nodeCells ((l.take i).map said)).length = i * 5 := by rw [nodeCells_len,List.length_map,List.length_take,Nat.min_eq_left (by omega)]
   obtain ⟨r0,r1,hrr,hr0⟩ : ∃ r0 r1 : List Value,rest = r0 ++ r1 ∧ r0.length = 5 := ⟨rest.take 5,rest.drop 5,(List.take_append_drop ..).symm,by rw [List.length_take]; omega⟩
   have hst : (l.take (i + 1)).map said = (l.take i).map said ++ [said x] := by rw [List.take_add_one,hx]; simp
   have hltw := lt_of_heap n49
   refine LdN.s (l' := nodeV (said x)) ?_ m49 (by simp [nodeV]) (by simp [nodeV])
   refine .s ?_
   rw [Nat.zero_add]
   refine StN.s (l' := nodeCells ((l.take (i + 1)).map said) ++ r1) ?_ n49 rfl rfl (by rw [List.length_append,hpre]; omega) ?_
   ·refine .a ?_
    refine hC (n - 1) _ _ (by omega) ⟨i + 1,r1,by simp,by omega,?_,?_,?_⟩
    ·exact Kp.obj k49 (Nat.le_refl _) _
    ·exact heap_obj_at rfl hltw
    ·rw [hrr,List.length_append] at hr; omega
   ·rw [hst,nodeCells_snoc,hrr,← hpre,List.take_left,← List.append_assoc]
    congr 1
    have h5 : (nodeV (said x)).length = 5 := rfl
    rw [List.drop_append_of_le_length (by rw [List.length_append,hr0,h5]; omega),List.drop_eq_nil_of_le (by rw [List.length_append,hr0,h5]; omega),List.nil_append]
 ·have hge : ¬ i < l.length := by have := of_decide_eq_false h; omega
  refine hR _ _ ⟨k5,?_⟩
  have hi' : i = l.length := by omega
  subst hi'
  rw [List.take_length] at n5
  refine ⟨⟨_,_,by rw [List.length_map]⟩,fun hne => ⟨w.heap.size,0,52,_,_,l.length,by rw [List.length_map],n5,by rw [List.length_append,nodeCells_len]; omega,?_⟩⟩
  rw [List.drop_zero,← nodeCells_len,List.take_left]
theorem sameM_strip {a b : List Nd} (h : a.map strip = b) (hb : b.map strip = b) : sameM a b false = true := sameM_alike.mpr (by unfold alike; rw [h,hb])
theorem said_strip (l : List Nd) : (l.map said).map strip = l.map said := by
 rw [List.map_map]
 congr 1
 funext n
 simp only [Function.comp,said]
 split
 ·rfl
 split
 ·rfl
 split
 ·rfl
 split <;> rfl
theorem put_len {lim : Lim} {e e' : ES} {parts : List By} (h : e.put lim parts = .ok e') (hN : (e.out.length : Int) ≤ max 0 lim.size) : (e'.out.length : Int) ≤ max 0 lim.size := by
 obtain ⟨rfl,h2⟩ := put_ok h
 rcases h2 with rfl | h2
 ·simpa using hN
 ·simp only at h2 ⊢; omega
theorem enc_len (lim : Lim) : Each (zWrite lim) fun e e' => (e.out.length : Int) ≤ max 0 lim.size → (e'.out.length : Int) ≤ max 0 lim.size := by
 refine ⟨fun d h => h,fun a b c h k x => k (h x),?_,?_,?_,?_⟩
 ·intro op f m set e e' ho _ h hN
  simp only [zWrite,ES.zleaf] at h
  split at h
  ·obtain ⟨n,_,h⟩ := Res.then_ok h
   obtain ⟨_,_,h⟩ := Res.then_ok h
   exact put_len h hN
  ·obtain ⟨n,_,h⟩ := Res.then_ok h
   obtain ⟨_,_,h⟩ := Res.then_ok h
   exact put_len h hN
 ·intro v n e x _ h hN
  simp only [zWrite,ES.zlist] at h
  obtain ⟨n,_,h⟩ := Res.then_ok h
  split at h
  ·obtain ⟨_,_,h⟩ := Res.then_ok h
   obtain ⟨e',h1,h⟩ := Res.then_ok h
   cases h
   exact put_len h1 hN
  ·obtain ⟨_,_,h⟩ := Res.then_ok h
   obtain ⟨e',h1,h⟩ := Res.then_ok h
   cases h
   exact put_len h1 hN
 ·intro e x h hN
  simp only [zWrite,ES.option] at h
  obtain ⟨n,_,h⟩ := Res.then_ok h
  obtain ⟨_,_,h⟩ := Res.then_ok h
  obtain ⟨e',h1,h⟩ := Res.then_ok h
  cases h
  exact put_len h1 hN
 ·intro of_ set which e x h hN
  simp only [zWrite,ES.zunion] at h
  obtain ⟨n,_,h⟩ := Res.then_ok h
  obtain ⟨_,_,h⟩ := Res.then_ok h
  split at h
  ·cases h
  ·obtain ⟨_,_,h⟩ := Res.then_ok h
   obtain ⟨e',h1,h⟩ := Res.then_ok h
   cases h
   exact put_len h1 hN
theorem encT_len {defs : List (By × Def)} {lim : Lim} {t : Ty} {l : List Nd} {b : By} (ho : okDefs defs) (ht : okT t = true) (h : encT defs lim t l = .ok b) : (b.length : Int) ≤ max 0 lim.size := by
 obtain ⟨e,h1,h2,rfl⟩ := encT_ok h
 exact (enc_len lim).ty ((enc_len lim).sem ho _) t ht h1 (by simp only [List.length_nil]; omega)
theorem w_Back {w : World} (hg : Gl w) (c : Int) (hc : -9223372036854775808 ≤ c ∧ c ≤ 9223372036854775807) {l : List Nd} {lv : Value} (hl : NsAt w lv l) (hnb : ∀ n ∈ l,n.s.length ≤ 140737488355328) (hno : ∀ n ∈ l,NdOk n) (hlb : l.length ≤ 140737488355328) :
  Calls P n_marshalkeep_Back #[.int .i64 c,lv] w (Law w) := by
 refine Law.R fun R hR => ?_
 apply o_marshalkeep_Back
 unfold s_marshalkeep_Back
 refine Cl.ret (w_spec hg) ?_
 rintro v w2 ⟨⟨sb,rfl⟩,⟨d,hk⟩,hg2,k2⟩
 have hl' := hl
 obtain ⟨⟨aa,ac,rfl⟩,_⟩ := hl'
 by_cases hb : (l.length : Int) > 400
 ·have hb' : decide (((l.length : Nat) : Int) > 400) = true := decide_eq_true hb
  repeat' (first|refine .a ?_|refine .d ?_|refine .s ?_|refine .t ?_|refine .f ?_|fail)
  exact hR _ _ rfl k2
 have hb' : decide (((l.length : Nat) : Int) > 400) = false := decide_eq_false hb
 repeat' (first|refine .a ?_|refine .d ?_|refine .s ?_|refine .t ?_|refine .f ?_|fail)
 refine Cl.ret (w_kinds c hc) ?_
 rintro v w18 ⟨rfl,k18⟩
 refine Cl.ret w_wide ?_
 rintro v w20 ⟨rfl,k20⟩
 have k020 := (k2.tt k18).tt k20
 have h20 := hk.kp0 (k18.tt k20)
 have hn := keepName_mem c
 have hks := hk.ks
 generalize keepName c = name at *
 refine .s ?_
 refine .s ?_
 refine .s ?_
 refine Cl.w (fun w23 => Kp [] w20 w23 ∧ w23.heap[w20.heap.size]? = some (cl [.int .i64 wideL.depth,.int .i64 wideL.fuel,.int .i64 wideL.size] 32)) ⟨by exact kpA,by exact lookA⟩ ?_
 rintro w23 ⟨k23,n23⟩
 have k023 := k020.tt k23
 have hen := (h20.kp0 k23).encode name wideL (hl.kp k023) hnb hlb
 rw [hks.enc hn wide_valid] at hen
 refine Cl.ret hen ?_
 rintro r w26 ⟨k26,he⟩
 have n26 : w26.heap[w20.heap.size]? = _ := (k26.same _ (lt_of_heap n23) trivial).trans n23
 have k026 := k023.tt k26
 have h26 := h20.kp0 (k23.tt k26)
 cases hm : encT d.defs wideL (.named name 0) l with
 | no e a =>
  rw [hm] at he
  obtain ⟨ev,rfl,fb,rfl,hE⟩ := he
  repeat' (first|refine .a ?_|refine .d ?_|refine .s ?_|refine .t ?_|refine .f ?_|fail)
  exact hR _ _ rfl k026
 | ok b =>
  rw [hm] at he
  have he' : r = .tuple #[κs b,.nilIface] := he
  subst he'
  obtain ⟨v,hv1,hv2⟩ := backT (wl := wideL) hks.ok rfl hm hno (Int.le_refl _) (Int.le_refl _) (by show (100000 : Int) ≤ _; omega)
  obtain ⟨q1,q2,q3,q4,q5⟩ := bigT hks.ok rfl (by simp) hv1
  obtain ⟨e,_,_,_⟩ := encT_ok hm
  have hlen : v.length = l.length := by
   have := congrArg List.length hv2
   simpa using this
  have hbl : (b.length : Int) ≤ 100000 := by
   have := encT_len hks.ok rfl hm
   have h2 : max 0 wideL.size = 100000 := rfl
   omega
  repeat' (first|refine .a ?_|refine .d ?_|refine .s ?_|refine .t ?_|refine .f ?_|fail)
  have two := h26.decode name b wideL
  rw [hks.dec hn wide_valid hbl,hv1] at two
  refine Cl.ret two ?_
  rintro r w33 ⟨k33,hd⟩
  obtain ⟨vv,o,rfl,hgw,_⟩ := hd
  repeat' (first|refine .a ?_|refine .d ?_|refine .s ?_|refine .t ?_|refine .f ?_|fail)
  refine Cl.ret (w_said (hl.kp (k026.tt k33)) (by omega)) ?_
  rintro sv w37 ⟨k37,hs37⟩
  refine Cl.ret (w_same ((Gw.ns hgw).kp k37) hs37 (by omega) (by rw [List.length_map]; omega) false) ?_
  rintro r w39 ⟨rfl,k39⟩
  rw [sameM_strip hv2 (said_strip l)]
  have hrem : ((b.length : Int).tmod 4 == 0) = true := by
   obtain ⟨m,hm4⟩ := q1
   rw [hm4,beq_iff_eq,Int.tmod_eq_emod_of_nonneg (by omega)]
   omega
  have hpos : decide ((b.length : Int) > 0) = true := decide_eq_true (by omega)
  repeat' (first|refine .a ?_|refine .d ?_|refine .s ?_|refine .t ?_|refine .f ?_|fail)
  exact hR _ _ hpos (((k026.tt k33).tt k37).tt k39)
end Go.W.T
