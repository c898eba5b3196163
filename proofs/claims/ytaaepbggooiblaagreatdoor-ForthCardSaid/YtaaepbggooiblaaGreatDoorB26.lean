/- Texts of mine, one behind the other; nothing is assumed. -/
import Derived.Test.YtaaepbggooiblaaGreatDoorB16
import Derived.Test.YtaaepbggooiblaaGreatDoorB25
import Derived.Test.YtaaepbggooiblaaGreatDoorB05
import Derived.Test.YtaaepbggooiblaaGreatDoorB08
set_option linter.unusedSimpArgs false
set_option linter.unusedVariables false
set_option maxRecDepth 4000
namespace Go.W.T
open Go Go.W Go.M Go.Proofs
theorem idle_57 : Idle P 57 := fun v1 v2 w => by
 refine (callsD_idle (keep := []) (args := [v1,v2]) (R := fun en w' => (∃ v,en = .returned v) ∧ w' = w) Tryz.func57 rfl rfl ?_).mono ?_
 ·rw [qe_machine_Decode_1]
  unfold q_machine_Decode_1
  repeat' (first|refine .a ?_|refine .d ?_|refine .s ?_|refine .t ?_|refine .f ?_|fail)
  exact ⟨⟨_,rfl⟩,rfl⟩
 ·rintro en u' w' ⟨h1,h2,h3⟩
  exact ⟨h2,h1,h3⟩
theorem idle_60 : Idle P 60 := fun v1 v2 w => by
 refine (callsD_idle (keep := []) (args := [v1,v2]) (R := fun en w' => (∃ v,en = .returned v) ∧ w' = w) Tryz.func60 rfl rfl ?_).mono ?_
 ·rw [qe_machine_Encode_1]
  unfold q_machine_Encode_1
  repeat' (first|refine .a ?_|refine .d ?_|refine .s ?_|refine .t ?_|refine .f ?_|fail)
  exact ⟨⟨_,rfl⟩,rfl⟩
 ·rintro en u' w' ⟨h1,h2,h3⟩
  exact ⟨h2,h1,h3⟩
theorem idle_30 : Idle P 30 := fun v1 v2 w => by
 refine (callsD_idle (keep := []) (args := [v1,v2]) (R := fun en w' => (∃ v,en = .returned v) ∧ w' = w) Tryz.func30 rfl rfl ?_).mono ?_
 ·rw [qe_marshal_Read_1]
  unfold q_marshal_Read_1
  repeat' (first|refine .a ?_|refine .d ?_|refine .s ?_|refine .t ?_|refine .f ?_|fail)
  exact ⟨⟨_,rfl⟩,rfl⟩
 ·rintro en u' w' ⟨h1,h2,h3⟩
  exact ⟨h2,h1,h3⟩
def ErrAt (w : World) (e a : Nat) (v : Value) : Prop := ∃ fb,v = .iface t_p_api_Fault (pt fb 0) ∧ w.heap[fb]? = some (cl [i64 e,i64 a] t_api_Fault)
theorem dE_57 {R : Ending → World → Prop} {w : World} {lb eb e a : Nat} {x y : Value} {t1 t2 : TypeId} {ch : List PanicEntry} (hf : Flt e a ch w) (hl : w.heap[lb]? = some (cl [x] t1)) (he : w.heap[eb]? = some (cl [y] t2)) (hne : lb ≠ eb)
  (h : ∀ v w3,Kp [(lb,lb + 1),(eb,eb + 1)] w w3 → ErrAt w3 e a v → R (.returned (.tuple #[.slice none 0 0,v])) w3) : dE R 57 (pt lb 0) (pt eb 0) ch w := by
 obtain ⟨b,rfl,hb⟩ := hf
 have hbl : b ≠ lb := by rintro rfl; rw [hl] at hb; simp [cl] at hb
 have hbe : b ≠ eb := by rintro rfl; rw [he] at hb; simp [cl] at hb
 have hll := lt_of_heap hl
 have hle := lt_of_heap he
 have hlb := lt_of_heap hb
 refine ⟨pt b 0,rfl,?_⟩
 refine (callsD_catch (keep := []) (args := [pt lb 0,pt eb 0]) (R := fun en w' => en = .returned (.tuple #[]) ∧ w' = setObjW (setObjW w lb (cl [.slice none 0 0] t1)) eb (cl [.iface 63 (pt b 0)] t2)) Tryz.func57 rfl rfl ?_).mono ?_
 ·rw [qe_machine_Decode_1]
  unfold q_machine_Decode_1
  repeat' (first|refine .a ?_|refine .d ?_|refine .s ?_|refine .t ?_|refine .f ?_|fail)
  rfl
 ·rintro en u' w' ⟨rfl,rfl,rfl⟩
  refine ⟨⟨_,rfl⟩,rfl,?_⟩
  have k : Kp [(lb,lb + 1),(eb,eb + 1)] w (setObjW (setObjW w lb (cl [.slice none 0 0] t1)) eb (cl [.iface 63 (pt b 0)] t2)) := by exact kpA
  repeat' (first|refine .a ?_|refine .d ?_|refine .s ?_|refine .t ?_|refine .f ?_|fail)
  refine h _ _ k ⟨b,rfl,?_⟩
  exact (k.same b hlb ⟨by omega,by omega,trivial⟩).trans hb
theorem dE_60 {R : Ending → World → Prop} {w : World} {lb eb e a : Nat} {x y : Value} {t1 t2 : TypeId} {ch : List PanicEntry} (hf : Flt e a ch w) (hl : w.heap[lb]? = some (cl [x] t1)) (he : w.heap[eb]? = some (cl [y] t2)) (hne : lb ≠ eb)
  (h : ∀ v w3,Kp [(lb,lb + 1),(eb,eb + 1)] w w3 → ErrAt w3 e a v → R (.returned (.tuple #[κs [],v])) w3) : dE R 60 (pt lb 0) (pt eb 0) ch w := by
 obtain ⟨b,rfl,hb⟩ := hf
 have hbl : b ≠ lb := by rintro rfl; rw [hl] at hb; simp [cl] at hb
 have hbe : b ≠ eb := by rintro rfl; rw [he] at hb; simp [cl] at hb
 have hll := lt_of_heap hl
 have hle := lt_of_heap he
 have hlb := lt_of_heap hb
 refine ⟨pt b 0,rfl,?_⟩
 refine (callsD_catch (keep := []) (args := [pt lb 0,pt eb 0]) (R := fun en w' => en = .returned (.tuple #[]) ∧ w' = setObjW (setObjW w lb (cl [.string ⟨#[]⟩] t1)) eb (cl [.iface 63 (pt b 0)] t2)) Tryz.func60 rfl rfl ?_).mono ?_
 ·rw [qe_machine_Encode_1]
  unfold q_machine_Encode_1
  repeat' (first|refine .a ?_|refine .d ?_|refine .s ?_|refine .t ?_|refine .f ?_|fail)
  rfl
 ·rintro en u' w' ⟨rfl,rfl,rfl⟩
  refine ⟨⟨_,rfl⟩,rfl,?_⟩
  have k : Kp [(lb,lb + 1),(eb,eb + 1)] w (setObjW (setObjW w lb (cl [.string ⟨#[]⟩] t1)) eb (cl [.iface 63 (pt b 0)] t2)) := by exact kpA
  repeat' (first|refine .a ?_|refine .d ?_|refine .s ?_|refine .t ?_|refine .f ?_|fail)
  refine h _ _ k ⟨b,rfl,?_⟩
  exact (k.same b hlb ⟨by omega,by omega,trivial⟩).trans hb
def decM (b : By) (r : Res (MS DS)) : Res (List Nd) := r.andThen fun s => if s.d.pos < b.length then .no 20 s.d.pos else .ok s.d.l
def DecAt (n0 : Nat) (w : World) (m : Res (List Nd)) (v : Value) : Prop := match m with
 | .ok l => ∃ lv o,v = .tuple #[lv,.nilIface] ∧ Gw w t_api_Node 5 lv l.length (nodeCells l) o ∧ ∀ b,o = some b → n0 ≤ b
 | .no e a => ∃ ev,v = .tuple #[.slice none 0 0,ev] ∧ ErrAt w e a ev
theorem w_Decode {w : World} {cp : Value} {T : List Nat} {L : List Ins} {tabs : List Tab} (hc : MC w cp T L tabs) (hL : ∀ i ∈ L,insOk L.length tabs i = true) {lim : Lim} {b : By} {pc n : Nat} {r : Res (MS DS)}
  (hr : mrun L lim (readWay L tabs lim) n ⟨pc,[],[],⟨b,0,[]⟩⟩ = some r) (hd : lim.depth ≤ 1000000) (hf : lim.fuel ≤ 1000000) (hb : b.length < 1000000000) :
  Calls P n_machine_Decode #[cp,i64 (pc : Nat),κs b,.agg #[.int .i64 lim.depth,.int .i64 lim.fuel,.int .i64 lim.size]] w (Ret fun v w' => Kp [] w w' ∧ DecAt w.heap.size w' (decM b r) v) := by
 refine Ret.R fun R hR => ?_
 refine qo_machine_Decode idle_57 ?_
 unfold q_machine_Decode
 obtain ⟨cb,rfl⟩ : ∃ cb,cp = pt cb 0 := by obtain ⟨cb,lb,m1,m2,m3,cells,rest,cap,h,_⟩ := hc.c; exact ⟨cb,h⟩
 refine .s ?_
 refine .s ?_
 refine .s ?_
 have s6 : (((w.alloc (cl [.int .i64 lim.depth,.int .i64 lim.fuel,.int .i64 lim.size] 32)).alloc (cl [.slice none 0 0] 34)).alloc (cl [.nilIface] 24)).heap.size = w.heap.size + 3 := by simp only [size_alloc]
 have k6 : Kp [] w (((w.alloc (cl [.int .i64 lim.depth,.int .i64 lim.fuel,.int .i64 lim.size] 32)).alloc (cl [.slice none 0 0] 34)).alloc (cl [.nilIface] 24)) := by exact kpA
 have n1 : (((w.alloc (cl [.int .i64 lim.depth,.int .i64 lim.fuel,.int .i64 lim.size] 32)).alloc (cl [.slice none 0 0] 34)).alloc (cl [.nilIface] 24)).heap[w.heap.size]? = some (cl [.int .i64 lim.depth,.int .i64 lim.fuel,.int .i64 lim.size] 32) := by exact lookA
 have n3 : (((w.alloc (cl [.int .i64 lim.depth,.int .i64 lim.fuel,.int .i64 lim.size] 32)).alloc (cl [.slice none 0 0] 34)).alloc (cl [.nilIface] 24)).heap[w.heap.size + 1]? = some (cl [.slice none 0 0] 34) := by exact lookA
 have n5 : (((w.alloc (cl [.int .i64 lim.depth,.int .i64 lim.fuel,.int .i64 lim.size] 32)).alloc (cl [.slice none 0 0] 34)).alloc (cl [.nilIface] 24)).heap[w.heap.size + 2]? = some (cl [.nilIface] 24) := by exact lookA
 generalize (((w.alloc (cl [.int .i64 lim.depth,.int .i64 lim.fuel,.int .i64 lim.size] 32)).alloc (cl [.slice none 0 0] 34)).alloc (cl [.nilIface] 24)) = w6 at *
 repeat' (first|refine .a ?_|refine .d ?_|refine .s ?_|refine .t ?_|refine .f ?_|fail)
 refine Cl.w (fun w9 => Kp [] w6 w9 ∧ w6.heap.size + 2 ≤ w9.heap.size ∧ w9.heap[w6.heap.size]? = some (cl (dcells ⟨b,0,[]⟩ (.slice none 0 0) lim (pt cb 0)) t_machine_decoder) ∧ w9.heap[w6.heap.size + 1]? = some (cl (mcells (pt cb 0) (.iface 142 (pt w6.heap.size 0)) lim 0 (.slice none 0 0) (.slice none 0 0)) t_machine_machine))
  ⟨by exact kpA,by simp only [size_alloc]; omega,by show _ = some (cl [κs b,.int .i64 0,.slice none 0 0,.int .i64 lim.depth,.int .i64 lim.fuel,.int .i64 lim.size,pt cb 0] 146); exact lookA,by show _ = some (cl [pt cb 0,.int .i64 lim.depth,.int .i64 lim.fuel,.int .i64 lim.size,.iface 142 (pt w6.heap.size 0),.int .i64 0,.slice none 0 0,.slice none 0 0] 154); exact lookA⟩ ?_
 rintro w9 ⟨k9,z9,nd,nm⟩
 have hrun := w_mrun (w0 := w6) (mb := w6.heap.size + 1) (cp := pt cb 0) (iv := .iface 142 (pt w6.heap.size 0)) (me := pt w6.heap.size 0) (lim := lim) (io := readWay L tabs lim) (Inv := fun F w d => DR w6.heap.size w6.heap.size (pt cb 0) lim F w d)
  (T := T) (L := L) (tabs := tabs) (n := n) (s := ⟨pc,[],[],⟨b,0,[]⟩⟩) (F := fun i => i = w6.heap.size) (G := fun i => i = w6.heap.size + 1) (w := w9) (r := r) (readC (hc.kp k6) hL) (hc.kp k6) hL hd
  {hM := Nat.le_refl _,c := ⟨_,none,nd,Gw.nil _ _ _,(fun b h => by cases h)⟩,fd := rfl,fM := fun b e => by rw [e]; exact Nat.le_refl _,fl := fun b e => by rw [e]; omega,pos := Nat.zero_le _,bl := hb,lf := hf }
  {hM := by omega,c := ⟨_,_,none,none,nm,Gw.nil _ _ _,Gw.nil _ _ _,(fun b h => by cases h),(fun b h => by cases h)⟩,gm := rfl,gM := fun b e => by rw [e]; omega,gl := fun b e => by rw [e]; omega,bl := by simp,ll := by simp,lv := by simp }
  (fun i h1 h2 => by omega) k9 hr
 have hlc : ∀ {w' : World},Kp [] w6 w' → w'.heap[w.heap.size + 1]? = some (cl [.slice none 0 0] 34) := fun k => (k.same _ (by omega) trivial).trans n3
 have hec : ∀ {w' : World},Kp [] w6 w' → w'.heap[w.heap.size + 1 + 1]? = some (cl [.nilIface] 24) := fun k => (k.same _ (by omega) trivial).trans n5
 refine Cl.by hrun ?_ ?_ ?_
 ·rintro v w1 ⟨k1,h2⟩
  cases r with
  | no e a => obtain ⟨ch,hv,_⟩ := h2; cases hv
  | ok s' =>
   obtain ⟨F',hv,hD⟩ := h2
   cases hv
   obtain ⟨lv,o,c1,c2,c3⟩ := hD.c
   have hdb := hD.fM
   have hlt := lt_of_heap c1
   refine Jn.by (fun _ w' => w' = w1 ∧ ¬ s'.d.pos < b.length) (fun J hJ => ?_) ?_
   ·repeat' (first|refine .a ?_|refine .d ?_|refine .s ?_|refine .t ?_|refine .f ?_|fail)
    refine .split (fun hc => ?_) (fun hc => ?_)
    ·have hc' : (s'.d.pos : Int) < (b.length : Nat) := of_decide_eq_true hc
     repeat' (first|refine .a ?_|refine .d ?_|refine .s ?_|refine .t ?_|refine .f ?_|fail)
     refine Cl.mfail fun ch w2 hF k2 => ?_
     refine dE_57 hF (hlc (k1.tt k2)) (hec (k1.tt k2)) (by omega) ?_
     intro v w3 k3 hE
     refine hR _ _ ⟨(k6.tt (k1.tt k2)).trans k3 (fun i hi _ => ⟨trivial,by omega,by omega,trivial⟩),?_⟩
     rw [decM,Res.ok_then,if_pos (by omega)]
     exact ⟨v,rfl,hE⟩
    ·have hc' : ¬ (s'.d.pos : Int) < (b.length : Nat) := of_decide_eq_false hc
     exact hJ _ _ ⟨rfl,by omega⟩
   ·rintro _ w' jk ⟨rfl,hle⟩
    have hl1 := hlc k1
    have he1 := hec k1
    obtain ⟨la,lc,rfl⟩ := c2.len
    have hob : ∀ b,o = some b → w6.heap.size ≤ b := fun b hb => hdb b (c3 b hb).2
    have hz := k1.size
    repeat' (first|refine .a ?_|refine .d ?_|refine .s ?_|refine .t ?_|refine .f ?_|fail)
    refine (fun (Q : ∀ w9,Kp [(w.heap.size + 1,w.heap.size + 2),(w.heap.size + 1 + 1,w.heap.size + 3)] w' w9 → R (.returned (.tuple #[.slice la s'.d.l.length lc,.nilIface])) w9) => Q _ (by exact kpA)) ?_
    intro w3 k3
    refine hR _ _ ⟨(k6.tt k1).trans k3 (fun i hi _ => ⟨trivial,by omega,by omega,trivial⟩),?_⟩
    rw [decM,Res.ok_then,if_neg hle]
    exact ⟨_,o,rfl,c2.kp k3 (fun b hb => by have := hob b hb; exact ⟨by omega,by omega,trivial⟩),fun b hb => by have := hob b hb; omega⟩
 ·rintro ch w1 ⟨k1,h2⟩
  cases r with
  | ok s' => obtain ⟨_,hv,_⟩ := h2; cases hv
  | no e a =>
   obtain ⟨ch',hv,hF⟩ := h2
   cases hv
   refine dE_57 hF (hlc k1) (hec k1) (by omega) ?_
   intro v w3 k3 hE
   refine hR _ _ ⟨?_,v,rfl,hE⟩
   exact (k6.tt k1).trans k3 (fun i hi _ => ⟨trivial,by omega,by omega,trivial⟩)
 ·rintro w1 ⟨k1,h2⟩
  cases r with
  | ok s' => obtain ⟨_,hv,_⟩ := h2; cases hv
  | no e a => obtain ⟨_,hv,_⟩ := h2; cases hv
end Go.W.T
namespace Go.W.T
open Go Go.W Go.M Go.Proofs
theorem u238 : P.underlying 238 = some (.pointer 5) := by kernel_rfl
theorem cells5 : P.cellsOf 5 = 1 := by kernel_rfl
theorem run_sliceData {w w' : World} {v x : Value} (h : (Builtin.unsafeSliceData_ #[137] 238 #[x]).run P w = .ok v w') : (builtin .unsafeSliceData #[137] 238 #[false] #[x]).run P w = .ok (.value v) w' := by
 show Sem.run P (do pure (Next.value (← Builtin.unsafeSliceData_ #[137] 238 #[x]))) w = _
 simp only [Sem.run_bind,h,Result.andThen_ok,Sem.run_pure]
theorem run_stringOf {w w' : World} {v x y : Value} (h : (Builtin.unsafeString_ #[238,3] 9 #[x,y]).run P w = .ok v w') : (builtin .unsafeString #[238,3] 9 #[false,false] #[x,y]).run P w = .ok (.value v) w' := by
 show Sem.run P (do pure (Next.value (← Builtin.unsafeString_ #[238,3] 9 #[x,y]))) w = _
 simp only [Sem.run_bind,h,Result.andThen_ok,Sem.run_pure]
theorem Kp.freeze (w : World) (b n : Nat) : Kp [(b,b + 1)] w (w.freeze ⟨b,0,none⟩ n) := by
 unfold World.freeze
 split
 ·exact Kp.refl _ _
 ·refine ⟨rfl,rfl,rfl,by simp,fun i hi ho => ?_⟩
  have hne : b ≠ i := by have := ho.1; omega
  simp only [Array.getElem?_modify,hne,if_false]
theorem w_bstr {w : World} {eb : Nat} {c0 c1 c2 c3 c4 c5 a buf : Value} {o : Option Nat} (out : By) (h : w.heap[eb]? = some (cl [c0,c1,c2,c3,c4,c5,a,buf] t_machine_encoder)) (hg : Gw w 5 1 buf out.length (bCells out) o) (ho : ∀ b,o = some b → b ≠ eb) (hn : out.length ≤ 4000000000) :
  Calls P n_strings_Builder_String #[pt eb 6] w (Ret fun v w' => v = κs out ∧ Kp (own o) w w') := by
 refine Ret.R fun R hR => ?_
 apply o_strings_Builder_String
 unfold s_strings_Builder_String
 have hlt := lt_of_heap h
 obtain ⟨hl,hg2⟩ := hg
 cases o with
 | none =>
  obtain ⟨rfl,hz⟩ := hg2
  have ho0 : out = [] := List.length_eq_zero_iff.mp hz
  subst ho0
  repeat' (first|refine .a ?_|refine .d ?_|refine .s ?_|refine .t ?_|refine .f ?_|fail)
  refine CallN.val (run_sliceData (Lib.run_unsafeSliceData_nil _ _ _ _ _)) ?_
  refine ⟨by repeat' (first | refine .a ?_ | refine .d ?_ | refine .s ?_ | refine .t ?_ | refine .f ?_ | fail)
             rfl, ?_⟩
  refine CallN.val (run_stringOf (Lib.run_unsafeString_none _ _ _ _ _)) ?_
  exact hR _ _ ⟨rfl,by exact kpA⟩
 | some b =>
  obtain ⟨rest,cap,rfl,hbb,hcap⟩ := hg2
  have hblt := lt_of_heap hbb
  have hbe := ho b rfl
  rw [bCells_len] at hcap
  repeat' (first|refine .a ?_|refine .d ?_|refine .s ?_|refine .t ?_|refine .f ?_|fail)
  by_cases hz : cap = 0
  ·subst hz
   have ho0 : out = [] := List.length_eq_zero_iff.mp (by omega)
   subst ho0
   refine CallN.val (run_sliceData (Lib.run_unsafeSliceData_zero _ _ _ 5 u238 ⟨b,0,none⟩ _ (5,rest.length) (by have hb' : w.drew.heap[b]? = _ := hbb; simp [World.shape?,hb',cl,bCells]))) ?_
   refine ⟨by repeat' (first | refine .a ?_ | refine .d ?_ | refine .s ?_ | refine .t ?_ | refine .f ?_ | fail)
              rfl, ?_⟩
   refine CallN.val (run_stringOf (Lib.run_unsafeString_none _ _ _ _ _)) ?_
   exact hR _ _ ⟨rfl,by exact kpA⟩
  ·refine CallN.val (run_sliceData (Lib.run_unsafeSliceData_row _ _ _ _ _ _ hz)) ?_
   refine ⟨by repeat' (first | refine .a ?_ | refine .d ?_ | refine .s ?_ | refine .t ?_ | refine .f ?_ | fail)
              rfl, ?_⟩
   by_cases ho0 : out = []
   ·subst ho0
    refine CallN.val (run_stringOf (Lib.run_unsafeString_none _ _ _ _ _)) ?_
    exact hR _ _ ⟨rfl,by exact kpA⟩
   ·refine CallN.val (run_stringOf (Lib.run_unsafeString_row _ _ _ _ 5 u238 cells5 b (bCells out ++ rest).length (by have hb' : w.drew.heap[b]? = _ := hbb; simp [World.shape?,hb',cl]) out ho0 (by rw [List.length_append,bCells_len]; omega) (by omega) ?_)) ?_
    ·intro j x hx
     have hb' : w.drew.heap[b]? = _ := hbb
     rw [add_eq,cell_eq,hb']
     simp only [Option.bind_some,cellAt_cells,Nat.zero_add]
     rw [List.getElem?_toArray,List.getElem?_append_left (by rw [bCells_len]; exact (List.getElem?_eq_some_iff.mp hx).1),bCells,List.getElem?_map,hx]
     rfl
    exact hR _ _ ⟨rfl,(by exact kpA : Kp [] w w.drew).trans (Kp.freeze _ _ _) (fun i _ h => ⟨trivial,h⟩)⟩
def encM (l : List Nd) (r : Res (MS ES)) : Res By := r.andThen fun s => if s.d.k < l.length then .no 12 s.d.k else .ok s.d.out
def EncAt (w : World) (m : Res By) (v : Value) : Prop := match m with
 | .ok s => v = .tuple #[κs s,.nilIface]
 | .no e a => ∃ ev,v = .tuple #[κs [],ev] ∧ ErrAt w e a ev
theorem w_Encode {w : World} {cp : Value} {T : List Nat} {L : List Ins} {tabs : List Tab} (hc : MC w cp T L tabs) (hL : ∀ i ∈ L,insOk L.length tabs i = true) {lim : Lim} {l : List Nd} {lv : Value} {pc n : Nat} {r : Res (MS ES)}
  (hl : NsAt w lv l) (hnb : ∀ n ∈ l,n.s.length ≤ 140737488355328) (hlb : l.length ≤ 140737488355328)
  (hr : mrun L lim (writeWay L tabs lim) n ⟨pc,[],[],⟨l,0,[]⟩⟩ = some r) (hd : lim.depth ≤ 1000000) (hf : lim.fuel ≤ 1000000) (hs : lim.size ≤ 1000000) :
  Calls P n_machine_Encode #[cp,i64 (pc : Nat),lv,.agg #[.int .i64 lim.depth,.int .i64 lim.fuel,.int .i64 lim.size]] w (Ret fun v w' => Kp [] w w' ∧ EncAt w' (encM l r) v) := by
 refine Ret.R fun R hR => ?_
 refine qo_machine_Encode idle_60 ?_
 unfold q_machine_Encode
 obtain ⟨cb,rfl⟩ : ∃ cb,cp = pt cb 0 := by obtain ⟨cb,lb,m1,m2,m3,cells,rest,cap,h,_⟩ := hc.c; exact ⟨cb,h⟩
 refine .s ?_
 refine .s ?_
 refine .s ?_
 have s6 : (((w.alloc (cl [.int .i64 lim.depth,.int .i64 lim.fuel,.int .i64 lim.size] 32)).alloc (cl [.string ⟨#[]⟩] 9)).alloc (cl [.nilIface] 24)).heap.size = w.heap.size + 3 := by simp only [size_alloc]
 have k6 : Kp [] w (((w.alloc (cl [.int .i64 lim.depth,.int .i64 lim.fuel,.int .i64 lim.size] 32)).alloc (cl [.string ⟨#[]⟩] 9)).alloc (cl [.nilIface] 24)) := by exact kpA
 have n1 : (((w.alloc (cl [.int .i64 lim.depth,.int .i64 lim.fuel,.int .i64 lim.size] 32)).alloc (cl [.string ⟨#[]⟩] 9)).alloc (cl [.nilIface] 24)).heap[w.heap.size]? = some (cl [.int .i64 lim.depth,.int .i64 lim.fuel,.int .i64 lim.size] 32) := by exact lookA
 have n3 : (((w.alloc (cl [.int .i64 lim.depth,.int .i64 lim.fuel,.int .i64 lim.size] 32)).alloc (cl [.string ⟨#[]⟩] 9)).alloc (cl [.nilIface] 24)).heap[w.heap.size + 1]? = some (cl [.string ⟨#[]⟩] 9) := by exact lookA
 have n5 : (((w.alloc (cl [.int .i64 lim.depth,.int .i64 lim.fuel,.int .i64 lim.size] 32)).alloc (cl [.string ⟨#[]⟩] 9)).alloc (cl [.nilIface] 24)).heap[w.heap.size + 2]? = some (cl [.nilIface] 24) := by exact lookA
 generalize (((w.alloc (cl [.int .i64 lim.depth,.int .i64 lim.fuel,.int .i64 lim.size] 32)).alloc (cl [.string ⟨#[]⟩] 9)).alloc (cl [.nilIface] 24)) = w6 at *
 obtain ⟨⟨la,lc,rfl⟩,hl2⟩ := hl
 have hl6 : NsAt w6 (.slice la l.length lc) l := NsAt.kp ⟨⟨la,lc,rfl⟩,hl2⟩ k6
 repeat' (first|refine .a ?_|refine .d ?_|refine .s ?_|refine .t ?_|refine .f ?_|fail)
 refine Cl.w (fun w9 => Kp [] w6 w9 ∧ w6.heap.size + 2 ≤ w9.heap.size ∧ w9.heap[w6.heap.size]? = some (cl (ecells (.slice la l.length lc) 0 lim (pt cb 0) (.pointer none) (.slice none 0 0)) t_machine_encoder) ∧ w9.heap[w6.heap.size + 1]? = some (cl (mcells (pt cb 0) (.iface 156 (pt w6.heap.size 0)) lim 0 (.slice none 0 0) (.slice none 0 0)) t_machine_machine))
  ⟨by exact kpA,by simp only [size_alloc]; omega,by show _ = some (cl [.slice la l.length lc,.int .i64 0,.int .i64 lim.depth,.int .i64 lim.fuel,.int .i64 lim.size,pt cb 0,.pointer none,.slice none 0 0] 158); exact lookA,by show _ = some (cl [pt cb 0,.int .i64 lim.depth,.int .i64 lim.fuel,.int .i64 lim.size,.iface 156 (pt w6.heap.size 0),.int .i64 0,.slice none 0 0,.slice none 0 0] 154); exact lookA⟩ ?_
 rintro w9 ⟨k9,z9,nd,nm⟩
 have hrun := w_mrun (w0 := w6) (mb := w6.heap.size + 1) (cp := pt cb 0) (iv := .iface 156 (pt w6.heap.size 0)) (me := pt w6.heap.size 0) (lim := lim) (io := writeWay L tabs lim) (Inv := fun F w e => ER w6 w6.heap.size (pt cb 0) lim F w e)
  (T := T) (L := L) (tabs := tabs) (n := n) (s := ⟨pc,[],[],⟨l,0,[]⟩⟩) (F := fun i => i = w6.heap.size) (G := fun i => i = w6.heap.size + 1) (w := w9) (r := r) (writeC (hc.kp k6) hL) (hc.kp k6) hL hd
  {hM := Nat.le_refl _,c := ⟨_,_,_,none,nd,Or.inl rfl,hl6,Gw.nil _ _ _,(fun b h => by cases h)⟩,fd := rfl,fM := fun b e => by rw [e]; exact Nat.le_refl _,fl := fun b e => by rw [e]; omega,kb := Nat.zero_le _,ob := Nat.zero_le _,lf := hf,ls := hs,nb := hnb,lb := hlb }
  {hM := by omega,c := ⟨_,_,none,none,nm,Gw.nil _ _ _,Gw.nil _ _ _,(fun b h => by cases h),(fun b h => by cases h)⟩,gm := rfl,gM := fun b e => by rw [e]; omega,gl := fun b e => by rw [e]; omega,bl := by simp,ll := by simp,lv := by simp }
  (fun i h1 h2 => by omega) k9 hr
 have hlc : ∀ {w' : World},Kp [] w6 w' → w'.heap[w.heap.size + 1]? = some (cl [.string ⟨#[]⟩] 9) := fun k => (k.same _ (by omega) trivial).trans n3
 have hec : ∀ {w' : World},Kp [] w6 w' → w'.heap[w.heap.size + 1 + 1]? = some (cl [.nilIface] 24) := fun k => (k.same _ (by omega) trivial).trans n5
 refine Cl.by hrun ?_ ?_ ?_
 ·rintro v w1 ⟨k1,h2⟩
  cases r with
  | no e a => obtain ⟨ch,hv,_⟩ := h2; cases hv
  | ok s' =>
   obtain ⟨F',hv,hD⟩ := h2
   cases hv
   obtain ⟨lv,a,buf,o,c1,c2,c3,c4,c5⟩ := hD.c
   have hdb := hD.fM
   have hlt := lt_of_heap c1
   have hob := hD.ob
   refine Jn.by (fun _ w' => w' = w1 ∧ ¬ s'.d.k < l.length) (fun J hJ => ?_) ?_
   ·repeat' (first|refine .a ?_|refine .d ?_|refine .s ?_|refine .t ?_|refine .f ?_|fail)
    refine .split (fun hc => ?_) (fun hc => ?_)
    ·have hc' : (s'.d.k : Int) < (l.length : Nat) := of_decide_eq_true hc
     repeat' (first|refine .a ?_|refine .d ?_|refine .s ?_|refine .t ?_|refine .f ?_|fail)
     refine Cl.mfail fun ch w2 hF k2 => ?_
     refine dE_60 hF (hlc (k1.tt k2)) (hec (k1.tt k2)) (by omega) ?_
     intro v w3 k3 hE
     refine hR _ _ ⟨(k6.tt (k1.tt k2)).trans k3 (fun i hi _ => ⟨trivial,by omega,by omega,trivial⟩),?_⟩
     rw [encM,Res.ok_then,if_pos (by omega)]
     exact ⟨v,rfl,hE⟩
    ·have hc' : ¬ (s'.d.k : Int) < (l.length : Nat) := of_decide_eq_false hc
     exact hJ _ _ ⟨rfl,by omega⟩
   ·rintro _ w' jk ⟨rfl,hle⟩
    have hoo : ∀ b,o = some b → w6.heap.size ≤ b := fun b hb => hdb b (c5 b hb).2
    have hz := k1.size
    repeat' (first|refine .a ?_|refine .d ?_|refine .s ?_|refine .t ?_|refine .f ?_|fail)
    refine Cl.ret (w_bstr s'.d.out c1 c4 (fun b hb => (c5 b hb).1) (by omega)) ?_
    rintro v w2 ⟨rfl,k2⟩
    have k12 : Kp [] w6 w2 := k1.trans k2 (fun i hi _ => ⟨trivial,own_out (fun e => by have := hoo i e; omega)⟩)
    have hl1 := hlc k12
    have he1 := hec k12
    have hz2 := k12.size
    repeat' (first|refine .a ?_|refine .d ?_|refine .s ?_|refine .t ?_|refine .f ?_|fail)
    refine (fun (Q : ∀ w9,Kp [(w.heap.size + 1,w.heap.size + 2),(w.heap.size + 1 + 1,w.heap.size + 3)] w2 w9 → R (.returned (.tuple #[κs s'.d.out,.nilIface])) w9) => Q _ (by exact kpA)) ?_
    intro w3 k3
    refine hR _ _ ⟨(k6.tt k12).trans k3 (fun i hi _ => ⟨trivial,by omega,by omega,trivial⟩),?_⟩
    rw [encM,Res.ok_then,if_neg hle]
    exact rfl
 ·rintro ch w1 ⟨k1,h2⟩
  cases r with
  | ok s' => obtain ⟨_,hv,_⟩ := h2; cases hv
  | no e a =>
   obtain ⟨ch',hv,hF⟩ := h2
   cases hv
   refine dE_60 hF (hlc k1) (hec k1) (by omega) ?_
   intro v w3 k3 hE
   refine hR _ _ ⟨?_,v,rfl,hE⟩
   exact (k6.tt k1).trans k3 (fun i hi _ => ⟨trivial,by omega,by omega,trivial⟩)
 ·rintro w1 ⟨k1,h2⟩
  cases r with
  | ok s' => obtain ⟨_,hv,_⟩ := h2; cases hv
  | no e a => obtain ⟨_,hv,_⟩ := h2; cases hv
end Go.W.T
namespace Go.W.T
open Go Go.W Go.M Go.Proofs
theorem dE_30 {R : Ending → World → Prop} {w : World} {lb eb e a : Nat} {x y : Value} {t1 t2 : TypeId} {ch : List PanicEntry} (hf : Flt e a ch w) (hl : w.heap[lb]? = some (cl [x] t1)) (he : w.heap[eb]? = some (cl [y] t2)) (hne : lb ≠ eb)
  (h : ∀ v w3,Kp [(lb,lb + 1),(eb,eb + 1)] w w3 → ErrAt w3 e a v → R (.returned (.tuple #[.pointer none,v])) w3) : dE R 30 (pt lb 0) (pt eb 0) ch w := by
 obtain ⟨b,rfl,hb⟩ := hf
 have hbl : b ≠ lb := by rintro rfl; rw [hl] at hb; simp [cl] at hb
 have hbe : b ≠ eb := by rintro rfl; rw [he] at hb; simp [cl] at hb
 have hll := lt_of_heap hl
 have hle := lt_of_heap he
 have hlb := lt_of_heap hb
 refine ⟨pt b 0,rfl,?_⟩
 refine (callsD_catch (keep := []) (args := [pt lb 0,pt eb 0]) (R := fun en w' => en = .returned (.tuple #[]) ∧ w' = setObjW (setObjW w lb (cl [.pointer none] t1)) eb (cl [.iface 63 (pt b 0)] t2)) Tryz.func30 rfl rfl ?_).mono ?_
 ·rw [qe_marshal_Read_1]
  unfold q_marshal_Read_1
  repeat' (first|refine .a ?_|refine .d ?_|refine .s ?_|refine .t ?_|refine .f ?_|fail)
  rfl
 ·rintro en u' w' ⟨rfl,rfl,rfl⟩
  refine ⟨⟨_,rfl⟩,rfl,?_⟩
  have k : Kp [(lb,lb + 1),(eb,eb + 1)] w (setObjW (setObjW w lb (cl [.pointer none] t1)) eb (cl [.iface 63 (pt b 0)] t2)) := by exact kpA
  repeat' (first|refine .a ?_|refine .d ?_|refine .s ?_|refine .t ?_|refine .f ?_|fail)
  refine h _ _ k ⟨b,rfl,?_⟩
  exact (k.same b hlb ⟨by omega,by omega,trivial⟩).trans hb
def OldIn (n : Nat) (w2 w : World) : Prop := w2.heap.size ≤ w.heap.size ∧ ∀ b,n ≤ b → b < w2.heap.size → w.heap[b]? = w2.heap[b]?
theorem OldIn.kp {n : Nat} {w2 w w' : World} {X : List (Nat × Nat)} (h : OldIn n w2 w) (k : Kp X w w') (hx : ∀ b,n ≤ b → Out X b) : OldIn n w2 w' :=
 ⟨Nat.le_trans h.1 k.size,fun b hb hl => (k.same b (Nat.lt_of_lt_of_le hl h.1) (hx b hb)).trans (h.2 b hb hl)⟩
def SpecAt (w : World) (ds : List Def) (c : CS) (v : Value) : Prop := ∃ sb dv n w1 w2 B H ρ T,v = pt sb 0 ∧ w.heap[sb]? = some (cl [dv,pt (B + 3) 0] 71) ∧ DefsIn n w1 ds dv ∧ OldIn n w1 w ∧ n ≤ B ∧ CR B H ρ T w2 c ∧ OldIn n w2 w
theorem SpecAt.kp0 {w w' : World} {ds : List Def} {c : CS} {v : Value} (h : SpecAt w ds c v) (k : Kp [] w w') : SpecAt w' ds c v := by
 obtain ⟨sb,dv,n,w1,w2,B,H,ρ,T,h1,h2,h3,h4,h5,h6,h7⟩ := h
 exact ⟨sb,dv,n,w1,w2,B,H,ρ,T,h1,(k.same _ (lt_of_heap h2) trivial).trans h2,h3,h4.kp k (fun _ _ => trivial),h5,h6,h7.kp k (fun _ _ => trivial)⟩
theorem Gl.kp0 {w w' : World} (h : Gl w) (k : Kp [] w w') : Gl w' := h.kp k (fun _ _ => trivial)
def ReadAt (w : World) (txt : By) (v : Value) : Prop :=
 if 1200 < txt.length then ∃ ev,v = .tuple #[.pointer none,ev] ∧ ErrAt w 1 0 ev
 else match parse txt with
  | .no e a => ∃ ev,v = .tuple #[.pointer none,ev] ∧ ErrAt w e a ev
  | .ok ds => match compile ds with
   | .no e a => ∃ ev,v = .tuple #[.pointer none,ev] ∧ ErrAt w e a ev
   | .ok c => ∃ sv names,v = .tuple #[sv,.nilIface] ∧ List.Perm names (c.start.map (·.1)) ∧ SpecAt w ds (typesC c names) sv
theorem w_Read {w : World} {txt : By} (hg : Gl w) (hf : ∀ ds,parse txt = .ok ds → fine ds = true) (hlen : txt.length ≤ 140737488355328) :
  Calls P n_marshal_Read #[κs txt] w (Ret fun v w' => Kp [] w w' ∧ Gl w' ∧ ReadAt w' txt v) := by
 refine Ret.R fun R hR => ?_
 refine qo_marshal_Read idle_30 ?_
 unfold q_marshal_Read
 unfold ReadAt at hR
 refine .s ?_
 refine .s ?_
 have k4 : Kp [] w ((w.alloc (cl [.pointer none] 22)).alloc (cl [.nilIface] 24)) := by exact kpA
 have n1 : ((w.alloc (cl [.pointer none] 22)).alloc (cl [.nilIface] 24)).heap[w.heap.size]? = some (cl [.pointer none] 22) := by exact lookA
 have n3 : ((w.alloc (cl [.pointer none] 22)).alloc (cl [.nilIface] 24)).heap[w.heap.size + 1]? = some (cl [.nilIface] 24) := by exact lookA
 have z4 : ((w.alloc (cl [.pointer none] 22)).alloc (cl [.nilIface] 24)).heap.size = w.heap.size + 2 := by simp only [size_alloc]
 generalize ((w.alloc (cl [.pointer none] 22)).alloc (cl [.nilIface] 24)) = w4 at *
 have hg4 := hg.kp0 k4
 have hlc : ∀ {w' : World},Kp [] w4 w' → w'.heap[w.heap.size]? = some (cl [.pointer none] 22) := fun k => (k.same _ (by omega) trivial).trans n1
 have hec : ∀ {w' : World},Kp [] w4 w' → w'.heap[w.heap.size + 1]? = some (cl [.nilIface] 24) := fun k => (k.same _ (by omega) trivial).trans n3
 repeat' (first|refine .a ?_|refine .d ?_|refine .s ?_|refine .t ?_|refine .f ?_|fail)
 refine .split (fun hc => ?_) (fun hc => ?_)
 ·have hc' : (txt.length : Int) > 1200 := of_decide_eq_true hc
  simp only [if_pos (show 1200 < txt.length by omega)] at hR
  repeat' (first|refine .a ?_|refine .d ?_|refine .s ?_|refine .t ?_|refine .f ?_|fail)
  refine (fun (Q : ∀ w9,Kp [(w.heap.size,w.heap.size + 1),(w.heap.size + 1,w.heap.size + 2)] w4 w9 ∧ w9.heap[w4.heap.size]? = some (cl [i64 1,i64 0] 65) → R (.returned (.tuple #[.pointer none,.iface 63 (pt w4.heap.size 0)])) w9) => Q _ ⟨by exact kpA,by exact lookA⟩) ?_
  rintro w9 ⟨k9,n9⟩
  have k09 : Kp [] w w9 := k4.trans k9 (fun i hi _ => ⟨trivial,by omega,by omega,trivial⟩)
  exact hR _ _ ⟨k09,hg.kp0 k09,_,rfl,_,rfl,n9⟩
 ·have hc' : ¬ (txt.length : Int) > 1200 := of_decide_eq_false hc
  simp only [if_neg (show ¬ 1200 < txt.length by omega)] at hR
  refine Cl.by (w_Parse hg4 (by omega)) ?_ ?_ ?_
  ·rintro v w1 ⟨k1,h2⟩
   cases hp : parse txt with
   | no e a => rw [hp] at h2; obtain ⟨_,hv,_⟩ := h2; cases hv
   | ok ds =>
    rw [hp] at h2
    simp only [hp] at hR
    obtain ⟨dv,hv,hg1,hds⟩ := h2
    cases hv
    refine Cl.by (w_Compile hg1 hds (hf ds hp)) ?_ ?_ ?_
    ·rintro v w2 ⟨k2,h3⟩
     cases hcm : compile ds with
     | no e a => rw [hcm] at h3; obtain ⟨_,hv,_⟩ := h3; cases hv
     | ok c =>
      rw [hcm] at h3
      simp only [hcm] at hR
      obtain ⟨cv,hv,hg2,names,hperm,hcode⟩ := h3
      cases hv
      have k42 := k1.tt k2
      have z2 := k42.size
      have hl1 := hlc k42
      have he1 := hec k42
      obtain ⟨H',l',o',q1,q2,q3,q4,q5⟩ := hds
      have q4 := q4
      obtain ⟨da,dc,rfl⟩ := q4.len
      obtain ⟨B,Hc,ρ,Tc,r1,rfl,r3⟩ := hcode
      repeat' (first|refine .a ?_|refine .d ?_|refine .s ?_|refine .t ?_|refine .f ?_|fail)
      refine (fun (Q : ∀ w9,Kp [(w.heap.size,w.heap.size + 1),(w.heap.size + 1,w.heap.size + 2)] w2 w9 ∧ w9.heap[w2.heap.size]? = some (cl [.slice da ds.length dc,pt (B + 3) 0] 71) → R (.returned (.tuple #[pt w2.heap.size 0,.nilIface])) w9) => Q _ ⟨by exact kpA,by exact lookA⟩) ?_
      rintro w9 ⟨k9,n9⟩
      have k09 : Kp [] w w9 := (k4.tt k42).trans k9 (fun i hi _ => ⟨trivial,by omega,by omega,trivial⟩)
      have o1 : OldIn w4.heap.size w1 w9 := (show OldIn w4.heap.size w1 w2 from ⟨k2.size,fun b _ hl => k2.same b hl trivial⟩).kp k9 (fun b hb => ⟨by omega,by omega,trivial⟩)
      have o2 : OldIn w4.heap.size w2 w9 := (show OldIn w4.heap.size w2 w2 from ⟨Nat.le_refl _,fun b _ _ => rfl⟩).kp k9 (fun b hb => ⟨by omega,by omega,trivial⟩)
      exact hR _ _ ⟨k09,hg.kp0 k09,_,names,rfl,hperm,w2.heap.size,_,w4.heap.size,w1,w2,B,Hc,ρ,Tc,rfl,n9,⟨H',l',o',q1,q2,q3,q4,q5⟩,o1,by have := k1.size; omega,r3,o2⟩
    ·rintro ch w2 ⟨k2,h3⟩
     cases hcm : compile ds with
     | ok c => rw [hcm] at h3; obtain ⟨_,hv,_⟩ := h3; cases hv
     | no e a =>
      rw [hcm] at h3
      simp only [hcm] at hR
      obtain ⟨ch',hv,hF⟩ := h3
      cases hv
      refine dE_30 hF (hlc (k1.tt k2)) (hec (k1.tt k2)) (by omega) ?_
      intro v w3 k3 hE
      have k03 : Kp [] w w3 := (k4.tt (k1.tt k2)).trans k3 (fun i hi _ => ⟨trivial,by omega,by omega,trivial⟩)
      exact hR _ _ ⟨k03,hg.kp0 k03,v,rfl,hE⟩
    ·rintro w2 ⟨k2,h3⟩
     cases hcm : compile ds with
     | ok c => rw [hcm] at h3; obtain ⟨_,hv,_⟩ := h3; cases hv
     | no e a => rw [hcm] at h3; obtain ⟨_,hv,_⟩ := h3; cases hv
  ·rintro ch w1 ⟨k1,h2⟩
   cases hp : parse txt with
   | ok ds => rw [hp] at h2; obtain ⟨_,hv,_⟩ := h2; cases hv
   | no e a =>
    rw [hp] at h2
    simp only [hp] at hR
    obtain ⟨ch',hv,hF⟩ := h2
    cases hv
    refine dE_30 hF (hlc k1) (hec k1) (by omega) ?_
    intro v w3 k3 hE
    have k03 : Kp [] w w3 := (k4.tt k1).trans k3 (fun i hi _ => ⟨trivial,by omega,by omega,trivial⟩)
    exact hR _ _ ⟨k03,hg.kp0 k03,v,rfl,hE⟩
  ·rintro w1 ⟨k1,h2⟩
   cases hp : parse txt with
   | ok ds => rw [hp] at h2; obtain ⟨_,hv,_⟩ := h2; cases hv
   | no e a => rw [hp] at h2; obtain ⟨_,hv,_⟩ := h2; cases hv
end Go.W.T
namespace Go.W.T
open Go Go.W Go.M Go.Proofs
abbrev limV (l : Lim) : Value := .agg #[.int .i64 l.depth,.int .i64 l.fuel,.int .i64 l.size]
theorem w_valid {w : World} (l : Lim) : Calls P n_marshal_valid #[limV l] w (Ret fun v w' => v = .bool l.valid ∧ Kp [] w w') := by
 refine Ret.R fun R hR => ?_
 apply o_marshal_valid
 unfold s_marshal_valid
 have hR' : ∀ (b : Bool) w',b = l.valid → Kp [] w w' → R (.returned (.bool b)) w' := fun b w' hb hk => hR _ _ ⟨by rw [hb],hk⟩
 unfold Lim.valid at hR'
 refine .s ?_
 have k1 : Kp [] w (w.alloc (cl [.int .i64 l.depth,.int .i64 l.fuel,.int .i64 l.size] 32)) := by exact kpA
 have n1 : (w.alloc (cl [.int .i64 l.depth,.int .i64 l.fuel,.int .i64 l.size] 32)).heap[w.heap.size]? = some (cl [.int .i64 l.depth,.int .i64 l.fuel,.int .i64 l.size] 32) := by exact lookA
 generalize w.alloc (cl [.int .i64 l.depth,.int .i64 l.fuel,.int .i64 l.size] 32) = w1 at *
 refine .s ?_
 refine .s ?_
 refine .s ?_
 have g : ∀ a b : Int,decide (a ≥ b) = decide (b ≤ a) := fun _ _ => rfl
 rw [g]
 cases h1 : decide (0 ≤ l.depth) with
 | false =>
  rw [h1] at hR'
  repeat' (first|refine .a ?_|refine .d ?_|refine .s ?_|refine .t ?_|refine .f ?_|fail)
  exact hR' _ _ (by simp) k1
 | true =>
 cases h2 : decide (l.depth ≤ 64) with
 | false =>
  rw [h1,h2] at hR'
  repeat' (first|refine .a ?_|refine .d ?_|refine .s ?_|refine .t ?_|refine .f ?_|fail)
  exact hR' _ _ (by simp) k1
 | true =>
 have h3' : decide (l.fuel ≥ 0) = decide (0 ≤ l.fuel) := rfl
 cases h3 : decide (0 ≤ l.fuel) with
 | false =>
  rw [h1,h2,h3] at hR'
  rw [h3] at h3'
  repeat' (first|refine .a ?_|refine .d ?_|refine .s ?_|refine .t ?_|refine .f ?_|fail)
  exact hR' _ _ (by simp) k1
 | true =>
 rw [h3] at h3'
 cases h4 : decide (l.fuel ≤ 10000) with
 | false =>
  rw [h1,h2,h3,h4] at hR'
  repeat' (first|refine .a ?_|refine .d ?_|refine .s ?_|refine .t ?_|refine .f ?_|fail)
  exact hR' _ _ (by simp) k1
 | true =>
 have h5' : decide (l.size ≥ 0) = decide (0 ≤ l.size) := rfl
 cases h5 : decide (0 ≤ l.size) with
 | false =>
  rw [h1,h2,h3,h4,h5] at hR'
  rw [h5] at h5'
  repeat' (first|refine .a ?_|refine .d ?_|refine .s ?_|refine .t ?_|refine .f ?_|fail)
  exact hR' _ _ (by simp) k1
 | true =>
 rw [h5] at h5'
 rw [h1,h2,h3,h4,h5] at hR'
 repeat' (first|refine .a ?_|refine .d ?_|refine .s ?_|refine .t ?_|refine .f ?_|fail)
 exact hR' _ _ (by simp) k1
theorem SpecAt.types {w : World} {ds : List Def} {d : CS} {v : Value} (h : SpecAt w ds d v) : ∃ sb dv B lv es ck,v = pt sb 0 ∧ w.heap[sb]? = some (cl [dv,pt (B + 3) 0] 71) ∧ w.heap[B + 3]? = some (cl [lv,.map (some B),.map (some (B + 1)),.map (some (B + 2))] t_code_Code) ∧
  w.heap[B]? = some (.map es ck) ∧ MK κs es ck (d.types.map fun x => (x.1,i64 (x.2 : Nat))) ∧ (0 < d.L.length → d.L.length < 1000000 → ∃ T,MC w (pt (B + 3) 0) T d.L d.tabs) := by
 obtain ⟨sb,dv,n,w1,w2,B,H,ρ,T,h1,h2,h3,h4,h5,h6,h7⟩ := h
 have hlt := h6.lt
 have same : ∀ b,n ≤ b → b < w2.heap.size → w.heap[b]? = w2.heap[b]? := h7.2
 obtain ⟨lv,cells,o,a1,a2,a3,a4⟩ := h6.L
 obtain ⟨es,ck,t1,t2⟩ := h6.types
 refine ⟨sb,dv,B,lv,es,ck,h1,h2,(same _ (by omega) (by omega)).trans a1,(same _ (by omega) (by omega)).trans t1,t2,fun hl hm => ⟨T,?_⟩⟩
 have big : ∀ b,ρ b ≠ (0,0) → B + 7 ≤ b := fun b hb => by
  rcases Nat.lt_or_ge b (B + 7) with h | h
  ·exact absurd (h6.low b h) hb
  ·exact h
 refine ⟨?_,⟨h6.tlen,fun i b l hb hl => ?_⟩,hm⟩
 ·cases o with
  | none => obtain ⟨_,_,h0⟩ := a2; omega
  | some b =>
   obtain ⟨_,rest,cap,rfl,b2,b3⟩ := a2
   have hb := big b (by rw [a4 b rfl]; simp)
   exact ⟨B + 3,b,_,_,_,cells,rest,cap,rfl,(same _ (by omega) (by omega)).trans a1,(same b (by omega) (lt_of_heap b2)).trans b2,a3⟩
 ·obtain ⟨x1,x2⟩ := h6.tabs i b l hb hl
  obtain ⟨es,ck,y1,y2⟩ := x1
  have hbb := big b (by rw [x2]; simp)
  exact ⟨es,ck,(same b (by omega) (lt_of_heap y1)).trans y1,y2⟩
theorem w_find {w : World} {ds : List Def} {d : CS} {v : Value} (h : SpecAt w ds d v) (name : By) (lim : Lim) :
  Calls P n_marshal_Spec_find #[v,κs name,limV lim] w (Ret fun r w' => Kp [] w w' ∧ r = match d.types.lookup name with
   | none => .tuple #[i64 0,.iface 54 (i64 10)]
   | some p => if lim.valid then .tuple #[i64 (p : Nat),.nilIface] else .tuple #[i64 0,.iface 54 (i64 11)]) := by
 refine Ret.R fun R hR => ?_
 apply o_marshal_Spec_find
 unfold s_marshal_Spec_find
 obtain ⟨sb,dv,B,lv,es,ck,rfl,h2,h3,h4,h5,_⟩ := h.types
 have hR' : ∀ (r : Value) (w' : World),Kp [] w w' → (r = match d.types.lookup name with
   | none => .tuple #[i64 0,.iface 54 (i64 10)]
   | some p => if lim.valid then .tuple #[i64 (p : Nat),.nilIface] else .tuple #[i64 0,.iface 54 (i64 11)]) → R (.returned r) w' := fun r w' hk hr => hR _ _ ⟨hk,hr⟩
 clear hR
 refine .s ?_
 have k1 : Kp [] w (w.alloc (cl [.int .i64 lim.depth,.int .i64 lim.fuel,.int .i64 lim.size] 32)) := by exact kpA
 have n1 : (w.alloc (cl [.int .i64 lim.depth,.int .i64 lim.fuel,.int .i64 lim.size] 32)).heap[w.heap.size]? = some (cl [.int .i64 lim.depth,.int .i64 lim.fuel,.int .i64 lim.size] 32) := by exact lookA
 generalize w.alloc (cl [.int .i64 lim.depth,.int .i64 lim.fuel,.int .i64 lim.size] 32) = w1 at *
 have e2 : w1.heap[sb]? = _ := (k1.same _ (lt_of_heap h2) trivial).trans h2
 have e3 : w1.heap[B + 3]? = _ := (k1.same _ (lt_of_heap h3) trivial).trans h3
 have e4 : w1.heap[B]? = _ := (k1.same _ (lt_of_heap h4) trivial).trans h4
 repeat' (first|refine .a ?_|refine .d ?_|refine .s ?_|refine .t ?_|refine .f ?_|fail)
 refine Lk.str h5 e4 ?_
 rw [lookup_map (fun k : Nat => i64 (k : Nat))]
 cases hl : d.types.lookup name with
 | none =>
  rw [hl] at hR'
  repeat' (first|refine .a ?_|refine .d ?_|refine .s ?_|refine .t ?_|refine .f ?_|fail)
  exact hR' _ _ k1 rfl
 | some p =>
  rw [hl] at hR'
  simp only [Option.map_some,Option.isSome_some,Option.getD_some]
  repeat' (first|refine .a ?_|refine .d ?_|refine .s ?_|refine .t ?_|refine .f ?_|fail)
  refine Cl.ret (w_valid lim) ?_
  rintro v w2 ⟨rfl,k2⟩
  cases hv : lim.valid with
  | false =>
   rw [hv] at hR'
   repeat' (first|refine .a ?_|refine .d ?_|refine .s ?_|refine .t ?_|refine .f ?_|fail)
   exact hR' _ _ (k1.tt k2) rfl
  | true =>
   rw [hv] at hR'
   repeat' (first|refine .a ?_|refine .d ?_|refine .s ?_|refine .t ?_|refine .f ?_|fail)
   exact hR' _ _ (k1.tt k2) rfl
def OcDec (n0 : Nat) (w : World) (m : Oc (List Nd)) (v : Value) : Prop := match m with
 | .ok l => ∃ lv o,v = .tuple #[lv,.nilIface] ∧ Gw w t_api_Node 5 lv l.length (nodeCells l) o ∧ ∀ b,o = some b → n0 ≤ b
 | .flt e a => ∃ ev,v = .tuple #[.slice none 0 0,ev] ∧ ErrAt w e a ev
 | .num e => v = .tuple #[.slice none 0 0,.iface 54 (i64 e)]
def OcEnc (w : World) (m : Oc By) (v : Value) : Prop := match m with
 | .ok s => v = .tuple #[κs s,.nilIface]
 | .flt e a => ∃ ev,v = .tuple #[κs [],ev] ∧ ErrAt w e a ev
 | .num e => v = .tuple #[κs [],.iface 54 (i64 e)]
theorem w_SDecode {w : World} {ds : List Def} {c d : CS} {v : Value} (h : SpecAt w ds d v) (hw : Whole ds c d) (name b : By) (lim : Lim) :
  Calls P n_marshal_Spec_Decode #[v,κs name,κs b,limV lim] w (Ret fun r w' => Kp [] w w' ∧ OcDec w.heap.size w' (decS d lim name b) r) := by
 refine Ret.R fun R hR => ?_
 apply o_marshal_Spec_Decode
 unfold s_marshal_Spec_Decode
 refine .s ?_
 have k1 : Kp [] w (w.alloc (cl [.int .i64 lim.depth,.int .i64 lim.fuel,.int .i64 lim.size] 32)) := by exact kpA
 have n1 : (w.alloc (cl [.int .i64 lim.depth,.int .i64 lim.fuel,.int .i64 lim.size] 32)).heap[w.heap.size]? = some (cl [.int .i64 lim.depth,.int .i64 lim.fuel,.int .i64 lim.size] 32) := by exact lookA
 generalize w.alloc (cl [.int .i64 lim.depth,.int .i64 lim.fuel,.int .i64 lim.size] 32) = w1 at *
 have h1 := h.kp0 k1
 refine .s ?_
 refine Cl.ret (w_find h1 name lim) ?_
 rintro r w2 ⟨k2,rfl⟩
 have k02 := k1.tt k2
 have hR' : ∀ (r : Value) (w' : World),Kp [] w w' → OcDec w.heap.size w' (decS d lim name b) r → R (.returned r) w' := fun r w' hk hr => hR _ _ ⟨hk,hr⟩
 clear hR
 have hhas := hw.has name
 unfold decS at hR'
 cases hl : d.types.lookup name with
 | none =>
  rw [hl] at hhas
  rw [show (d.start.lookup name).isNone = true by cases hs : d.start.lookup name <;> simp [hs] at hhas ⊢] at hR'
  repeat' (first|refine .a ?_|refine .d ?_|refine .s ?_|refine .t ?_|refine .f ?_|fail)
  exact hR' _ _ k02 (by simp only [if_true]; rfl)
 | some p =>
  rw [hl] at hhas
  rw [show (d.start.lookup name).isNone = false by cases hs : d.start.lookup name <;> simp [hs] at hhas ⊢] at hR'
  cases hv : lim.valid with
  | false =>
   rw [hv] at hR'
   repeat' (first|refine .a ?_|refine .d ?_|refine .s ?_|refine .t ?_|refine .f ?_|fail)
   exact hR' _ _ k02 rfl
  | true =>
   rw [hv] at hR'
   have n2 : w2.heap[w.heap.size]? = _ := (k2.same _ (by have := lt_of_heap n1; omega) trivial).trans n1
   obtain ⟨⟨v1,v2⟩,⟨v3,v4⟩,v5,v6⟩ := Lim.valid_iff.mp hv
   simp only [Bool.false_eq_true,if_false,Bool.not_true] at hR'
   simp only [if_true]
   repeat' (first|refine .a ?_|refine .d ?_|refine .s ?_|refine .t ?_|refine .f ?_|fail)
   refine .split (fun hc => ?_) (fun hc => ?_)
   ·have hc' : (b.length : Int) > lim.size := of_decide_eq_true hc
    rw [if_pos (by omega)] at hR'
    repeat' (first|refine .a ?_|refine .d ?_|refine .s ?_|refine .t ?_|refine .f ?_|fail)
    refine hR' _ _ (by exact kpA) ⟨_,rfl,w2.heap.size,rfl,heap_alloc_self ..⟩
   ·have hc' : ¬ (b.length : Int) > lim.size := of_decide_eq_false hc
    rw [if_neg (by omega)] at hR'
    have h2 := h.kp0 k02
    obtain ⟨sb,dv,B,lv,es,ck,rfl,a2,a3,a4,a5,a6⟩ := h2.types
    obtain ⟨t,e1,e2,e3⟩ := hw.ent name p hl
    obtain ⟨T,hmc⟩ := a6 (by have := lt_len e2; omega) hw.len
    repeat' (first|refine .a ?_|refine .d ?_|refine .s ?_|refine .t ?_|refine .f ?_|fail)
    obtain ⟨n,hr⟩ := hw.run (lim := lim) (ways_read d.L d.tabs lim) (by omega) hl ⟨b,0,[]⟩
    refine Cl.ret (w_Decode (hmc.kp (by exact kpA)) hw.all hr (by omega) (by omega) (by omega)) ?_
    rintro r w3 ⟨k3,hd⟩
    have k03 : Kp [] w w3 := k02.tt ((by exact kpA : Kp [] w2 w2.drew).tt k3)
    have he : decM b ((sem (zRead lim) d.defs lim.depth.toNat name ⟨b,0,[]⟩).andThen fun y => .ok ⟨p + 1,[],[],y⟩) = decT d.defs lim (.named name 0) b := by
     unfold decM decT
     rw [Res.assoc,semT]
     rfl
    rw [he] at hd
    cases hm : decT d.defs lim (.named name 0) b with
    | no e a =>
     rw [hm] at hd hR'
     obtain ⟨ev,rfl,hE⟩ := hd
     repeat' (first|refine .a ?_|refine .d ?_|refine .s ?_|refine .t ?_|refine .f ?_|fail)
     exact hR' _ _ k03 ⟨_,rfl,hE⟩
    | ok l =>
     rw [hm] at hd hR'
     obtain ⟨lv,o,rfl,hg,ho⟩ := hd
     repeat' (first|refine .a ?_|refine .d ?_|refine .s ?_|refine .t ?_|refine .f ?_|fail)
     refine hR' _ _ k03 ⟨_,o,rfl,hg,fun b hb => ?_⟩
     have := ho b hb
     have := k02.size
     simp only [size_drew] at *
     omega
end Go.W.T
namespace Go.W
open Go
theorem En.a {ng : Bool} {b o : Nat} {K : Value → Prop} (hK : K (.bool ng)) : En .ptr ng (pt b o) K := En.s (b := false) (by cases ng <;> exact hK) rfl
theorem En.d {ng : Bool} {t : TypeId} {v : Value} {K : Value → Prop} (hK : K (.bool ng)) : En .ifc ng (.iface t v) K := En.s (b := false) (by cases ng <;> exact hK) rfl
theorem En.t {ng : Bool} {K : Value → Prop} (hK : K (.bool !ng)) : En .ifc ng .nilIface K := En.s (b := true) (by cases ng <;> exact hK) rfl
end Go.W
namespace Go.W.T
open Go Go.W Go.M Go.Proofs
theorem w_SEncode {w : World} {ds : List Def} {c d : CS} {v : Value} (h : SpecAt w ds d v) (hw : Whole ds c d) (name : By) (lim : Lim) {l : List Nd} {lv : Value} (hl : NsAt w lv l) (hnb : ∀ n ∈ l,n.s.length ≤ 140737488355328) (hlb : l.length ≤ 140737488355328) :
  Calls P n_marshal_Spec_Encode #[v,κs name,lv,limV lim] w (Ret fun r w' => Kp [] w w' ∧ OcEnc w' (encS d lim name l) r) := by
 refine Ret.R fun R hR => ?_
 apply o_marshal_Spec_Encode
 unfold s_marshal_Spec_Encode
 refine .s ?_
 have k1 : Kp [] w (w.alloc (cl [.int .i64 lim.depth,.int .i64 lim.fuel,.int .i64 lim.size] 32)) := by exact kpA
 have n1 : (w.alloc (cl [.int .i64 lim.depth,.int .i64 lim.fuel,.int .i64 lim.size] 32)).heap[w.heap.size]? = some (cl [.int .i64 lim.depth,.int .i64 lim.fuel,.int .i64 lim.size] 32) := by exact lookA
 generalize w.alloc (cl [.int .i64 lim.depth,.int .i64 lim.fuel,.int .i64 lim.size] 32) = w1 at *
 have h1 := h.kp0 k1
 refine .s ?_
 refine Cl.ret (w_find h1 name lim) ?_
 rintro r w2 ⟨k2,rfl⟩
 have k02 := k1.tt k2
 have hR' : ∀ (r : Value) (w' : World),Kp [] w w' → OcEnc w' (encS d lim name l) r → R (.returned r) w' := fun r w' hk hr => hR _ _ ⟨hk,hr⟩
 clear hR
 have hhas := hw.has name
 unfold encS at hR'
 cases hl0 : d.types.lookup name with
 | none =>
  rw [hl0] at hhas
  rw [show (d.start.lookup name).isNone = true by cases hs : d.start.lookup name <;> simp [hs] at hhas ⊢] at hR'
  repeat' (first|refine .a ?_|refine .d ?_|refine .s ?_|refine .t ?_|refine .f ?_|fail)
  exact hR' _ _ k02 (by simp only [if_true]; rfl)
 | some p =>
  rw [hl0] at hhas
  rw [show (d.start.lookup name).isNone = false by cases hs : d.start.lookup name <;> simp [hs] at hhas ⊢] at hR'
  cases hv : lim.valid with
  | false =>
   rw [hv] at hR'
   repeat' (first|refine .a ?_|refine .d ?_|refine .s ?_|refine .t ?_|refine .f ?_|fail)
   exact hR' _ _ k02 rfl
  | true =>
   rw [hv] at hR'
   have n2 : w2.heap[w.heap.size]? = _ := (k2.same _ (by have := lt_of_heap n1; omega) trivial).trans n1
   obtain ⟨⟨v1,v2⟩,⟨v3,v4⟩,v5,v6⟩ := Lim.valid_iff.mp hv
   simp only [Bool.false_eq_true,if_false,Bool.not_true] at hR'
   simp only [if_true]
   have h2 := h.kp0 k02
   obtain ⟨sb,dv,B,lv',es,ck,rfl,a2,a3,a4,a5,a6⟩ := h2.types
   obtain ⟨t,e1,e2,e3⟩ := hw.ent name p hl0
   obtain ⟨T,hmc⟩ := a6 (by have := lt_len e2; omega) hw.len
   repeat' (first|refine .a ?_|refine .d ?_|refine .s ?_|refine .t ?_|refine .f ?_|fail)
   obtain ⟨n,hr⟩ := hw.run (lim := lim) (ways_write d.L d.tabs lim) (by omega) hl0 ⟨l,0,[]⟩
   refine Cl.ret (w_Encode (hmc.kp (by exact kpA)) hw.all (hl.kp (k02.tt (by exact kpA))) hnb hlb hr (by omega) (by omega) (by omega)) ?_
   rintro r w3 ⟨k3,hd⟩
   have k03 : Kp [] w w3 := k02.tt ((by exact kpA : Kp [] w2 w2.drew).tt k3)
   have he : encM l ((sem (zWrite lim) d.defs lim.depth.toNat name ⟨l,0,[]⟩).andThen fun y => .ok ⟨p + 1,[],[],y⟩) = encT d.defs lim (.named name 0) l := by
    unfold encM encT
    rw [Res.assoc,semT]
    rfl
   rw [he] at hd
   cases hm : encT d.defs lim (.named name 0) l with
   | no e a =>
    rw [hm] at hd hR'
    obtain ⟨ev,rfl,hE⟩ := hd
    repeat' (first|refine .a ?_|refine .d ?_|refine .s ?_|refine .t ?_|refine .f ?_|fail)
    exact hR' _ _ k03 ⟨_,rfl,hE⟩
   | ok s =>
    rw [hm] at hd hR'
    have hd' : r = .tuple #[κs s,.nilIface] := hd
    subst hd'
    repeat' (first|refine .a ?_|refine .d ?_|refine .s ?_|refine .t ?_|refine .f ?_|fail)
    exact hR' _ _ k03 rfl
theorem Gw.ns {w : World} {lv : Value} {l : List Nd} {o : Option Nat} (h : Gw w t_api_Node 5 lv l.length (nodeCells l) o) : NsAt w lv l := by
 obtain ⟨h1,h2⟩ := h
 cases o with
 | none =>
  obtain ⟨rfl,h3⟩ := h2
  have hl : l = [] := List.length_eq_zero_iff.mp h3
  subst hl
  exact ⟨⟨none,0,rfl⟩,fun hn => absurd rfl hn⟩
 | some b =>
  obtain ⟨rest,cap,rfl,h4,h5⟩ := h2
  refine ⟨⟨_,_,rfl⟩,fun _ => ⟨b,0,_,_,_,cap,rfl,h4,?_,?_⟩⟩
  ·rw [List.length_append,h1]; omega
  ·rw [List.drop_zero,← h1,List.take_left]
def pickM (c n : Int) : Int := (if c < 0 then -(c + 1) else c) % n
theorem pickM_range {c n : Int} (h : 0 < n) : 0 ≤ pickM c n ∧ pickM c n < n := ⟨Int.emod_nonneg _ (by omega),Int.emod_lt_of_pos _ h⟩
theorem w_pick {w : World} (c n : Int) (hc : -9223372036854775808 ≤ c ∧ c ≤ 9223372036854775807) (hn : 0 < n) (hn2 : n ≤ 9223372036854775807) : Calls P n_marshalkeep_pick #[.int .i64 c,.int .i64 n] w (Ret fun v w' => v = .int .i64 (pickM c n) ∧ w' = w) := by
 refine Ret.R fun R hR => ?_
 apply o_marshalkeep_pick
 unfold s_marshalkeep_pick
 refine Jn.by (fun vals w' => w' = w ∧ vals = [.int .i64 (if c < 0 then -(c + 1) else c)]) (fun J hJ => ?_) ?_
 ·refine .s ?_
  refine .split (fun h => ?_) (fun h => ?_)
  ·have h' : c < 0 := of_decide_eq_true h
   refine .a ?_
   refine .s ?_
   refine hJ _ _ ⟨rfl,?_⟩
   rw [if_pos h',wrap_id (by omega) (by omega)]
   simp
  ·have h' : ¬ c < 0 := of_decide_eq_false h
   exact hJ _ _ ⟨rfl,by rw [if_neg h']⟩
 ·rintro _ w' jk ⟨rfl,rfl⟩
  refine Bi.s (v := .int .i64 (pickM c n)) ?_ ?_
  ·exact hR _ _ ⟨rfl,rfl⟩
  ·have hx : 0 ≤ (if c < 0 then -(c + 1) else c) := by split <;> omega
   have : Int.tmod (if c < 0 then -(c + 1) else c) n = pickM c n := by
    unfold pickM
    rw [Int.tmod_eq_emod_of_nonneg hx]
   simp only [binI,if_neg (show ¬ n = 0 by omega),List.getD_cons_zero,this]
def keepName (c : Int) : By := (keepNames[(pickM c 8).toNat]?).getD []
theorem w_kinds {w : World} (c : Int) (hc : -9223372036854775808 ≤ c ∧ c ≤ 9223372036854775807) : Calls P n_marshalkeep_kinds #[.int .i64 c] w (Ret fun v w' => v = κs (keepName c) ∧ Kp [] w w') := by
 refine Ret.R fun R hR => ?_
 apply o_marshalkeep_kinds
 unfold s_marshalkeep_kinds
 refine BuS.s (l := keepNames.map κs) (n := 8) ?_
 have k1 : Kp [] w (w.alloc (cl (keepNames.map κs) 9)) := by exact kpA
 have n1 : (w.alloc (cl (keepNames.map κs) 9)).heap[w.heap.size]? = some (cl (keepNames.map κs) 9) := by exact lookA
 generalize w.alloc (cl (keepNames.map κs) 9) = w1 at *
 refine .t ?_
 refine Cl.ret (w_pick c 8 hc (by omega) (by omega)) ?_
 rintro v w2 ⟨rfl,rfl⟩
 have hp := pickM_range (c := c) (n := 8) (by omega)
 rw [show pickM c 8 = (((pickM c 8).toNat : Nat) : Int) by omega]
 have hlt : (pickM c 8).toNat < 8 := by omega
 refine .s ?_
 refine Ld.s (x := κs (keepName c)) ?_ n1 ?_
 ·exact hR _ _ ⟨rfl,k1⟩
 ·unfold keepName
  rw [Nat.zero_add,Nat.mul_one,List.getElem?_map,List.getElem?_eq_getElem (show (pickM c 8).toNat < keepNames.length from hlt)]
  rfl
theorem keepName_mem (c : Int) : keepName c ∈ keepNames := by
 have hp := pickM_range (c := c) (n := 8) (by omega)
 have hlt : (pickM c 8).toNat < keepNames.length := by show _ < 8; omega
 unfold keepName
 rw [List.getElem?_eq_getElem hlt]
 exact List.getElem_mem hlt
def wideL : Lim := ⟨64,10000,100000⟩
theorem w_wide {w : World} : Calls P n_marshalkeep_wide #[] w (Ret fun v w' => v = limV wideL ∧ Kp [] w w') := by
 refine Ret.R fun R hR => ?_
 apply o_marshalkeep_wide
 unfold s_marshalkeep_wide
 repeat' (first|refine .a ?_|refine .d ?_|refine .s ?_|refine .t ?_|refine .f ?_|fail)
 exact hR _ _ ⟨rfl,by exact kpA⟩
def KeepAt (w : World) (d : CS) (v : Value) : Prop := ∃ ds c,Keep ds c ∧ SpecAt w ds d v ∧ Whole ds c d
theorem KeepAt.kp0 {w w' : World} {d : CS} {v : Value} (h : KeepAt w d v) (k : Kp [] w w') : KeepAt w' d v := by
 obtain ⟨ds,c,h0,h1,h2⟩ := h
 exact ⟨ds,c,h0,h1.kp0 k,h2⟩
theorem ReadAt.good {w : World} {txt : By} {ds : List Def} {c : CS} {v : Value} (h : ReadAt w txt v) (hl : txt.length ≤ 1200) (hp : parse txt = .ok ds) (hc : compile ds = .ok c) :
  ∃ sv names,v = .tuple #[sv,.nilIface] ∧ List.Perm names (c.start.map (·.1)) ∧ SpecAt w ds (typesC c names) sv := by
 unfold ReadAt at h
 rw [if_neg (by omega),hp] at h
 simp only [hc] at h
 exact h
theorem w_spec0 {w : World} {txt : By} (R : Ending → World → Prop) (hg : Gl w) {ds : List Def} {c : CS} (hl : txt.length ≤ 1200) (hp : parse txt = .ok ds) (hc : compile ds = .ok c) (ht : Tidy ds)
  (hR : ∀ b d w1,SpecAt w1 ds d (pt b 0) → Whole ds c d → Gl w1 → Kp [] w w1 → R (.returned (pt b 0)) w1) :
  Cl P 14 #[κs txt] w (pE R) fun x1 w2 => Ex x1 0 fun x3 => Ex x1 1 fun x4 => En .ifc true x4 fun x5 => If x5 (R (.returned (.pointer none)) w2) (R (.returned x3) w2) := by
 refine Cl.ret (w_Read hg (fun ds' h => by rw [hp] at h; cases h; exact ht.fine) (by omega)) ?_
 rintro v w1 ⟨k1,hg1,h⟩
 obtain ⟨sv,names,rfl,hperm,hs⟩ := h.good hl hp hc
 obtain ⟨sb,dv,B,lv,es,ck,rfl,_⟩ := hs.types
 repeat' (first|refine .a ?_|refine .d ?_|refine .s ?_|refine .t ?_|refine .f ?_|fail)
 exact hR _ _ _ hs (compile_whole ht hc hperm) hg1 k1
theorem w_spec {w : World} (hg : Gl w) : Calls P n_marshalkeep_spec #[] w (Ret fun v w' => (∃ b,v = pt b 0) ∧ (∃ d,KeepAt w' d v) ∧ Gl w' ∧ Kp [] w w') := by
 refine Ret.R fun R hR => ?_
 apply o_marshalkeep_spec
 unfold s_marshalkeep_spec
 obtain ⟨ds,c,hk⟩ := keep_ex
 refine w_spec0 (txt := keepText) R hg keepText_len hk.parse hk.compile hk.tidy ?_
 intro b d w1 h1 h2 h3 h4
 exact hR _ _ ⟨⟨b,rfl⟩,⟨d,ds,c,hk,h1,h2⟩,h3,h4⟩
end Go.W.T
namespace Go.W.T
open Go Go.W Go.M Go.Proofs
def Law (w : World) : Ending → World → Prop := fun en w' => en = .returned (.bool true) ∧ Kp [] w w'
theorem Law.R {f : FuncId} {args : Array Value} {w : World} (h : ∀ R : Ending → World → Prop,(∀ b w',b = true → Kp [] w w' → R (.returned (.bool b)) w') → Calls P f args w R) : Calls P f args w (Law w) := h _ fun b w' hb hk => ⟨by rw [hb],hk⟩
structure KS (d : CS) : Prop where
 ok : okDefs d.defs
 has : ∀ n ∈ keepNames,(d.start.lookup n).isSome = true
theorem KeepAt.ks {w : World} {d : CS} {v : Value} (h : KeepAt w d v) : KS d := by
 obtain ⟨ds,c,h1,h2,h3⟩ := h
 exact ⟨by rw [h3.defs]; exact h3.comp.defsOk,fun n hn => by rw [h3.start]; exact h1.has n hn⟩
theorem KS.dec {d : CS} (h : KS d) {n : By} (hn : n ∈ keepNames) {lim : Lim} (hl : lim.valid = true) {b : By} (hb : (b.length : Int) ≤ lim.size) : decS d lim n b = (decT d.defs lim (.named n 0) b).oc := by
 unfold decS
 have := h.has n hn
 rw [if_neg (by cases hs : d.start.lookup n <;> simp [hs] at this ⊢),hl,if_neg (by simp),if_neg (by omega)]
theorem KS.enc {d : CS} (h : KS d) {n : By} (hn : n ∈ keepNames) {lim : Lim} (hl : lim.valid = true) {l : List Nd} : encS d lim n l = (encT d.defs lim (.named n 0) l).oc := by
 unfold encS
 have := h.has n hn
 rw [if_neg (by cases hs : d.start.lookup n <;> simp [hs] at this ⊢),hl,if_neg (by simp)]
theorem wide_valid : wideL.valid = true := by decide
theorem KeepAt.decode {w : World} {d : CS} {v : Value} (h : KeepAt w d v) (name b : By) (lim : Lim) : Calls P n_marshal_Spec_Decode #[v,κs name,κs b,limV lim] w (Ret fun r w' => Kp [] w w' ∧ OcDec w.heap.size w' (decS d lim name b) r) := by
 obtain ⟨ds,c,_,h1,h2⟩ := h
 exact w_SDecode h1 h2 name b lim
theorem KeepAt.encode {w : World} {d : CS} {v : Value} (h : KeepAt w d v) (name : By) (lim : Lim) {l : List Nd} {lv : Value} (hl : NsAt w lv l) (hnb : ∀ n ∈ l,n.s.length ≤ 140737488355328) (hlb : l.length ≤ 140737488355328) : Calls P n_marshal_Spec_Encode #[v,κs name,lv,limV lim] w (Ret fun r w' => Kp [] w w' ∧ OcEnc w' (encS d lim name l) r) := by
 obtain ⟨ds,c,_,h1,h2⟩ := h
 exact w_SEncode h1 h2 name lim hl hnb hlb
theorem ord_small {b : By} : ∀ {l : List Nd} {p q : Nat},M.Ord b p l q → ∀ n ∈ l,n.kind = 2 → n.s.length ≤ b.length
 | [],_,_,_,n,hn,_ => by cases hn
 | a :: l,p,q,h,n,hn,hk => by
  rw [M.Ord] at h
  rcases List.mem_cons.mp hn with rfl | hn
  ·rw [if_pos hk] at h
   obtain ⟨x,_,_,h3,_⟩ := h
   omega
  ·split at h
   ·obtain ⟨x,_,_,_,_,h5⟩ := h
    exact ord_small h5 n hn hk
   ·exact ord_small h n hn hk
theorem nodes_small {lim : Lim} (n0 : Nat) : Each (zRead lim) fun d d' => (∀ n ∈ d.l,n.kind ≠ 2 → n.s = []) → ∀ n ∈ d'.l,n.kind ≠ 2 → n.s = [] := by
 have app : ∀ {l : List Nd} {x : Nd},(x.kind ≠ 2 → x.s = []) → (∀ n ∈ l,n.kind ≠ 2 → n.s = []) → ∀ n ∈ l ++ [x],n.kind ≠ 2 → n.s = [] := fun hx hl n hn hk => by
  rcases List.mem_append.mp hn with hn | hn
  ·exact hl n hn hk
  ·rw [List.mem_singleton] at hn; subst hn; exact hx hk
 refine ⟨fun d h => h,fun a b c h k x => k (h x),?_,?_,?_,?_⟩
 ·intro op f n set d d' ho _ h hN
  obtain ⟨_,_,h⟩ := rleaf_ok h ho
  rcases h with ⟨_,_,k,_,_,_,_,rfl⟩ | ⟨_,_,k,_,_,_,_,_,rfl⟩ | ⟨_,a,b,_,_,_,rfl⟩ | ⟨_,_,w,_,_,_,rfl⟩
  ·exact app (fun h => absurd rfl h) hN
  ·exact app (fun h => absurd rfl h) hN
  ·exact app (fun _ => rfl) hN
  ·exact app (fun _ => rfl) hN
 ·intro v n d x _ h hN
  obtain ⟨_,h⟩ := rlist_ok h
  rcases h with ⟨_,rfl⟩ | ⟨_,w,_,_,_,rfl⟩ <;> exact app (fun _ => rfl) hN
 ·intro d x h hN
  obtain ⟨_,w,_,_,_,rfl⟩ := ropt_ok h
  exact app (fun _ => rfl) hN
 ·intro of_ set which d x h hN
  obtain ⟨_,w,v,_,_,_,_,rfl⟩ := runion_ok h
  exact app (fun _ => rfl) hN
theorem dec_small {defs : List (By × Def)} {lim : Lim} {t : Ty} {b : By} {v : List Nd} (ho : okDefs defs) (ht : okT t = true) (hv : t ≠ .void) (h : decT defs lim t b = .ok v) : ∀ n ∈ v,n.s.length ≤ b.length := by
 obtain ⟨_,_,_,h4,_⟩ := bigT ho ht hv h
 obtain ⟨d,h1,rfl,_⟩ := decT_far ho ht h
 have := (nodes_small (lim := lim) 0).ty ((nodes_small 0).sem ho _) t ht h1 (fun n hn => by cases hn)
 intro n hn
 by_cases hk : n.kind = 2
 ·exact ord_small h4 n hn hk
 ·rw [this n hn hk]; exact Nat.zero_le _
theorem dec_fuel (lim : Lim) : Each (zRead lim) fun d d' => (d.l.length : Int) ≤ max 0 lim.fuel → (d'.l.length : Int) ≤ max 0 lim.fuel := by
 refine ⟨fun d h => h,fun a b c h k x => k (h x),?_,?_,?_,?_⟩
 ·intro op f n set d d' ho _ h hN
  obtain ⟨hf,_,h⟩ := rleaf_ok h ho
  rcases h with ⟨_,_,k,_,_,_,_,rfl⟩ | ⟨_,_,k,_,_,_,_,_,rfl⟩ | ⟨_,a,b,_,_,_,rfl⟩ | ⟨_,_,w,_,_,_,rfl⟩ <;> (simp only [List.length_append,List.length_singleton]; omega)
 ·intro v n d x _ h hN
  obtain ⟨hf,h⟩ := rlist_ok h
  rcases h with ⟨_,rfl⟩ | ⟨_,w,_,_,_,rfl⟩ <;> (simp only [List.length_append,List.length_singleton]; omega)
 ·intro d x h hN
  obtain ⟨hf,w,_,_,_,rfl⟩ := ropt_ok h
  simp only [List.length_append,List.length_singleton]; omega
 ·intro of_ set which d x h hN
  obtain ⟨hf,w,v,_,_,_,_,rfl⟩ := runion_ok h
  simp only [List.length_append,List.length_singleton]; omega
theorem dec_len {defs : List (By × Def)} {lim : Lim} {t : Ty} {b : By} {v : List Nd} (ho : okDefs defs) (ht : okT t = true) (h : decT defs lim t b = .ok v) : (v.length : Int) ≤ max 0 lim.fuel := by
 obtain ⟨d,h1,rfl,_⟩ := decT_far ho ht h
 exact (dec_fuel lim).ty ((dec_fuel lim).sem ho _) t ht h1 (by simp only [List.length_nil]; omega)
theorem w_Forth {w : World} (hg : Gl w) (c : Int) (hc : -9223372036854775808 ≤ c ∧ c ≤ 9223372036854775807) (b : By) : Calls P n_marshalkeep_Forth #[.int .i64 c,κs b] w (Law w) := by
 refine Law.R fun R hR => ?_
 apply o_marshalkeep_Forth
 unfold s_marshalkeep_Forth
 refine Cl.ret (w_spec hg) ?_
 rintro v w2 ⟨⟨sb,rfl⟩,⟨d,hk⟩,hg2,k2⟩
 repeat' (first|refine .a ?_|refine .d ?_|refine .s ?_|refine .t ?_|refine .f ?_|fail)
 refine .split (fun h => ?_) (fun h => ?_)
 ·repeat' (first|refine .a ?_|refine .d ?_|refine .s ?_|refine .t ?_|refine .f ?_|fail)
  exact hR _ _ rfl k2
 have hlen : ¬ (b.length : Int) > 4000 := of_decide_eq_false h
 refine Cl.ret (w_kinds c hc) ?_
 rintro v w18 ⟨rfl,k18⟩
 refine Cl.ret w_wide ?_
 rintro v w20 ⟨rfl,k20⟩
 have k020 := (k2.tt k18).tt k20
 have h20 := hk.kp0 (k18.tt k20)
 have hn := keepName_mem c
 have hks := hk.ks
 generalize keepName c = name at *
 refine .s ?_
 refine .s ?_
 refine .s ?_
 refine Cl.w (fun w23 => Kp [] w20 w23 ∧ w23.heap[w20.heap.size]? = some (cl [.int .i64 wideL.depth,.int .i64 wideL.fuel,.int .i64 wideL.size] 32)) ⟨by exact kpA,by exact lookA⟩ ?_
 rintro w23 ⟨k23,n23⟩
 refine Cl.ret ((h20.kp0 k23).decode name b wideL) ?_
 rintro r w26 ⟨k26,hd⟩
 have n26 : w26.heap[w20.heap.size]? = _ := (k26.same _ (lt_of_heap n23) trivial).trans n23
 have k026 := k020.tt (k23.tt k26)
 rw [hks.dec hn wide_valid (by show _ ≤ (100000 : Int); omega)] at hd
 cases hm : decT d.defs wideL (.named name 0) b with
 | no e a =>
  rw [hm] at hd
  obtain ⟨ev,rfl,fb,rfl,hE⟩ := hd
  repeat' (first|refine .a ?_|refine .d ?_|refine .s ?_|refine .t ?_|refine .f ?_|fail)
  exact hR _ _ rfl k026
 | ok l =>
  rw [hm] at hd
  obtain ⟨lv,o,rfl,hgw,ho⟩ := hd
  have hsm := dec_small hks.ok rfl (by simp) hm
  have hln := dec_len hks.ok rfl hm
  have hln' : (l.length : Int) ≤ 10000 := by
   have : max 0 wideL.fuel = 10000 := rfl
   omega
  repeat' (first|refine .a ?_|refine .d ?_|refine .s ?_|refine .t ?_|refine .f ?_|fail)
  refine Cl.ret ((h20.kp0 (k23.tt k26)).encode name wideL (Gw.ns hgw) (fun n hn => by have := hsm n hn; omega) (by omega)) ?_
  rintro r w34 ⟨k34,he⟩
  rw [hks.enc hn wide_valid,forthT (wl := wideL) hks.ok rfl hm rfl (Int.le_refl _) (Int.le_refl _) (by show _ ≤ (100000 : Int); omega)] at he
  have he' : r = .tuple #[κs b,.nilIface] := he
  subst he'
  repeat' (first|refine .a ?_|refine .d ?_|refine .s ?_|refine .t ?_|refine .f ?_|fail)
  exact hR _ _ (by simp) (k026.tt k34)
end Go.W.T
namespace Go.W.T
open Go Go.W Go.M Go.Proofs
def nodeEq (x y : Nd) (at_ : Bool) : Bool := x.kind == y.kind && x.n == y.n && x.s == y.s && x.len == y.len && (!at_ || x.at_ == y.at_)
def sameM : List Nd → List Nd → Bool → Bool
 | [],[],_ => true
 | x :: a,y :: b,at_ => nodeEq x y at_ && sameM a b at_
 | _,_,_ => false
theorem sameM_len : ∀ {a b : List Nd} {at_ : Bool},sameM a b at_ = true → a.length = b.length
 | [],[],_,_ => rfl
 | x :: a,y :: b,at_,h => by
  rw [sameM,Bool.and_eq_true] at h
  simp only [List.length_cons,sameM_len h.2]
 | [],_ :: _,_,h => by cases h
 | _ :: _,[],_,h => by cases h
theorem NsAt.fields {w : World} {v : Value} {l : List Nd} {k : Nat} {n : Nd} (h : NsAt w v l) (hk : l[k]? = some n) : ∃ b off t fr cs c,v = .slice (some ⟨b,off,none⟩) l.length c ∧ w.heap[b]? = some (clf cs t fr) ∧
  cs[off + k * 5 + 0]? = some (.int .i64 n.kind) ∧ cs[off + k * 5 + 1]? = some (.int .i64 n.n) ∧ cs[off + k * 5 + 2]? = some (κs n.s) ∧ cs[off + k * 5 + 3]? = some (.int .i64 n.at_) ∧ cs[off + k * 5 + 4]? = some (.int .i64 n.len) ∧ off + k * 5 + 5 ≤ cs.length := by
 obtain ⟨b,off,t,fr,cs,c,h1,h2,h3,h4⟩ := h.at hk
 have g : ∀ j x,j < 5 → (nodeV n)[j]? = some x → cs[off + k * 5 + j]? = some x := fun j x hj hx => by
  rw [← h4,List.getElem?_take_of_lt hj,List.getElem?_drop] at hx
  exact hx
 exact ⟨b,off,t,fr,cs,c,h1,h2,g 0 _ (by omega) rfl,g 1 _ (by omega) rfl,g 2 _ (by omega) rfl,g 3 _ (by omega) rfl,g 4 _ (by omega) rfl,h3⟩
theorem w_same {w : World} {a b : List Nd} {av bv : Value} (ha : NsAt w av a) (hb : NsAt w bv b) (hl : a.length ≤ 140737488355328) (hl2 : b.length ≤ 140737488355328) (at_ : Bool) :
  Calls P n_marshalkeep_same #[av,bv,.bool at_] w (Ret fun v w' => v = .bool (sameM a b at_) ∧ Kp [] w w') := by
 refine Ret.R fun R hR => ?_
 apply o_marshalkeep_same
 unfold s_marshalkeep_same
 have ha' := ha
 have hb' := hb
 obtain ⟨⟨aa,ac,rfl⟩,_⟩ := ha'
 obtain ⟨⟨ba,bc,rfl⟩,_⟩ := hb'
 have hR' : ∀ (x : Bool) (w' : World),x = sameM a b at_ → Kp [] w w' → R (.returned (.bool x)) w' := fun x w' h1 h2 => hR _ _ ⟨by rw [h1],h2⟩
 clear hR
 cases hlen : (((a.length : Nat) : Int) != ((b.length : Nat) : Int)) with
 | true =>
  repeat' (first|refine .a ?_|refine .d ?_|refine .s ?_|refine .t ?_|refine .f ?_|fail)
  refine hR' _ _ ?_ (by exact kpA)
  cases hs : sameM a b at_ with
  | false => rfl
  | true =>
   have := sameM_len hs
   rw [this] at hlen
   simp at hlen
 | false =>
  have hlen' : a.length = b.length := by
   have : ((a.length : Nat) : Int) = ((b.length : Nat) : Int) := by simpa using hlen
   omega
  repeat' (first|refine .a ?_|refine .d ?_|refine .s ?_|refine .t ?_|refine .f ?_|fail)
  refine Lp.nat (n := a.length) (fun n vals w' => ∃ i : Nat,vals = [.int .i64 i] ∧ i + n = a.length ∧ Kp [] w w' ∧ sameM (a.drop i) (b.drop i) at_ = sameM a b at_) ⟨0,rfl,by omega,Kp.refl _ _,by simp⟩ ?_
  rintro n _ w5 jk C ⟨i,rfl,hi,k5,hs⟩ hC
  refine .s ?_
  refine .t ?_
  refine .s ?_
  refine .split (fun h => ?_) (fun h => ?_)
  ·have hlt : i < a.length := by have := of_decide_eq_true h; omega
   have hlt2 : i < b.length := by omega
   obtain ⟨x,hx⟩ : ∃ x,a[i]? = some x := ⟨_,List.getElem?_eq_getElem hlt⟩
   obtain ⟨y,hy⟩ : ∃ y,b[i]? = some y := ⟨_,List.getElem?_eq_getElem hlt2⟩
   obtain ⟨b1,o1,t1,f1,cs1,c1,e1,g1,x0,x1,x2,x3,x4,_⟩ := (ha.kp k5).fields hx
   obtain ⟨b2,o2,t2,f2,cs2,c2,e2,g2,y0,y1,y2,y3,y4,_⟩ := (hb.kp k5).fields hy
   cases e1
   cases e2
   have hd1 : a.drop i = x :: a.drop (i + 1) := by rw [List.drop_eq_getElem_cons hlt]; rw [List.getElem?_eq_getElem hlt] at hx; cases hx; rfl
   have hd2 : b.drop i = y :: b.drop (i + 1) := by rw [List.drop_eq_getElem_cons hlt2]; rw [List.getElem?_eq_getElem hlt2] at hy; cases hy; rfl
   rw [hd1,hd2,sameM] at hs
   have no : nodeEq x y at_ = false → ∀ w',Kp [] w w' → R (.returned (.bool false)) w' := fun h w' k => hR' _ _ (by rw [← hs,h]; rfl) k
   have yes : nodeEq x y at_ = true → ∀ w',Kp [] w w' → C [.int .i64 ((i : Int) + 1)] w' := fun h w' k => hC (n - 1) _ _ (by omega) ⟨i + 1,by simp,by omega,k,by rw [← hs,h]; rfl⟩
   unfold nodeEq at no yes
   cases q0 : (x.kind != y.kind) with
   | true =>
    have p0 : (x.kind == y.kind) = false := by simpa [bne] using q0
    repeat' (first|refine .a ?_|refine .d ?_|refine .s ?_|refine .t ?_|refine .f ?_|fail)
    exact no (by rw [p0]; rfl) _ (by exact kpA)
   | false =>
   have p0 : (x.kind == y.kind) = true := by simpa [bne] using q0
   cases q1 : (x.n != y.n) with
   | true =>
    have p1 : (x.n == y.n) = false := by simpa [bne] using q1
    repeat' (first|refine .a ?_|refine .d ?_|refine .s ?_|refine .t ?_|refine .f ?_|fail)
    exact no (by rw [p0,p1]; rfl) _ (by exact kpA)
   | false =>
   have p1 : (x.n == y.n) = true := by simpa [bne] using q1
   cases q2 : !(x.s == y.s) with
   | true =>
    have p2 : (x.s == y.s) = false := by simpa using q2
    repeat' (first|refine .a ?_|refine .d ?_|refine .s ?_|refine .t ?_|refine .f ?_|fail)
    exact no (by rw [p0,p1,p2]; rfl) _ (by exact kpA)
   | false =>
   have p2 : (x.s == y.s) = true := by simpa using q2
   cases q3 : (x.len != y.len) with
   | true =>
    have p3 : (x.len == y.len) = false := by simpa [bne] using q3
    repeat' (first|refine .a ?_|refine .d ?_|refine .s ?_|refine .t ?_|refine .f ?_|fail)
    exact no (by rw [p0,p1,p2,p3]; rfl) _ (by exact kpA)
   | false =>
   have p3 : (x.len == y.len) = true := by simpa [bne] using q3
   cases at_ with
   | false =>
    repeat' (first|refine .a ?_|refine .d ?_|refine .s ?_|refine .t ?_|refine .f ?_|fail)
    exact yes (by rw [p0,p1,p2,p3]; rfl) _ (by exact kpA)
   | true =>
   cases q4 : (x.at_ != y.at_) with
   | true =>
    have p4 : (x.at_ == y.at_) = false := by simpa [bne] using q4
    repeat' (first|refine .a ?_|refine .d ?_|refine .s ?_|refine .t ?_|refine .f ?_|fail)
    exact no (by rw [p0,p1,p2,p3,p4]; rfl) _ (by exact kpA)
   | false =>
    have p4 : (x.at_ == y.at_) = true := by simpa [bne] using q4
    repeat' (first|refine .a ?_|refine .d ?_|refine .s ?_|refine .t ?_|refine .f ?_|fail)
    exact yes (by rw [p0,p1,p2,p3,p4]; rfl) _ (by exact kpA)
  ·have hge : ¬ i < a.length := by have := of_decide_eq_false h; omega
   refine hR' _ _ ?_ k5
   rw [← hs,List.drop_eq_nil_of_le (by omega),List.drop_eq_nil_of_le (by omega)]
   rfl
theorem sameM_alike : ∀ {a b : List Nd},sameM a b false = true ↔ alike a b
 | [],[] => by simp [sameM,alike]
 | x :: a,y :: b => by
  rw [sameM,Bool.and_eq_true,sameM_alike (a := a) (b := b)]
  simp only [nodeEq,alike,List.map_cons,List.cons.injEq,Bool.not_false,Bool.true_or,Bool.and_true,Bool.and_eq_true,beq_iff_eq]
  constructor
  ·rintro ⟨⟨⟨⟨h1,h2⟩,h3⟩,h4⟩,h5⟩
   refine ⟨?_,h5⟩
   simp only [strip,h1,h2,h3,h4]
  ·rintro ⟨h1,h5⟩
   obtain ⟨e1,e2,e3,e4⟩ := strip_eq h1
   exact ⟨⟨⟨⟨e1,e2⟩,e3⟩,e4⟩,h5⟩
 | [],_ :: _ => by simp [sameM,alike]
 | _ :: _,[] => by simp [sameM,alike]
theorem apartT {defs : List (By × Def)} {lim : Lim} {t : Ty} {a b : By} {u v : List Nd} (ho : okDefs defs) (ht : okT t = true) (hu : decT defs lim t a = .ok u) (hv : decT defs lim t b = .ok v) (ha : (a.length : Int) ≤ lim.size) (hb : (b.length : Int) ≤ lim.size) (h : alike u v) : a = b := by
 have h1 := forthT (wl := lim) ho ht hu h (Int.le_refl _) (Int.le_refl _) ha
 have h2 := forthT (wl := lim) ho ht hv rfl (Int.le_refl _) (Int.le_refl _) hb
 rw [h1] at h2
 cases h2
 rfl
theorem w_Apart {w : World} (hg : Gl w) (c : Int) (hc : -9223372036854775808 ≤ c ∧ c ≤ 9223372036854775807) (a b : By) : Calls P n_marshalkeep_Apart #[.int .i64 c,κs a,κs b] w (Law w) := by
 refine Law.R fun R hR => ?_
 apply o_marshalkeep_Apart
 unfold s_marshalkeep_Apart
 refine Cl.ret (w_spec hg) ?_
 rintro v w2 ⟨⟨sb,rfl⟩,⟨d,hk⟩,hg2,k2⟩
 by_cases ha : (a.length : Int) > 4000
 ·have ha' : decide ((a.length : Int) > 4000) = true := decide_eq_true ha
  repeat' (first|refine .a ?_|refine .d ?_|refine .s ?_|refine .t ?_|refine .f ?_|fail)
  exact hR _ _ rfl k2
 have ha' : decide ((a.length : Int) > 4000) = false := decide_eq_false ha
 by_cases hb : (b.length : Int) > 4000
 ·have hb' : decide ((b.length : Int) > 4000) = true := decide_eq_true hb
  repeat' (first|refine .a ?_|refine .d ?_|refine .s ?_|refine .t ?_|refine .f ?_|fail)
  exact hR _ _ rfl k2
 have hb' : decide ((b.length : Int) > 4000) = false := decide_eq_false hb
 repeat' (first|refine .a ?_|refine .d ?_|refine .s ?_|refine .t ?_|refine .f ?_|fail)
 refine Cl.ret (w_kinds c hc) ?_
 rintro v w18 ⟨rfl,k18⟩
 refine Cl.ret w_wide ?_
 rintro v w20 ⟨rfl,k20⟩
 have k020 := (k2.tt k18).tt k20
 have h20 := hk.kp0 (k18.tt k20)
 have hn := keepName_mem c
 have hks := hk.ks
 generalize keepName c = name at *
 refine .s ?_
 refine .s ?_
 refine .s ?_
 refine Cl.w (fun w23 => Kp [] w20 w23 ∧ w23.heap[w20.heap.size]? = some (cl [.int .i64 wideL.depth,.int .i64 wideL.fuel,.int .i64 wideL.size] 32)) ⟨by exact kpA,by exact lookA⟩ ?_
 rintro w23 ⟨k23,n23⟩
 refine Cl.ret ((h20.kp0 k23).decode name a wideL) ?_
 rintro r w26 ⟨k26,hd⟩
 have n26 : w26.heap[w20.heap.size]? = _ := (k26.same _ (lt_of_heap n23) trivial).trans n23
 have k026 := k020.tt (k23.tt k26)
 rw [hks.dec hn wide_valid (by show _ ≤ (100000 : Int); omega)] at hd
 have h26 := h20.kp0 (k23.tt k26)
 have two : ∀ (u : Value),Calls P n_marshal_Spec_Decode #[pt sb 0,κs name,κs b,limV wideL] w26 (Ret fun r w' => Kp [] w26 w' ∧ OcDec w26.heap.size w' (decT d.defs wideL (.named name 0) b).oc r) := fun _ => by
  have := h26.decode name b wideL
  rwa [hks.dec hn wide_valid (by show _ ≤ (100000 : Int); omega)] at this
 cases hm : decT d.defs wideL (.named name 0) a with
 | no e x =>
  rw [hm] at hd
  obtain ⟨ev,rfl,fb,rfl,hE⟩ := hd
  repeat' (first|refine .a ?_|refine .d ?_|refine .s ?_|refine .t ?_|refine .f ?_|fail)
  refine Cl.ret (two undef) ?_
  rintro r w43 ⟨k43,hd2⟩
  cases hm2 : decT d.defs wideL (.named name 0) b with
  | no e2 y =>
   rw [hm2] at hd2
   obtain ⟨ev2,rfl,fb2,rfl,hE2⟩ := hd2
   repeat' (first|refine .a ?_|refine .d ?_|refine .s ?_|refine .t ?_|refine .f ?_|fail)
   exact hR _ _ (by decide) (k026.tt k43)
  | ok l2 =>
   rw [hm2] at hd2
   obtain ⟨lv2,o2,rfl,hgw2,ho2⟩ := hd2
   have hne := (bigT hks.ok rfl (by simp) hm2).2.2.1
   obtain ⟨a2,c2,rfl⟩ := (Gw.ns hgw2).1
   have hpos : decide (((l2.length : Nat) : Int) > 0) = true := decide_eq_true (by have := List.length_pos_iff.mpr hne; omega)
   repeat' (first|refine .a ?_|refine .d ?_|refine .s ?_|refine .t ?_|refine .f ?_|fail)
   refine hR _ _ ?_ (k026.tt k43)
   rw [hpos]; rfl
 | ok l =>
  rw [hm] at hd
  obtain ⟨lv,o,rfl,hgw,ho⟩ := hd
  have hne := (bigT hks.ok rfl (by simp) hm).2.2.1
  have hln := dec_len hks.ok rfl hm
  have hln' : (l.length : Int) ≤ 10000 := by
   have : max 0 wideL.fuel = 10000 := rfl
   omega
  have hns := Gw.ns hgw
  obtain ⟨a1,c1,rfl⟩ := (Gw.ns hgw).1
  have hpos1 : decide (((l.length : Nat) : Int) > 0) = true := decide_eq_true (by have := List.length_pos_iff.mpr hne; omega)
  repeat' (first|refine .a ?_|refine .d ?_|refine .s ?_|refine .t ?_|refine .f ?_|fail)
  refine Cl.ret (two undef) ?_
  rintro r w43 ⟨k43,hd2⟩
  cases hm2 : decT d.defs wideL (.named name 0) b with
  | no e2 y =>
   rw [hm2] at hd2
   obtain ⟨ev2,rfl,fb2,rfl,hE2⟩ := hd2
   repeat' (first|refine .a ?_|refine .d ?_|refine .s ?_|refine .t ?_|refine .f ?_|fail)
   simp only [hpos1]
   repeat' (first|refine .a ?_|refine .d ?_|refine .s ?_|refine .t ?_|refine .f ?_|fail)
   exact hR _ _ rfl (k026.tt k43)
  | ok l2 =>
   rw [hm2] at hd2
   obtain ⟨lv2,o2,rfl,hgw2,ho2⟩ := hd2
   have hne2 := (bigT hks.ok rfl (by simp) hm2).2.2.1
   have hln2 := dec_len hks.ok rfl hm2
   have hln2' : (l2.length : Int) ≤ 10000 := by
    have : max 0 wideL.fuel = 10000 := rfl
    omega
   have hns2 := Gw.ns hgw2
   obtain ⟨a2,c2,rfl⟩ := (Gw.ns hgw2).1
   have hpos2 : decide (((l2.length : Nat) : Int) > 0) = true := decide_eq_true (by have := List.length_pos_iff.mpr hne2; omega)
   cases hab : (a == b) with
   | true =>
    repeat' (first|refine .a ?_|refine .d ?_|refine .s ?_|refine .t ?_|refine .f ?_|fail)
    simp only [hpos1,hpos2]
    repeat' (first|refine .a ?_|refine .d ?_|refine .s ?_|refine .t ?_|refine .f ?_|fail)
    exact hR _ _ (by simp only [hpos2]; rfl) (k026.tt k43)
   | false =>
    repeat' (first|refine .a ?_|refine .d ?_|refine .s ?_|refine .t ?_|refine .f ?_|fail)
    refine Cl.ret (w_same (hns.kp k43) hns2 (by omega) (by omega) false) ?_
    rintro r w94 ⟨rfl,k94⟩
    repeat' (first|refine .a ?_|refine .d ?_|refine .s ?_|refine .t ?_|refine .f ?_|fail)
    refine hR _ _ ?_ ((k026.tt k43).tt k94)
    cases hs : sameM l l2 false with
    | false => rfl
    | true =>
     have := apartT hks.ok rfl hm hm2 (by show _ ≤ (100000 : Int); omega) (by show _ ≤ (100000 : Int); omega) (sameM_alike.mp hs)
     rw [this] at hab
     simp at hab
end Go.W.T
namespace Go.W.T
open Go Go.W Go.M Go.Proofs
theorem KS.dec' {d : CS} (h : KS d) {n : By} (hn : n ∈ keepNames) {lim : Lim} (hl : lim.valid = true) {b : By} : decS d lim n b = if lim.size < b.length then .flt 14 0 else (decT d.defs lim (.named n 0) b).oc := by
 unfold decS
 have := h.has n hn
 rw [if_neg (by cases hs : d.start.lookup n <;> simp [hs] at this ⊢),hl,if_neg (by simp)]
theorem sameM_refl : ∀ (l : List Nd) (at_ : Bool),sameM l l at_ = true
 | [],_ => rfl
 | x :: l,at_ => by rw [sameM,sameM_refl l]; simp [nodeEq]
theorem w_Deeper {w : World} (hg : Gl w) (c : Int) (hc : -9223372036854775808 ≤ c ∧ c ≤ 9223372036854775807) (b : By) (x : Int) (hx : -9223372036854775808 ≤ x ∧ x ≤ 9223372036854775807) (y : Int) (hy : -9223372036854775808 ≤ y ∧ y ≤ 9223372036854775807) (z : Int) (hz : -9223372036854775808 ≤ z ∧ z ≤ 9223372036854775807) :
  Calls P n_marshalkeep_Deeper #[.int .i64 c,κs b,.int .i64 x,.int .i64 y,.int .i64 z] w (Law w) := by
 refine Law.R fun R hR => ?_
 apply o_marshalkeep_Deeper
 unfold s_marshalkeep_Deeper
 refine Cl.ret (w_spec hg) ?_
 rintro v w2 ⟨⟨sb,rfl⟩,⟨d,hk⟩,hg2,k2⟩
 by_cases hb : (b.length : Int) > 4000
 ·have hb' : decide ((b.length : Int) > 4000) = true := decide_eq_true hb
  repeat' (first|refine .a ?_|refine .d ?_|refine .s ?_|refine .t ?_|refine .f ?_|fail)
  exact hR _ _ rfl k2
 have hb' : decide ((b.length : Int) > 4000) = false := decide_eq_false hb
 repeat' (first|refine .a ?_|refine .d ?_|refine .s ?_|refine .t ?_|refine .f ?_|fail)
 refine Cl.ret (w_kinds c hc) ?_
 rintro v wk ⟨rfl,k18⟩
 refine Cl.ret (w_pick x 65 hx (by omega) (by omega)) ?_
 rintro v wl ⟨rfl,rfl⟩
 refine Cl.ret (w_pick y 10001 hy (by omega) (by omega)) ?_
 rintro v wm ⟨rfl,rfl⟩
 refine Cl.ret (w_pick z 100001 hz (by omega) (by omega)) ?_
 rintro v w18 ⟨rfl,rfl⟩
 have k018 := k2.tt k18
 have h18 := hk.kp0 k18
 have hn := keepName_mem c
 have hks := hk.ks
 generalize keepName c = name at *
 have p1 := pickM_range (c := x) (n := 65) (by omega)
 have p2 := pickM_range (c := y) (n := 10001) (by omega)
 have p3 := pickM_range (c := z) (n := 100001) (by omega)
 generalize pickM x 65 = dp at *
 generalize pickM y 10001 = fu at *
 generalize pickM z 100001 = si at *
 obtain ⟨lim,e1,e2,e3⟩ : ∃ lim : Lim,dp = lim.depth ∧ fu = lim.fuel ∧ si = lim.size := ⟨⟨dp,fu,si⟩,rfl,rfl,rfl⟩
 subst e1 e2 e3
 have hv : lim.valid = true := Lim.valid_iff.mpr ⟨⟨by omega,by omega⟩,⟨by omega,by omega⟩,by omega,by omega⟩
 refine .s ?_
 refine .s ?_
 refine .s ?_
 refine .s ?_
 refine Cl.w (fun w28 => Kp [] w18 w28 ∧ w28.heap[w18.heap.size]? = some (cl [.int .i64 lim.depth,.int .i64 lim.fuel,.int .i64 lim.size] 32)) ⟨by exact kpA,by exact lookA⟩ ?_
 rintro w28 ⟨k28,n28⟩
 refine Cl.ret ((h18.kp0 k28).decode name b lim) ?_
 rintro r w31 ⟨k31,hd⟩
 have n31 : w31.heap[w18.heap.size]? = _ := (k31.same _ (lt_of_heap n28) trivial).trans n28
 have k031 := k018.tt (k28.tt k31)
 have h31 := h18.kp0 (k28.tt k31)
 rw [hks.dec' hn hv] at hd
 have hx : ∃ uv ev,r = .tuple #[uv,ev] := by
  split at hd
  ·obtain ⟨ev,rfl,_⟩ := hd; exact ⟨_,_,rfl⟩
  ·cases hm : decT d.defs lim (.named name 0) b with
   | no e a => rw [hm] at hd; obtain ⟨ev,rfl,_⟩ := hd; exact ⟨_,_,rfl⟩
   | ok l => rw [hm] at hd; obtain ⟨lv,o,rfl,_⟩ := hd; exact ⟨_,_,rfl⟩
 obtain ⟨uv,ev,rfl⟩ := hx
 refine .s ?_
 refine .s ?_
 refine Cl.ret w_wide ?_
 rintro v w35 ⟨rfl,k35⟩
 refine .s ?_
 refine .s ?_
 refine .s ?_
 have hlt := lt_of_heap n31
 refine Cl.w (fun w38 => Kp [] w35 w38) (by exact kpA) ?_
 intro w38 k38'
 have k38 := k35.tt k38'
 have h38 := h31.kp0 k38
 have two := h38.decode name b wideL
 rw [hks.dec hn wide_valid (by show _ ≤ (100000 : Int); omega)] at two
 refine Cl.ret two ?_
 rintro r w41 ⟨k41,hd2⟩
 have k041 := k031.tt (k38.tt k41)
 have n41 : w41.heap[w18.heap.size]? = _ := ((k38.tt k41).same _ hlt trivial).trans n31
 -- what the wide reading comes to
 have hv2 : ∃ vv wv,r = .tuple #[vv,wv] ∧ ((∃ t a,wv = .iface t a ∧ vv = .slice none 0 0 ∧ ∀ l,decT d.defs wideL (.named name 0) b ≠ .ok l) ∨ (wv = .nilIface ∧ ∃ l,decT d.defs wideL (.named name 0) b = .ok l ∧ NsAt w41 vv l ∧ l ≠ [] ∧ (l.length : Int) ≤ 10000)) := by
  cases hm : decT d.defs wideL (.named name 0) b with
  | no e a => rw [hm] at hd2; obtain ⟨ev,rfl,fb,rfl,_⟩ := hd2; exact ⟨_,_,rfl,Or.inl ⟨_,_,rfl,rfl,fun l h => by cases h⟩⟩
  | ok l =>
   rw [hm] at hd2
   obtain ⟨lv,o,rfl,hgw,_⟩ := hd2
   have hln := dec_len hks.ok rfl hm
   have : max 0 wideL.fuel = 10000 := rfl
   exact ⟨_,_,rfl,Or.inr ⟨rfl,l,rfl,Gw.ns hgw,(bigT hks.ok rfl (by simp) hm).2.2.1,by omega⟩⟩
 obtain ⟨vv,wv,rfl,hvv⟩ := hv2
 split at hd
 ·obtain ⟨ev',he,fb,rfl,hE⟩ := hd
  cases he
  rcases hvv with ⟨t2,a2,rfl,rfl,_⟩ | ⟨rfl,l,_,⟨⟨a2,c2,rfl⟩,_⟩,hne,hln⟩
  ·repeat' (first|refine .a ?_|refine .d ?_|refine .s ?_|refine .t ?_|refine .f ?_|fail)
   exact hR _ _ (by decide) k041
  ·have hpos : decide (((l.length : Nat) : Int) > 0) = true := decide_eq_true (by have := List.length_pos_iff.mpr hne; omega)
   repeat' (first|refine .a ?_|refine .d ?_|refine .s ?_|refine .t ?_|refine .f ?_|fail)
   refine hR _ _ ?_ k041
   rw [hpos]; rfl
 ·rename_i hsz
  cases hm : decT d.defs lim (.named name 0) b with
  | no e a =>
   rw [hm] at hd
   obtain ⟨ev',he,fb,rfl,hE⟩ := hd
   cases he
   rcases hvv with ⟨t2,a2,rfl,rfl,_⟩ | ⟨rfl,l,_,⟨⟨a2,c2,rfl⟩,_⟩,hne,hln⟩
   ·repeat' (first|refine .a ?_|refine .d ?_|refine .s ?_|refine .t ?_|refine .f ?_|fail)
    exact hR _ _ (by decide) k041
   ·have hpos : decide (((l.length : Nat) : Int) > 0) = true := decide_eq_true (by have := List.length_pos_iff.mpr hne; omega)
    repeat' (first|refine .a ?_|refine .d ?_|refine .s ?_|refine .t ?_|refine .f ?_|fail)
    refine hR _ _ ?_ k041
    rw [hpos]; rfl
  | ok u =>
   rw [hm] at hd
   obtain ⟨uv',o,he,hgw,ho⟩ := hd
   cases he
   have hwide := deeperT (wl := wideL) hks.ok rfl hm (by show lim.fuel ≤ 10000; omega) (by show lim.depth ≤ 64; omega)
   rcases hvv with ⟨t2,a2,rfl,rfl,hno⟩ | ⟨rfl,l,hl,hns2,hne,hln⟩
   ·exact absurd hwide (hno u)
   rw [hwide] at hl
   cases hl
   have hns := Gw.ns hgw
   have hsm := dec_small hks.ok rfl (by simp) hm
   have hns4 := hns.kp (k38.tt k41)
   have h41 := h38.kp0 k41
   repeat' (first|refine .a ?_|refine .d ?_|refine .s ?_|refine .t ?_|refine .f ?_|fail)
   refine Cl.ret (w_same hns4 hns2 (by omega) (by omega) true) ?_
   rintro r w71 ⟨rfl,k71⟩
   rw [sameM_refl]
   have n71 : w71.heap[w18.heap.size]? = _ := (k71.same _ (lt_of_heap n41) trivial).trans n41
   refine .s ?_
   have hen := (h41.kp0 k71).encode name lim (hns4.kp k71) (fun n hn => by have := hsm n hn; omega) (by omega)
   rw [hks.enc hn hv,forthT (wl := lim) hks.ok rfl hm rfl (Int.le_refl _) (Int.le_refl _) (by omega)] at hen
   refine Cl.ret hen ?_
   rintro r w74 ⟨k74,he⟩
   have he' : r = .tuple #[κs b,.nilIface] := he
   subst he'
   repeat' (first|refine .a ?_|refine .d ?_|refine .s ?_|refine .t ?_|refine .f ?_|fail)
   exact hR _ _ (by simp) (k041.tt (k71.tt k74))
end Go.W.T
