/- Texts of mine, one behind the other; nothing is assumed. -/
import Derived.Test.YtaaepbggooiblaaGreatDoorB14
import Derived.Test.YtaaepbggooiblaaGreatDoorB27
import Derived.Carry
import Derived.Deep.Slices
set_option linter.unusedSimpArgs false
set_option linter.unusedVariables false
set_option maxRecDepth 100000
namespace Go.Proofs.YtaaepbggooiblaaGreatDoor
open Go.ChangeShapes Go.WideShapes Go.ChangeAt Go.RowKit Go.Lib Go.ChangeMaps Go.Deep
theorem wrapW {H : Type} {enc : TypeId × Value → H} {a : Assume} {C : Checked} {os : Os} {f : FuncId} {fn : Func} {s : ChangeSpec} {conds : List PathCond} {apart fresh handsOn again : Bool} {X : World → Array Value → Prop}
  (hX : ∀ (w w' : World) (args : Array Value),w.heap = w'.heap → X w args → X w' args)
  (hown : ownKnob C.prog.godebug = none) (started : os.Started) (noInit : C.prog.inits.idxOf? f = none) (hfn : C.prog.funcs[f]? = some fn)
  (witness : ∃ (w : World) (tape : Tape) (i : Input),w.os = os ∧ (w.forCall tape i).Shaped C.prog ∧ i.vars = [] ∧ Input.okWide C.prog (w.forCall tape i) .any w.heap.size f i ∧
   ((s.pre enc C.prog fn conds apart (w.forCall tape i).memory i.args ∧ X (w.forCall tape i).memory i.args) ∧ sizedMet enc C.prog fn (OpenSpec.ofChange s) apart (w.forCall tape i).memory i.args) ∧ a.holds C.prog (lone (Frame.enter C.prog f i.args .normal) [] (w.forCall tape i)))
  (walk : ∀ (W : World) (base : Nat) (args : Array Value) (ds gs : List (DataW H)) (before : List MemPlace),(∀ (j : Nat) t v,fn.params[j]? = some t → args[j]? = some v → Value.okWide C.prog W .any base t v) →
   DataW.Whole enc C.prog fn.params.toList s.vars apart W args.toList ds gs before → (DataW.weightsEach C.prog (fn.params.toList ++ s.plain.varTypes C.prog) (ds ++ gs)).all (· ≤ reachBytes) = true → X W args → W.ShapedOpen C.prog → Calls C.prog f args W fun e W' => ∃ v,e = .returned v ∧ s.post enc C.prog fn apart fresh handsOn again W args v W') :
  ReturnsInHanded a C os f .any (fun w args => (s.pre enc C.prog fn conds apart w args ∧ X w args) ∧ sizedMet enc C.prog fn (OpenSpec.ofChange s) apart w args) (s.post enc C.prog fn apart fresh handsOn again) := by
 refine returnsInHanded_of_calls hown started noInit witness fun w tape i _ hsh _ hok hpre _ => ?_
 obtain ⟨_,_,_,g,hg,_,_,_,_,hv⟩ := hok
 obtain rfl : g = fn := Option.some.inj (hg.symm.trans hfn)
 obtain ⟨⟨⟨ds,gs,before,hw,_⟩,hx⟩,hz⟩ := hpre
 have hw' := DataW.Whole.of_heap (w' := w.forCall tape i) (by rfl) hw
 refine (walk _ _ _ ds gs before hv hw' (hz.weights hw) (hX _ _ _ (by rfl) hx) hsh).mono fun e W' h => ?_
 obtain ⟨v,rfl,hp⟩ := h
 exact ChangeSpec.post_blind hp
theorem c52 : Tryz.prog.cellsOf 52 = 5 := by kernel_rfl
theorem c3 : Tryz.prog.cellsOf 3 = 1 := by kernel_rfl
theorem c2 : Tryz.prog.cellsOf 2 = 1 := by kernel_rfl
theorem c9 : Tryz.prog.cellsOf 9 = 1 := by kernel_rfl
theorem i64_of {x : Int} (h : (Lit.int .i64 x).wf = true) : -9223372036854775808 ≤ x ∧ x < 9223372036854775808 := by
 have : -9223372036854775808 ≤ x ∧ x ≤ 9223372036854775807 := by simpa [Lit.wf,IntKind.min,IntKind.max,IntKind.signed,IntKind.bits] using h
 omega
variable {H : Type} {enc : TypeId × Value → H} {W : World}
theorem node_open {n : Nat} {cs : List Value} {x : DataW H × List MemPlace} (h : DataW.trod enc Tryz.prog W 0 (fun _ => true) true n 52 cs = some x) :
  ∃ nd : Go.M.Nd,cs = Go.W.T.nodeV nd ∧ Go.M.NdOk nd ∧ ∃ y0 y1 y3 y4,x.1 = .agg [y0,y1,.lit (.string nd.s),y3,y4] := by
 obtain ⟨xs,n',rfl,rfl,hlen,hxl,hf⟩ := DataW.trod_struct Tryz.underlying52 h
 rw [c52] at hlen
 match cs,hlen,xs,hxl with
 | [x0,x1,x2,x3,x4],_,[z0,z1,z2,z3,z4],_ =>
  have g0 := hf 0 _ rfl
  have g1 := hf 1 _ rfl
  have g2 := hf 2 _ rfl
  have g3 := hf 3 _ rfl
  have g4 := hf 4 _ rfl
  simp only [c3,c2,c9,List.drop_zero,List.drop_succ_cons,List.take_succ_cons,List.take_zero,List.getElem?_cons_zero,List.getElem?_cons_succ] at g0 g1 g2 g3 g4
  obtain ⟨a0,e0,_,w0⟩ := DataW.trod_int Tryz.underlying3 g0
  obtain ⟨a1,e1,_,w1⟩ := DataW.trod_int (k := .i64) (by kernel_rfl) g1
  obtain ⟨s2,e2,d2,w2⟩ := DataW.trod_string Tryz.underlying9 g2
  obtain ⟨a3,e3,_,w3⟩ := DataW.trod_int Tryz.underlying3 g3
  obtain ⟨a4,e4,_,w4⟩ := DataW.trod_int Tryz.underlying3 g4
  obtain rfl : x0 = .int .i64 a0 := by simpa [c3] using e0
  obtain rfl : x1 = .int .i64 a1 := by simpa [c2] using e1
  obtain rfl : x2 = .string s2 := by simpa [c9] using e2
  obtain rfl : x3 = .int .i64 a3 := by simpa [c3] using e3
  obtain rfl : x4 = .int .i64 a4 := by simpa [c3] using e4
  refine ⟨⟨a0,a1,s2.data.toList,a3,a4⟩,?_,i64_of w1,z0.1,z1.1,z3.1,z4.1,?_⟩
  ·unfold Go.W.T.nodeV
   rw [show Go.W.κs s2.data.toList = .string s2 from congrArg Value.string (Go.W.bs_data s2)]
  ·rw [d2]
   rfl
theorem weight_in {P : Program} {e : TypeId} {d : DataW H} : ∀ {l : List (DataW H)},d ∈ l → ∀ x ∈ d.weights P e,x ∈ DataW.weightsAll P e l
 | [],h,_,_ => by cases h
 | a :: r,h,x,hx => by
  rw [DataW.weightsAll]
  rcases List.mem_cons.mp h with rfl | h
  ·exact List.mem_append_left _ hx
  ·exact List.mem_append_right _ (weight_in h x hx)
theorem open_nodes {v : Value} {d : DataW H} {ps : List MemPlace} {r : Reach} {b0 : Nat} (h : DataW.Trod enc Tryz.prog W 0 (fun _ => true) true 34 v d ps) (hv : Value.okWide Tryz.prog W r b0 34 v) (hw : (d.weights Tryz.prog 34).all (· ≤ reachBytes) = true) :
  ∃ l : List Go.M.Nd,Go.W.T.NsAt W v l ∧ (∀ n ∈ l,n.s.length ≤ 140737488355328) ∧ (∀ n ∈ l,Go.M.NdOk n) ∧ l.length ≤ 140737488355328 := by
 obtain ⟨fuel,hf⟩ := h
 obtain ⟨va,vl,vc,rfl⟩ := okWide_slice Tryz.underlying34 hv
 rcases open_slice Tryz.underlying34 hf with ⟨h0,_⟩ | ⟨a,len,cap,m,n,D,Pl,hcs,_,hlc,hcm,hm,hx,hi⟩
 ·have : Value.slice va vl vc = .slice none 0 0 := by simpa [Value.cells] using h0
  cases this
  exact ⟨[],⟨⟨_,_,rfl⟩,fun h => absurd rfl h⟩,fun n hn => by (cases hn),fun n hn => by (cases hn),Nat.zero_le _⟩
 ·have : Value.slice va vl vc = .slice (some a) len cap := by simpa [Value.cells] using hcs
  injection this with e1 e2 e3
  subst e1
  subst e2
  subst e3
  simp only [if_true] at hm
  subst hm
  rw [c52] at hx hi
  simp only [Prod.mk.injEq] at hx
  have hd := hx.1
  subst hd
  rw [List.all_eq_true] at hw
  simp only [DataW.weights,Tryz.underlying34] at hw
  have hex : ∀ i,i < vl → ∃ nd : Go.M.Nd,W.cells? 0 (a.add (i * 5)) 5 = some (Go.W.T.nodeV nd) ∧ Go.M.NdOk nd ∧ nd.s.length ≤ reachBytes := by
   intro i hil
   obtain ⟨cs',g1,g2⟩ := hi i (by omega)
   obtain ⟨nd,rfl,g3,y0,y1,y3,y4,g4⟩ := node_open g2
   refine ⟨nd,g1,g3,?_⟩
   simp only at g4
   have hmem : D i ∈ (List.range vl).map D := List.mem_map.mpr ⟨i,List.mem_range.mpr hil,rfl⟩
   have := hw nd.s.length (List.mem_cons_of_mem _ (List.mem_append_left _ (weight_in hmem _ ?_)))
   ·simpa using this
   ·rw [g4]
    simp only [DataW.weights,Tryz.underlying52,List.map_cons,List.map_nil,DataW.weightsEach]
    simp
  let N : Nat → Go.M.Nd := fun i => if hil : i < vl then Classical.choose (hex i hil) else ⟨0,0,[],0,0⟩
  have hN : ∀ i,i < vl → W.cells? 0 (a.add (i * 5)) 5 = some (Go.W.T.nodeV (N i)) ∧ Go.M.NdOk (N i) ∧ (N i).s.length ≤ reachBytes := by
   intro i hil
   have := Classical.choose_spec (hex i hil)
   simp only [N,dif_pos hil]
   exact this
  clear_value N
  have hwl := hw ((((List.range vl).map D).length + ((List.range (m - vl)).map fun j => D (vl + j)).length) * Tryz.prog.bytesOf 52) (List.mem_cons_self ..)
  have hb52 : Tryz.prog.bytesOf 52 = 48 := by kernel_rfl
  rw [hb52] at hwl
  simp only [List.length_map,List.length_range,decide_eq_true_eq,reachBytes] at hwl
  refine ⟨(List.range vl).map N,⟨⟨some a,m,by simp⟩,fun hne => ?_⟩,?_,?_,?_⟩
  ·have h0 : 0 < vl := by
    rcases Nat.eq_zero_or_pos vl with h | h
    ·subst h; exact absurd rfl hne
    ·exact h
   have c0 := (hN 0 h0).1
   rw [Nat.zero_mul] at c0
   obtain ⟨_,_,hat⟩ := World.cells?_some c0
   have hat0 := hat 0 (by omega)
   have ha0 : (a.add 0).add 0 = a := by simp [Addr.add]
   rw [ha0] at hat0
   have hsp : a.spot = none := by
    unfold World.cell? at hat0
    split at hat0
    ·split at hat0
     ·simp [Go.W.T.nodeV] at hat0
     ·rename_i hs; simpa using hs
    ·simp [Go.W.T.nodeV] at hat0
   obtain ⟨ab,ao,asp⟩ := a
   simp only at hsp
   subst hsp
   obtain ⟨c,t,fr,hblk⟩ : ∃ c t fr,W.heap[ab]? = some (.cells c t fr) := by
    unfold World.cell? at hat0
    split at hat0
    ·rename_i c t fr hb; exact ⟨c,t,fr,hb⟩
    ·simp [Go.W.T.nodeV] at hat0
   have cell : ∀ i j,i < vl → j < 5 → c[ao + (i * 5 + j)]? = (Go.W.T.nodeV (N i))[j]? := by
    intro i j hil hj
    obtain ⟨_,hl,hat⟩ := World.cells?_some (hN i hil).1
    have := hat j hj
    have e : (Addr.add (Addr.add ⟨ab,ao,none⟩ (i * 5)) j) = ⟨ab,ao + (i * 5 + j),none⟩ := by
     rw [Go.W.add_eq,Go.W.add_eq,Nat.add_assoc]
    rw [e] at this
    unfold World.cell? at this
    simp only [hblk] at this
    simpa using this
   refine ⟨ab,ao,t,fr,c.toList,m,by simp,hblk,?_,?_⟩
   ·have := cell (vl - 1) 4 (by omega) (by omega)
    have h4 : (Go.W.T.nodeV (N (vl - 1)))[4]? = some (.int .i64 (N (vl - 1)).len) := rfl
    rw [h4] at this
    have := (Array.getElem?_eq_some_iff.mp this).1
    simp only [List.length_map,List.length_range,Array.length_toList]
    omega
   ·apply List.ext_getElem?
    intro k
    simp only [List.length_map,List.length_range]
    by_cases hk : k < vl * 5
    ·rw [List.getElem?_take_of_lt hk,List.getElem?_drop,Array.getElem?_toList]
     have e : k = k / 5 * 5 + k % 5 := by omega
     have := cell (k / 5) (k % 5) (by omega) (by omega)
     rw [← e] at this
     rw [this]
     have hn : ((List.range vl).map N)[k / 5]? = some (N (k / 5)) := by rw [List.getElem?_map,List.getElem?_range (by omega)]; rfl
     have g := Go.W.T.nodeCells_at hn
     rw [← g,List.getElem?_take_of_lt (by omega),List.getElem?_drop,← e]
    ·rw [List.getElem?_eq_none (by rw [List.length_take]; omega),List.getElem?_eq_none (by rw [Go.W.T.nodeCells_len]; simp; omega)]
  ·intro n hn
   obtain ⟨i,hi1,rfl⟩ := List.mem_map.mp hn
   have := (hN i (List.mem_range.mp hi1)).2.2
   simp only [reachBytes] at this
   omega
  ·intro n hn
   obtain ⟨i,hi1,rfl⟩ := List.mem_map.mp hn
   exact (hN i (List.mem_range.mp hi1)).2.1
  ·simp only [List.length_map,List.length_range]
   omega
end Go.Proofs.YtaaepbggooiblaaGreatDoor
