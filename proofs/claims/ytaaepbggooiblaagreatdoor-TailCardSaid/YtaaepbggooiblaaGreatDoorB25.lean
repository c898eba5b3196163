/- Texts of mine, one behind the other; nothing is assumed. -/
import Derived.Test.YtaaepbggooiblaaGreatDoorB23
import Derived.Test.YtaaepbggooiblaaGreatDoorB06
import Derived.Test.YtaaepbggooiblaaGreatDoorB24
set_option linter.unusedSimpArgs false
set_option linter.unusedVariables false
set_option maxRecDepth 4000
namespace Go.W
open Go
def bCells (l : List UInt8) : List Value := l.map fun b => .int .u8 b.toNat
theorem bCells_one (l : List UInt8) : (bCells l).all (·.oneCell') = true := by
 induction l with
 | nil => rfl
 | cons a r ih => rw [bCells,List.map_cons,List.all_cons]; rw [bCells] at ih; rw [ih]; rfl
theorem bCells_len (l : List UInt8) : (bCells l).length = l.length := by simp [bCells]
theorem Ap.str {e bytes : Nat} {zero v : Value} {s : List UInt8} {l : List Value} {w : World} {K : KV} {n : Nat} {o : Option Nat}
  (hg : Gw w e 1 v n l o)
  (hK : ∀ v' w' o',Gw w' e 1 v' (n + s.length) (l ++ bCells s) o' → (o' = o ∨ o' = some w.heap.size) → Kp (own o) w w' → K v' w')
  (hb : (n + s.length) * bytes ≤ 140737488355328) (hz : zero.cells.size = 1 := by rfl) : Ap e 1 bytes zero v (.string (bs s)) w K := by
 refine ⟨?_⟩
 have hsrc : srcCells 1 (.string (bs s)) w = some (s.length,bCells s) := by
  have h1 : (bs s).size = s.length := rfl
  have h2 : (bs s).data.toList = s := by simp [bs]
  simp only [srcCells,h1,h2]; rfl
 obtain ⟨hl,hg2⟩ := hg
 rw [Nat.mul_one] at hl
 have hbl := bCells_len s
 have hlen : ((l ++ bCells s).length) = (n + s.length) * 1 := by rw [List.length_append,hl,hbl,Nat.mul_one]
 cases o with
 | none =>
  obtain ⟨rfl,rfl⟩ := hg2
  have hl0 : l = [] := List.length_eq_zero_iff.mp hl
  subst hl0
  unfold ApD
  refine ⟨s.length,bCells s,hsrc,?_⟩
  by_cases h0 : 0 + s.length ≤ 0
  ·rw [if_pos h0]
   have hs0 : s = [] := List.length_eq_zero_iff.mp (by omega)
   subst hs0
   exact hK _ _ none ⟨hlen,rfl,rfl⟩ (Or.inl rfl) (Kp.refl _ _)
  rw [if_neg h0]
  refine ⟨by simpa using hb,[],0,by simp [srcCells],fun c hc => ?_⟩
  refine hK _ _ (some w.heap.size) ⟨hlen,(Builtin.zeroCells zero.cells (c - (0 + s.length))).toList,c,?_,?_,?_⟩ (Or.inr rfl) ?_
  ·simp
  ·rw [heap_alloc_at (by rfl)]
   simp only [List.nil_append,Array.empty_append,cl]
   congr 2
   apply Array.toList_inj.mp
   simp only [Array.toList_append]
  ·have hc' : 0 + s.length ≤ c := hc
   have e9 : (Builtin.zeroCells zero.cells (c - (0 + s.length))).toList.length = c - (0 + s.length) := by rw [Array.length_toList,size_zeroCells',hz,Nat.mul_one]
   rw [hlen,e9]; omega
  ·exact ((Kp.refl _ _).drew).alloc _
 | some b =>
  obtain ⟨rest,cap,rfl,hbb,hcap⟩ := hg2
  unfold ApD
  refine ⟨s.length,bCells s,hsrc,?_⟩
  by_cases hfit : n + s.length ≤ cap
  ·rw [if_pos hfit]
   have hsz : n * 1 + (bCells s).length ≤ (List.toArray (l ++ rest)).size := by simp; omega
   have hadd : (Addr.add ⟨b,0,none⟩ (n * 1)) = ⟨b,n * 1,none⟩ := by rw [add_eq,Nat.zero_add]
   simp only []
   rw [hadd,setCells_obj e (bCells s) w b (n * 1) 0 (List.toArray (l ++ rest)) hbb (by rw [Nat.add_zero]; exact hsz) (bCells_one s)]
   refine hK _ _ (some b) ⟨hlen,rest.drop s.length,cap,rfl,?_,?_⟩ (Or.inl rfl) ?_
   ·rw [heap_setObj_same hbb]
    congr 2
    unfold putAt
    congr 1
    have e1 : List.take (n * 1) (l ++ rest) = l := by rw [Nat.mul_one,← hl,List.take_left']; rfl
    have e2 : List.drop (n * 1 + (bCells s).length) (l ++ rest) = rest.drop s.length := by rw [Nat.mul_one,← hl,hbl,← List.drop_drop,List.drop_left']; rfl
    simp only [Nat.add_zero,e1,e2,List.append_assoc]
   ·rw [hlen,List.length_drop]; omega
   ·exact Kp.objX (Kp.refl _ _) (by simp [own,Out]) _
  ·rw [if_neg hfit]
   have hcn : cellsAt w ⟨b,0,none⟩ 0 (n * 1) = some l := by
    rw [cellsAt_take hbb (n * 1) 0 (by rw [List.length_append]; omega)]
    simp [← hl]
   refine ⟨hb,l,n,by simp only [srcCells,hcn]; rfl,fun c hc => ?_⟩
   refine hK _ _ (some w.heap.size) ⟨hlen,(Builtin.zeroCells zero.cells (c - (n + s.length))).toList,c,rfl,?_,?_⟩ (Or.inr rfl) ?_
   ·rw [heap_alloc_at (by rfl)]
    congr 2
    apply Array.toList_inj.mp
    simp only [Array.toList_append]
   ·have hc' : n + s.length ≤ c := hc
    have e9 : (Builtin.zeroCells zero.cells (c - (n + s.length))).toList.length = c - (n + s.length) := by rw [Array.length_toList,size_zeroCells',hz,Nat.mul_one]
    rw [hlen,e9]; omega
   ·exact ((Kp.refl _ _).drew).alloc _
end Go.W
namespace Go.W.T
open Go Go.W Go.M Go.Proofs
abbrev ecells (v : Value) (k : Nat) (lim : Lim) (cp a buf : Value) : List Value := [v,i64 (k : Nat),.int .i64 lim.depth,.int .i64 lim.fuel,.int .i64 lim.size,cp,a,buf]
theorem RunV.ok {P : Program} {s : Sem Value} {w w' : World} {v : Value} {K : KV} (h : s.run P w = .ok v w') (hK : K v w') : RunV P s w K := ⟨by unfold RunVD; rw [h]; exact hK⟩
theorem CallN.val {P : Program} {s : Sem Next} {w w' : World} {v : Value} {E : KE} {K : KV} (h : s.run P w = .ok (.value v) w') (hK : K v w') : CallN P s w E K := ⟨by unfold CallND; rw [h]; exact hK⟩
end Go.W.T
namespace Go.W.T
open Go Go.W Go.M Go.Proofs
end Go.W.T
namespace Go.W
open Go
abbrev clf (l : List Value) (t : TypeId) (fr : Nat × Nat) : Obj := .cells (List.toArray l) t fr
theorem Ld.t {w : World} {b o : Nat} {l : List Value} {t : TypeId} {fr : Nat × Nat} {x : Value} {K : Value → Prop} (hK : K x) (h : w.heap[b]? = some (clf l t fr) := by exact lookA) (hx : l[o]? = some x := by first | rfl | assumption) : Ld (pt b o) w K := by
 rw [sLd,h]
 show (match (List.toArray l)[o]? with | some x => K x | none => False)
 rw [List.getElem?_toArray,hx]; exact hK
theorem LdN.t {w : World} {b o n : Nat} {l : List Value} {t : TypeId} {fr : Nat × Nat} {l' : List Value} {K : Value → Prop} (hK : K (.agg (List.toArray l'))) (h : w.heap[b]? = some (clf l t fr) := by exact lookA) (hx : o + n ≤ l.length) (hl : (l.drop o).take n = l') : LdN (pt b o) n w K := by
 apply sLdN
 rw [h]
 refine ⟨by simpa using hx,?_⟩
 rw [hl]; exact hK
end Go.W
namespace Go.W.T
open Go Go.W Go.M Go.Proofs
def NsAt (w : World) (v : Value) (l : List Nd) : Prop := (∃ a c,v = .slice a l.length c) ∧ (l ≠ [] → ∃ b off t fr cs c,v = .slice (some ⟨b,off,none⟩) l.length c ∧ w.heap[b]? = some (clf cs t fr) ∧ off + l.length * 5 ≤ cs.length ∧ (cs.drop off).take (l.length * 5) = nodeCells l)
theorem NsAt.of {w w' : World} {v : Value} {l : List Nd} (h : NsAt w v l) (hk : ∀ b x,w.heap[b]? = some x → (∃ off n c,v = .slice (some ⟨b,off,none⟩) n c) → w'.heap[b]? = some x) : NsAt w' v l := by
 refine ⟨h.1,fun hn => ?_⟩
 obtain ⟨b,off,t,fr,cs,c,h1,h2,h3⟩ := h.2 hn
 exact ⟨b,off,t,fr,cs,c,h1,hk b _ h2 ⟨off,_,c,h1⟩,h3⟩
theorem NsAt.kp {w w' : World} {v : Value} {l : List Nd} (h : NsAt w v l) (k : Kp [] w w') : NsAt w' v l := h.of fun b x hb _ => (k.same b (lt_of_heap hb) trivial).trans hb
theorem nodeCells_at : ∀ {l : List Nd} {k : Nat} {n : Nd},l[k]? = some n → ((nodeCells l).drop (k * 5)).take 5 = nodeV n
 | a :: r,0,n,h => by simp at h; subst h; simp [nodeCells,nodeV]
 | a :: r,k + 1,n,h => by
  have h' : r[k]? = some n := by simpa using h
  rw [nodeCells,List.flatMap_cons]
  have e : (k + 1) * 5 = (nodeV a).length + k * 5 := by simp [nodeV]; omega
  rw [e,← List.drop_drop,List.drop_left']
  ·exact nodeCells_at h'
  ·rfl
theorem NsAt.at {w : World} {v : Value} {l : List Nd} {k : Nat} {n : Nd} (h : NsAt w v l) (hk : l[k]? = some n) : ∃ b off t fr cs c,v = .slice (some ⟨b,off,none⟩) l.length c ∧ w.heap[b]? = some (clf cs t fr) ∧ off + k * 5 + 5 ≤ cs.length ∧ (cs.drop (off + k * 5)).take 5 = nodeV n := by
 have hlt : k < l.length := by
  rcases Nat.lt_or_ge k l.length with h | h
  ·exact h
  ·rw [List.getElem?_eq_none h] at hk; cases hk
 obtain ⟨b,off,t,fr,cs,c,h1,h2,h3,h4⟩ := h.2 (fun e => by subst e; cases hk)
 refine ⟨b,off,t,fr,cs,c,h1,h2,by omega,?_⟩
 have h5 := nodeCells_at hk
 rw [← h4] at h5
 rw [← List.drop_drop,← h5,List.drop_take,List.take_take]
 congr 1
 omega
structure ER (w0 : World) (eb : Nat) (cp : Value) (lim : Lim) (F : Nat → Prop) (w : World) (e : ES) : Prop where
 hM : w0.heap.size ≤ eb
 c : ∃ v a buf o,w.heap[eb]? = some (cl (ecells v e.k lim cp a buf) t_machine_encoder) ∧ (a = .pointer none ∨ a = pt eb 6) ∧ NsAt w0 v e.l ∧ Gw w 5 1 buf e.out.length (bCells e.out) o ∧ ∀ b,o = some b → b ≠ eb ∧ F b
 fd : F eb
 fM : ∀ b,F b → w0.heap.size ≤ b
 fl : ∀ b,F b → b < w.heap.size
 kb : e.k ≤ 1000000
 ob : e.out.length ≤ 1000000
 lf : lim.fuel ≤ 1000000
 ls : lim.size ≤ 1000000
 nb : ∀ n ∈ e.l,n.s.length ≤ 140737488355328
 lb : e.l.length ≤ 140737488355328
theorem ER.ext {w0 : World} {eb : Nat} {cp : Value} {lim : Lim} {F G : Nat → Prop} {w w' : World} {e : ES} (h : ER w0 eb cp lim F w e) (k : Kf G w w') (hd : ∀ i,F i → ¬ G i) : ER w0 eb cp lim F w' e := by
 obtain ⟨v,a,buf,o,h1,h2,h3,h4,h5⟩ := h.c
 exact { h with c := ⟨v,a,buf,o,(k.same _ (lt_of_heap h1) (hd _ h.fd)).trans h1,h2,h3,gw_kf h4 k (fun b hb => hd _ (h5 b hb).2),h5⟩,fl := fun b hb => Nat.lt_of_lt_of_le (h.fl b hb) k.size }
theorem ER.kp {w0 : World} {eb : Nat} {cp : Value} {lim : Lim} {F : Nat → Prop} {w w' : World} {e : ES} (h : ER w0 eb cp lim F w e) (k : Kp [] w w') : ER w0 eb cp lim F w' e := h.ext (Kp.kf k : Kf (fun _ => False) w w') (fun _ _ f => f)
end Go.W.T
namespace Go.W.T
open Go Go.W Go.M Go.Proofs
def PartsAt (w : World) (v : Value) (parts : List By) (F : Nat → Prop) : Prop := (∃ a c,v = .slice a parts.length c) ∧ (parts ≠ [] → ∃ b t c,v = .slice (some ⟨b,0,none⟩) parts.length c ∧ w.heap[b]? = some (cl (parts.map κs) t) ∧ ¬ F b)
end Go.W.T
namespace Go.W.T
open Go Go.W Go.M Go.Proofs
theorem PartsAt.of {w : World} {b c : Nat} {t : TypeId} {parts : List By} {F : Nat → Prop} (h : w.heap[b]? = some (cl (parts.map κs) t)) (hf : ¬ F b) : PartsAt w (.slice (some ⟨b,0,none⟩) parts.length c) parts F :=
 ⟨⟨_,_,rfl⟩,fun _ => ⟨b,t,c,rfl,h,hf⟩⟩
theorem PartsAt.nil (w : World) (F : Nat → Prop) : PartsAt w (.slice none 0 0) [] F := ⟨⟨_,_,rfl⟩,fun h => absurd rfl h⟩
theorem wordB_len (n : Nat) : (wordB n).length = 4 := rfl
end Go.W.T
namespace Go.W.T
open Go Go.W Go.M Go.Proofs
end Go.W.T
namespace Go.W.T
open Go Go.W Go.M Go.Proofs
theorem callI_by {recv : Value} {name : String} {args args' : Array Value} {w : World} {E : KE} {K : KV} {f : FuncId} (h : (callMethod recv name args).run P w = .ok (.enter f args') w) (hK : Cl P f args' w E K) : CallI P recv name args w E K :=
 ⟨by unfold CallID; exact ⟨by unfold CallND; rw [h]; exact hK⟩⟩
theorem d_leaf (b : Nat) (a : Value) (w : World) : (callMethod (.iface 142 (pt b 0)) "marshal/machine.leaf" #[a]).run P w = .ok (.enter n_machine_decoder_leaf #[pt b 0,a]) w := by kernel_rfl
theorem d_list (b : Nat) (a : Value) (w : World) : (callMethod (.iface 142 (pt b 0)) "marshal/machine.list" #[a]).run P w = .ok (.enter n_machine_decoder_list #[pt b 0,a]) w := by kernel_rfl
theorem d_option (b : Nat) (w : World) : (callMethod (.iface 142 (pt b 0)) "marshal/machine.option" #[]).run P w = .ok (.enter n_machine_decoder_option #[pt b 0]) w := by kernel_rfl
theorem d_union (b : Nat) (a : Value) (w : World) : (callMethod (.iface 142 (pt b 0)) "marshal/machine.union" #[a]).run P w = .ok (.enter n_machine_decoder_union #[pt b 0,a]) w := by kernel_rfl
theorem d_place (b : Nat) (w : World) : (callMethod (.iface 142 (pt b 0)) "marshal/machine.place" #[]).run P w = .ok (.enter n_machine_decoder_place #[pt b 0]) w := by kernel_rfl
theorem PostF.mono {β : Type} {F : Nat → Prop} {w : World} {m : Res β} {good good' : β → Value → (Nat → Prop) → World → Prop} {f : FuncId} {args : Array Value} (h : Calls P f args w (PostF F w m good)) (hg : ∀ b v F' w',m = .ok b → good b v F' w' → good' b v F' w') : Calls P f args w (PostF F w m good') := by
 refine h.mono ?_
 rintro en w' ⟨h1,h2⟩
 refine ⟨h1,?_⟩
 cases m with
 | ok b => obtain ⟨v,F',h3,h4,h5⟩ := h2; exact ⟨v,F',h3,h4,hg b v F' w' rfl h5⟩
 | no e a => exact h2
theorem insOk_to {L : List Ins} {tabs : List Tab} {i : Ins} (h : insOk L.length tabs i = true) (hi : i.op = 13) (n : Int) : target tabs i n < L.length := by
 unfold insOk at h
 have h1 := of_decide_eq_true (Bool.and_eq_true _ _ |>.mp h).1
 have h2 := (Bool.and_eq_true _ _ |>.mp h).2
 unfold target
 split
 ·have := h1.2.2.1
  rcases Nat.eq_zero_or_pos L.length with e | e <;> omega
 ·split
  ·rename_i t ht
   have hm : (n,t) ∈ (tabOf tabs i.table).getD [] := by
    clear h2
    revert ht
    generalize (tabOf tabs i.table).getD [] = l
    intro ht
    induction l with
    | nil => cases ht
    | cons x r ih =>
     obtain ⟨a,b⟩ := x
     rw [List.lookup_cons] at ht
     cases hab : n == a with
     | true => rw [hab] at ht; simp at ht hab; subst ht hab; exact List.mem_cons_self ..
     | false => rw [hab] at ht; exact List.mem_cons_of_mem _ (ih ht)
   have := of_decide_eq_true (List.all_eq_true.mp h2 _ hm) hi
   simp only at this
   omega
  ·exact h1.2.2.1
theorem DR.extF {M db : Nat} {cp : Value} {lim : Lim} {F G : Nat → Prop} {w w' : World} {d : DS} (h : DR M db cp lim F w d) (k : Kf G w w') (hd : ∀ i,F i → ¬ G i) : DR M db cp lim F w' d := by
 obtain ⟨v,o,h1,h2,h3⟩ := h.c
 exact { h with c := ⟨v,o,(k.same _ (lt_of_heap h1) (hd _ h.fd)).trans h1,gw_kf h2 k (fun b hb => hd _ (h3 b hb).2),h3⟩,fl := fun b hb => Nat.lt_of_lt_of_le (h.fl b hb) k.size }
theorem list_range {lim : Lim} {i : Ins} {d : DS} {x : Int × DS} (hm : d.list lim i = .ok x) (h0 : 0 ≤ i.n) (h1 : i.n ≤ 4294967295) : 0 ≤ x.1 ∧ x.1 ≤ 4294967295 := by
 rw [DS.list] at hm
 obtain ⟨u,_,hm⟩ := Res.then_ok hm
 obtain ⟨y,hy,hm⟩ := Res.then_ok hm
 cases hm
 split at hy
 ·obtain ⟨z,hz,hy⟩ := Res.then_ok hy
  cases hy
  rw [DS.count] at hz
  obtain ⟨q,hq,hz⟩ := Res.then_ok hz
  split at hz
  ·cases hz
  ·cases hz; simp only; omega
 ·cases hy; simp only; omega
theorem readC {w0 : World} {db : Nat} {cp : Value} {lim : Lim} {T : List Nat} {L : List Ins} {tabs : List Tab} (hc : MC w0 cp T L tabs) (hL : ∀ i ∈ L,insOk L.length tabs i = true) :
  WayC w0 (.iface 142 (pt db 0)) (pt db 0) (readWay L tabs lim) (fun F w d => DR w0.heap.size db cp lim F w d) T L where
 low F w d h b hb := ⟨h.fM b hb,h.fl b hb⟩
 ext F G w w' d h k hd := h.extF k hd
 leaf := ⟨n_machine_decoder_leaf,fun a w E K h => callI_by (d_leaf db a w) h,fun F w d i t u h k hi ht hu => w_leafN h k hc.t ht hu (fun _ => by
  have := hL i hi
  unfold insOk at this
  exact (of_decide_eq_true (Bool.and_eq_true _ _ |>.mp this).1).1)⟩
 list := ⟨n_machine_decoder_list,fun a w E K h => callI_by (d_list db a w) h,fun F w d i t u h k hi ht hu => PostF.mono (w_listN h ht hu) (fun b v F' w' hm hg => by
  have hio := hL i hi
  unfold insOk at hio
  have hb := of_decide_eq_true (Bool.and_eq_true _ _ |>.mp hio).1
  have hr := list_range hm hb.1 hb.2.1
  exact ⟨hg.1,hr.1,hr.2,hg.2⟩)⟩
 option := ⟨n_machine_decoder_option,fun w E K h => callI_by (d_option db w) h,fun F w d h k => w_optionN h⟩
 union := ⟨n_machine_decoder_union,fun a w E K h => callI_by (d_union db a w) h,fun F w d i t u h k hi h13 ht hu => PostF.mono (w_unionN h k hc ht hu (insOk_to (hL i hi) h13)) (fun b v F' w' _ hg => ⟨hg.1,hg.2.1,hg.2.2.2⟩)⟩
 place := ⟨n_machine_decoder_place,fun w E K h => callI_by (d_place db w) h,fun F w d h => w_placeD h⟩
end Go.W.T
