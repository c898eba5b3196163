/- Texts of mine, one behind the other; nothing is assumed. -/
import Derived.Test.YtaaepbggooiblaaGreatDoorB06
set_option linter.unusedSimpArgs false
set_option linter.unusedVariables false
namespace Go.M
structure Rsv (L L' : List Ins) (calls : List (Nat × By × Nat)) (start : List (By × Nat)) : Prop where
 len : L'.length = L.length
 other : ∀ (p : Nat) (x : Ins),L[p]? = some x → x.op ≠ 6 → L'[p]? = some x
 call : ∀ x ∈ calls,∃ t,start.lookup x.2.1 = some t ∧ L'[x.1]? = some { ins 6 with to := ((t : Nat) : Int) }
theorem resolve_other {start : List (By × Nat)} : ∀ {calls : List (Nat × By × Nat)} {L L' : List Ins},resolveC start L calls = .ok L' → L'.length = L.length ∧ ∀ p,(∀ x ∈ calls,x.1 ≠ p) → L'[p]? = L[p]?
 | [],L,L',h => by cases h; exact ⟨rfl,fun p _ => rfl⟩
 | (a,s,f) :: r,L,L',h => by
  rw [resolveC] at h
  split at h
  ·cases h
  ·obtain ⟨h1,h2⟩ := resolve_other h
   refine ⟨h1.trans (List.length_modify ..),fun p hp => ?_⟩
   rw [h2 p fun x hx => hp x (List.mem_cons_of_mem _ hx),List.getElem?_modify]
   have : a ≠ p := hp (a,s,f) (List.mem_cons_self ..)
   simp only [this,if_false]
   cases L[p]? <;> rfl
theorem rsv_of {start : List (By × Nat)} : ∀ {calls : List (Nat × By × Nat)} {L L' : List Ins},resolveC start L calls = .ok L' → (∀ x ∈ calls,L[x.1]? = some (ins 6)) → calls.Pairwise (fun a b => a.1 < b.1) →
  ∀ x ∈ calls,∃ t,start.lookup x.2.1 = some t ∧ L'[x.1]? = some { ins 6 with to := ((t : Nat) : Int) }
 | [],L,L',h,_,_ => fun x hx => by cases hx
 | (a,s,f) :: r,L,L',h,hc,hp => by
  rw [resolveC] at h
  cases ht : start.lookup s with
  | none => rw [ht] at h; cases h
  | some t =>
   rw [ht] at h
   simp only at h
   obtain ⟨hp1,hp2⟩ := List.pairwise_cons.mp hp
   intro x hx
   rcases List.mem_cons.mp hx with rfl | hx
   ·refine ⟨t,ht,?_⟩
    rw [(resolve_other h).2 a fun y hy => by have := hp1 y hy; simp only at this; omega,List.getElem?_modify,hc _ (List.mem_cons_self ..)]
    simp
   ·refine rsv_of h ?_ hp2 x hx
    intro y hy
    have := hp1 y hy
    simp only at this
    rw [List.getElem?_modify,hc y (List.mem_cons_of_mem _ hy)]
    simp only [show a ≠ y.1 by omega,if_false]
    rfl
theorem LI.rsv {c : CS} (h : LI c) {L' : List Ins} (hr : resolveC c.start c.L c.calls = .ok L') : Rsv c.L L' c.calls c.start := by
 obtain ⟨h1,h2⟩ := resolve_other hr
 refine ⟨h1,fun p x hx ho => ?_,rsv_of hr h.calls h.sorted⟩
 rw [h2 p,hx]
 intro y hy e
 have := h.calls y hy
 rw [e,hx] at this
 cases this
 exact ho rfl
def CodeT (L : List Ins) (start : List (By × Nat)) : Ty → Nat → Prop
 | .basic s,p => L[p]? = some (ins (basicOp s))
 | .named s _,p => ∃ t,start.lookup s = some t ∧ L[p]? = some { ins 6 with to := ((t : Nat) : Int) }
 | .bytes _ f n,p => L[p]? = some { ins 5 with n := n,fixed := f }
 | .array t f n,p => L[p]? = some { ins (if f then 8 else 9) with n := n,to := ((p + tsz t + 2 : Nat) : Int) } ∧ CodeT L start t (p + 1) ∧ L[p + 1 + tsz t]? = some (ins 10)
 | .opt t,p => L[p]? = some { ins 12 with to := ((p + tsz t + 1 : Nat) : Int) } ∧ CodeT L start t (p + 1)
 | .void,p => L[p]? = some (ins 15)
theorem basicOp_le (s : By) : basicOp s ≤ 3 := by
 unfold basicOp
 split
 ·omega
 split
 ·omega
 split <;> omega
section
variable {L L' : List Ins} {calls : List (Nat × By × Nat)} {start : List (By × Nat)}
theorem codeT_of (r : Rsv L L' calls start) : ∀ (t : Ty) (p : Nat),Seg L p (lowerL t p) → (∀ x ∈ callsL t p,x ∈ calls) → CodeT L' start t p
 | .basic s,p,h,_ => r.other p _ h.head (by have := basicOp_le s; simp only [ins]; omega)
 | .named s a,p,h,hc => r.call (p,s,a) (hc _ (by simp [callsL]))
 | .bytes _ f n,p,h,_ => r.other p _ h.head (by simp [ins])
 | .array t f n,p,h,hc => by
  rw [lowerL] at h
  refine ⟨r.other p _ h.head (by cases f <;> simp [ins]),codeT_of r t (p + 1) h.tail.left hc,?_⟩
  have := h.tail.right
  rw [lowerL_len] at this
  exact r.other _ _ this.head (by simp [ins])
 | .opt t,p,h,hc => by
  rw [lowerL] at h
  exact ⟨r.other p _ h.head (by simp [ins]),codeT_of r t (p + 1) h.tail hc⟩
 | .void,p,h,_ => r.other p _ h.head (by simp [ins])
def CodeP (L : List Ins) (start : List (By × Nat)) : List Decl → Nat → Prop
 | [],_ => True
 | d :: r,p => CodeT L start d.ty p ∧ CodeP L start r (p + tsz d.ty)
def CodeA (L : List Ins) (start : List (By × Nat)) (e : Int) : List Arm → Nat → Prop
 | [],_ => True
 | a :: r,p => CodeT L start a.decl.ty p ∧ L[p + tsz a.decl.ty]? = some (skipI e) ∧ CodeA L start e r (p + tsz a.decl.ty + 1)
def CodeE (L : List Ins) (start : List (By × Nat)) (e : Int) : Option Decl → Nat → Prop
 | none,_ => True
 | some d,p => CodeT L start d.ty p ∧ L[p + tsz d.ty]? = some (skipI e)
theorem codeP_of (r : Rsv L L' calls start) : ∀ (l : List Decl) (p : Nat),Seg L p (partsL l p) → (∀ x ∈ partsCalls l p,x ∈ calls) → CodeP L' start l p
 | [],_,_,_ => trivial
 | d :: l,p,h,hc => by
  rw [partsL] at h
  have h2 := h.right
  rw [lowerL_len] at h2
  exact ⟨codeT_of r d.ty p h.left fun x hx => hc x (List.mem_append_left _ hx),codeP_of r l _ h2 fun x hx => hc x (List.mem_append_right _ hx)⟩
theorem codeA_of (r : Rsv L L' calls start) (e : Int) : ∀ (l : List Arm) (p : Nat),Seg L p (armsL l p e) → (∀ x ∈ armsCalls l p,x ∈ calls) → CodeA L' start e l p
 | [],_,_,_ => trivial
 | d :: l,p,h,hc => by
  rw [armsL] at h
  have h2 := h.right
  rw [lowerL_len] at h2
  exact ⟨codeT_of r d.decl.ty p h.left fun x hx => hc x (List.mem_append_left _ hx),r.other _ _ h2.head (by simp [skipI,ins]),codeA_of r e l _ h2.tail fun x hx => hc x (List.mem_append_right _ hx)⟩
theorem codeE_of (r : Rsv L L' calls start) (e : Int) (l : Option Decl) (p : Nat) (h : Seg L p (elsL l p e)) (hc : ∀ x ∈ elsCalls l p,x ∈ calls) : CodeE L' start e l p := by
 cases l with
 | none => trivial
 | some d =>
  rw [elsL] at h
  have h2 := h.right
  rw [lowerL_len] at h2
  exact ⟨codeT_of r d.ty p h.left hc,r.other _ _ h2.head (by simp [skipI,ins])⟩
def CodeK (L : List Ins) (tabs : List Tab) (start : List (By × Nat)) (defs : List (By × Def)) (p tb : Nat) : Dk → Prop
 | .alias t => CodeT L start t p ∧ L[p + tsz t]? = some (ins 7)
 | .enum _ nums => L[p]? = some { ins 4 with table := some tb } ∧ tabs[tb]? = some (members nums) ∧ L[p + 1]? = some (ins 7)
 | .struct ds => L[p]? = some { ins 11 with n := ds.length } ∧ CodeP L start ds (p + 1) ∧ L[p + 1 + partsSz ds]? = some (ins 7)
 | .union of _ arms els => L[p]? = some (headI defs of tb (elsTo els (p + 1 + armsSz arms))) ∧ tabs[tb]? = some (armsTab arms (p + 1) []) ∧ Seg tabs (tb + 1) (setTabs defs of) ∧
   CodeA L start ((p + 1 + armsSz arms + elsSz els : Nat) : Int) arms (p + 1) ∧ CodeE L start ((p + 1 + armsSz arms + elsSz els : Nat) : Int) els (p + 1 + armsSz arms) ∧ L[p + 1 + armsSz arms + elsSz els]? = some (ins 7)
 | _ => True
theorem codeK_of (r : Rsv L L' calls start) {tabs : List Tab} {defs : List (By × Def)} (p tb : Nat) (k : Dk) (h : Seg L p (kindL defs p tb k)) (hc : ∀ x ∈ kindCalls p k,x ∈ calls) (ht : Seg tabs tb (kindTabs defs p k)) : CodeK L' tabs start defs p tb k := by
 cases k with
 | const n => trivial
 | prog n vs => trivial
 | alias t =>
  simp only [kindL] at h
  have h2 := h.right
  rw [lowerL_len] at h2
  exact ⟨codeT_of r t p h.left hc,r.other _ _ h2.head (by simp [ins])⟩
 | enum ns is => exact ⟨r.other _ _ h.head (by simp [ins]),ht.head,r.other _ _ h.tail.head (by simp [ins])⟩
 | struct ds =>
  simp only [kindL] at h
  have h2 := h.tail.right
  rw [partsL_len] at h2
  exact ⟨r.other _ _ h.head (by simp [ins]),codeP_of r ds (p + 1) h.tail.left hc,r.other _ _ h2.head (by simp [ins])⟩
 | union of n arms els =>
  simp only [kindL,unionL,List.cons_append] at h
  simp only [kindCalls,unionCalls] at hc
  have h1 := h.tail.left
  have h2 := h1.right
  have h3 := h.tail.right
  rw [armsL_len] at h2
  rw [List.length_append,armsL_len,elsL_len,← Nat.add_assoc] at h3
  exact ⟨r.other _ _ h.head (by simp [headI,ins]),ht.head,ht.tail,codeA_of r _ arms _ h1.left fun x hx => hc x (List.mem_append_left _ hx),codeE_of r _ els _ h2 fun x hx => hc x (List.mem_append_right _ hx),r.other _ _ h3.head (by simp [ins])⟩
end
structure Prg (L : List Ins) (tabs : List Tab) (start : List (By × Nat)) (defs : List (By × Def)) : Prop where
 named : ∀ s p,start.lookup s = some p → ∃ d tb,defs.lookup s = some d ∧ isType d.k = true ∧ ofGood defs d.k = true ∧ CodeK L tabs start defs p tb d.k
theorem LI.prg {c : CS} (h : LI c) {L' : List Ins} (hr : resolveC c.start c.L c.calls = .ok L') : Prg L' c.tabs c.start c.defs :=
 ⟨fun s p hs => by
  obtain ⟨d,tb,h1,h2,h3,h4,h5,h6⟩ := h.start s p hs
  exact ⟨d,tb,h1,h2,h3,codeK_of (h.rsv hr) p tb d.k h4 h5 h6⟩⟩
def fitsZ (op : Nat) (set : List Int) (n : Int) : Bool :=
 if op == 0 then n == sgn32 n
 else if op == 1 then n == n % 4294967296
 else if op == 3 then n == 0 || n == 1
 else if op == 4 then set.contains n
 else true
theorem lookup_membersFrom : ∀ (l : List Int) (k : Nat) (m : Tab) (n : Int),((membersFrom k m l).lookup n).isSome = ((m.lookup n).isSome || l.contains n)
 | [],k,m,n => by simp [membersFrom]
 | a :: r,k,m,n => by
  rw [membersFrom,lookup_membersFrom r,lookup_mset,List.contains_cons]
  cases h : n == a with
  | true => simp
  | false => simp
theorem lookup_members (l : List Int) (n : Int) : ((members l).lookup n).isSome = l.contains n := by rw [members,lookup_membersFrom]; simp
structure Ways (σ : Type) (L : List Ins) (tabs : List Tab) (io : Wy σ) (z : Wz σ) : Prop where
 leaf : ∀ i set d,(i.op = 4 → ∀ n,fits 4 (tabOf tabs i.table) n = set.contains n) → io.leaf i d = z.leaf i.op i.fixed i.n set d
 list : ∀ i d,io.list i d = z.list (i.op == 9) i.n d
 listGe : ∀ v n d x,z.list v n d = .ok x → 0 ≤ n → 0 ≤ x.1
 option : ∀ d,io.option d = z.option d
 union : ∀ i set which d,(∀ n,fits i.of_ (tabOf tabs i.set) n = fitsZ i.of_ set n) → (∀ n,fitsZ i.of_ set n = true → which n = if target tabs i n < 0 then none else some ((L[(target tabs i n).toNat]?).map (·.op) == some 15)) →
  io.union i d = (z.union i.of_ set which d).andThen fun x => .ok (target tabs i x.1,x.2)
 arm : ∀ of_ set which d x,z.union of_ set which d = .ok x → fitsZ of_ set x.1 = true ∧ (which x.1).isSome = true
 place : ∀ d,io.place d = z.place d
theorem casesTab_lookup (b : Nat) : ∀ (l : List Int) (m : Tab) (n : Int),(casesTab b m l).lookup n = if l.contains n then some b else m.lookup n
 | [],m,n => by simp [casesTab]
 | a :: r,m,n => by
  rw [casesTab,casesTab_lookup b r,lookup_mset,List.contains_cons]
  cases h : n == a <;> cases h2 : r.contains n <;> simp
theorem armsTab_lookup {L : List Ins} {start : List (By × Nat)} {e : Int} : ∀ (l : List Arm) (b : Nat) (m : Tab) (n : Int),CodeA L start e l b →
  (match armTy l n with
   | some t => ∃ p,(armsTab l b m).lookup n = some p ∧ CodeT L start t p ∧ L[p + tsz t]? = some (skipI e)
   | none => (armsTab l b m).lookup n = m.lookup n)
 | [],b,m,n,_ => rfl
 | a :: r,b,m,n,h => by
  have k := armsTab_lookup r (b + tsz a.decl.ty + 1) (casesTab b m a.nums) n h.2.2
  rw [armTy,armsTab]
  cases hr : armTy r n with
  | some t => rw [hr] at k; exact k
  | none =>
   rw [hr] at k
   simp only at k ⊢
   rw [casesTab_lookup] at k
   split
   ·rename_i t ht
    cases hc : a.nums.contains n with
    | true =>
     rw [hc,if_pos rfl] at ht k
     cases ht
     exact ⟨b,k,h.1,h.2.1⟩
    | false => rw [hc,if_neg (by simp)] at ht; cases ht
   ·rename_i ht
    cases hc : a.nums.contains n with
    | true => rw [hc,if_pos rfl] at ht; cases ht
    | false => rw [hc,if_neg (by simp)] at k; exact k
theorem codeT_op {L : List Ins} {start : List (By × Nat)} : ∀ {t : Ty} {p : Nat},CodeT L start t p → ((L[p]?).map (·.op) == some 15) = (t == .void)
 | .basic s,p,h => by
  rw [show L[p]? = _ from h]
  have := basicOp_le s
  have h1 : (basicOp s == 15) = false := by simp; omega
  show (some (basicOp s) == some 15) = _
  rw [show (some (basicOp s) == some 15) = (basicOp s == 15) from rfl,h1]
  exact (beq_eq_false_iff_ne.mpr (by simp)).symm
 | .named s a,p,h => by
  obtain ⟨t,_,h⟩ := h
  rw [h]
  exact (beq_eq_false_iff_ne.mpr (by simp)).symm
 | .bytes a f n,p,h => by rw [show L[p]? = _ from h]; exact (beq_eq_false_iff_ne.mpr (by simp)).symm
 | .array t f n,p,h => by rw [h.1]; cases f <;> exact (beq_eq_false_iff_ne.mpr (by simp)).symm
 | .opt t,p,h => by rw [h.1]; exact (beq_eq_false_iff_ne.mpr (by simp)).symm
 | .void,p,h => by rw [show L[p]? = _ from h]; rfl
def flatT : Ty → Bool
 | .basic _ => true
 | .named _ _ => true
 | _ => false
def okN (f : Bool) (n : Int) : Bool := if f then decide (1 ≤ n ∧ n ≤ 1000) else decide (0 ≤ n ∧ n ≤ 4294967295)
theorem okN_ge {f : Bool} {n : Int} (h : okN f n = true) : 0 ≤ n ∧ n ≤ 4294967295 ∧ (f = true → 1 ≤ n ∧ n ≤ 1000) := by
 unfold okN at h
 cases f with
 | true => simp only [if_true,decide_eq_true_eq] at h; exact ⟨by omega,by omega,fun _ => h⟩
 | false => simp only [Bool.false_eq_true,if_false,decide_eq_true_eq] at h; exact ⟨h.1,h.2,fun h => by cases h⟩
def okT : Ty → Bool
 | .array t f n => flatT t && okN f n
 | .opt t => flatT t
 | .bytes _ f n => okN f n
 | _ => true
def i32 (n : Int) : Bool := decide (-2147483648 ≤ n ∧ n ≤ 2147483647)
def okK : Dk → Bool
 | .alias t => okT t && t != .void
 | .enum _ nums => nums.all i32
 | .struct ds => ((!ds.isEmpty) && decide (ds.length ≤ 12)) && ds.all fun d => okT d.ty && d.ty != .void
 | .union of _ arms els => ((ofOp of != 2) && arms.all fun a => okT a.decl.ty) && els.all fun d => okT d.ty
 | _ => true
theorem flat_ok {t : Ty} (h : flatT t = true) : okT t = true := by cases t <;> first | rfl | cases h
section
variable {σ : Type} {L : List Ins} {tabs : List Tab} {lim : Lim} {io : Wy σ} {z : Wz σ} {start : List (By × Nat)} {defs : List (By × Def)}
def Runs (L : List Ins) (lim : Lim) (io : Wy σ) (s : MS σ) (m : Res σ) (pc : Nat) (back : List Nat) (loops : List (Int × Nat)) : Prop := Comes L lim io s (m.andThen fun d => .ok ⟨pc,back,loops,d⟩)
theorem Runs.then_ {s : MS σ} {m : Res σ} {f : σ → Res σ} {pc pc' : Nat} {back back' : List Nat} {loops loops' : List (Int × Nat)} (h : Runs L lim io s m pc back loops) (k : ∀ d,m = .ok d → Runs L lim io ⟨pc,back,loops,d⟩ (f d) pc' back' loops') :
  Runs L lim io s (m.andThen f) pc' back' loops' := by
 unfold Runs
 rw [Res.assoc]
 exact Comes.bind h k
theorem Runs.of_step {s : MS σ} {i : Ins} {α : Type} {m : Res α} {f : α → MS σ} {r : α → Res σ} {pc : Nat} {back : List Nat} {loops : List (Int × Nat)} (hi : L[s.pc]? = some i) (h : mexec lim io i s = some (m.andThen fun x => .ok (true,f x)))
  (k : ∀ x,m = .ok x → Runs L lim io (f x) (r x) pc back loops) : Runs L lim io s (m.andThen r) pc back loops := by
 unfold Runs
 rw [Res.assoc]
 exact Comes.step hi h k
theorem Runs.go {s s' : MS σ} {m : Res σ} {pc : Nat} {back : List Nat} {loops : List (Int × Nat)} {i : Ins} (hi : L[s.pc]? = some i) (h : mexec lim io i s = some (.ok (true,s'))) (k : Runs L lim io s' m pc back loops) : Runs L lim io s m pc back loops :=
 (Goes.step hi h).comes k
theorem Runs.here {pc : Nat} {back : List Nat} {loops : List (Int × Nat)} {d : σ} : Runs L lim io ⟨pc,back,loops,d⟩ (.ok d) pc back loops := Goes.refl _
def NameRuns (L : List Ins) (lim : Lim) (io : Wy σ) (start : List (By × Nat)) (nm : By → σ → Res σ) (r : Nat) : Prop :=
 ∀ s t,start.lookup s = some t → ∀ p back loops d,L[p]? = some { ins 6 with to := ((t : Nat) : Int) } → (lim.depth - back.length).toNat = r → loops.length ≤ back.length + 1 → Runs L lim io ⟨p,back,loops,d⟩ (nm s d) (p + 1) back loops
theorem runs_leaf (w : Ways σ L tabs io z) {p : Nat} {i : Ins} {back : List Nat} {loops : List (Int × Nat)} {d : σ} {set : List Int} (hi : L[p]? = some i) (ho : i.op ≤ 5) (hs : i.op = 4 → ∀ n,fits 4 (tabOf tabs i.table) n = set.contains n) : Runs L lim io ⟨p,back,loops,d⟩ (z.leaf i.op i.fixed i.n set d) (p + 1) back loops := by
 have h : mexec lim io i ⟨p,back,loops,d⟩ = some ((io.leaf i d).andThen fun d => .ok (true,⟨p + 1,back,loops,d⟩)) := by
  have e : ∀ k,5 < k → (i.op == k) = false := fun k hk => by simp; omega
  unfold mexec
  simp only [e 16 (by omega),e 15 (by omega),e 14 (by omega),e 6 (by omega),e 7 (by omega),e 8 (by omega),e 9 (by omega),e 10 (by omega),e 11 (by omega),e 12 (by omega),e 13 (by omega),Bool.false_eq_true,if_false,Bool.or_self]
 rw [w.leaf i set d hs] at h
 have k := Runs.of_step (pc := p + 1) (back := back) (loops := loops) (r := fun d => Res.ok d) hi h fun x _ => Runs.here
 rw [show (z.leaf i.op i.fixed i.n set d).andThen (fun d => Res.ok d) = z.leaf i.op i.fixed i.n set d by cases z.leaf i.op i.fixed i.n set d <;> rfl] at k
 exact k
theorem runs_F (w : Ways σ L tabs io z) {nm : By → σ → Res σ} {r : Nat} (hn : NameRuns L lim io start nm r) (t : Ty) (hf : flatT t = true) (p : Nat) (back : List Nat) (loops : List (Int × Nat)) (d : σ) (h : CodeT L start t p) (hr : (lim.depth - back.length).toNat = r) (hl : loops.length ≤ back.length + 1) :
  Runs L lim io ⟨p,back,loops,d⟩ (semT z nm t d) (p + tsz t) back loops := by
 cases t with
 | basic s =>
  have hb := basicOp_le s
  exact runs_leaf (lim := lim) (back := back) (loops := loops) (d := d) (set := []) w (show L[p]? = some (ins (basicOp s)) from h) (by simp only [ins]; omega) (fun h4 => by simp only [ins] at h4; omega)
 | named s a =>
  obtain ⟨t,h1,h2⟩ := h
  exact hn s t h1 p back loops d h2 hr hl
 | _ => cases hf
theorem runs_T (w : Ways σ L tabs io z) {nm : By → σ → Res σ} {r : Nat} (hn : NameRuns L lim io start nm r) (hd : lim.depth ≤ 900) (t : Ty) (ht : okT t = true) (p : Nat) (back : List Nat) (loops : List (Int × Nat)) (d : σ) (h : CodeT L start t p) (hr : (lim.depth - back.length).toNat = r) (hb : back.length ≤ 901) (hl : loops.length ≤ back.length) :
  Runs L lim io ⟨p,back,loops,d⟩ (semT z nm t d) (p + tsz t) back loops := by
 cases t with
 | basic s => exact runs_F w hn _ rfl p back loops d h hr (by omega)
 | named s a => exact runs_F w hn _ rfl p back loops d h hr (by omega)
 | bytes a f n => exact runs_leaf (lim := lim) (back := back) (loops := loops) (d := d) (set := []) w (show L[p]? = some { ins 5 with n := n,fixed := f } from h) (by simp [ins]) (fun h4 => by simp [ins] at h4)
 | void => exact Runs.go (show L[p]? = some (ins 15) from h) rfl Runs.here
 | opt t =>
  obtain ⟨h1,h2⟩ := h
  rw [semT]
  refine Runs.of_step (m := z.option d) (f := fun x => ⟨if x.1 then p + 1 else p + tsz t + 1,back,loops,x.2⟩) (pc := p + tsz (.opt t)) h1 (by rw [← w.option]; rfl) ?_
  intro x _
  have e : p + tsz (.opt t) = p + 1 + tsz t := by rw [tsz]; omega
  cases hx : x.1 with
  | true =>
   simp only [if_true]
   have k := runs_F w hn t ht (p + 1) back loops x.2 h2 hr (by omega)
   rw [e]
   exact k
  | false =>
   simp only [if_false,Bool.false_eq_true]
   rw [tsz,← Nat.add_assoc]
   exact Runs.here
 | array t f n =>
  obtain ⟨h1,h2,h3⟩ := h
  rw [semT]
  rw [okT,Bool.and_eq_true] at ht
  have hex : mexec lim io { ins (if f then 8 else 9) with n := n,to := ((p + tsz t + 2 : Nat) : Int) } ⟨p,back,loops,d⟩ = some ((z.list (!f) n d).andThen fun x => .ok (true,if x.1 == 0 then ⟨p + tsz t + 2,back,loops,x.2⟩ else ⟨p + 1,back,(x.1 - 1,p + 1) :: loops,x.2⟩)) := by
   have hl' : ¬ 1000000 ≤ loops.length := by omega
   cases f <;> simp only [mexec,ins,if_true,if_false,Bool.false_eq_true,hl',w.list] <;>
   ·simp only [show ∀ a b : Nat,(a == b) = decide (a = b) from fun _ _ => rfl]
    simp only [decide_true,decide_false,Nat.reduceEqDiff,Bool.or_true,Bool.true_or,if_true,if_false,Bool.false_eq_true,Bool.not_true,Bool.not_false]
    congr 2
    funext x
    cases x.1 == 0 <;> rfl
  refine Runs.of_step (f := fun x => if x.1 == 0 then ⟨p + tsz t + 2,back,loops,x.2⟩ else ⟨p + 1,back,(x.1 - 1,p + 1) :: loops,x.2⟩) (pc := p + tsz (.array t f n)) h1 hex ?_
  intro x hx
  have hge := w.listGe (!f) n d x hx (okN_ge ht.2).1
  rw [tsz,← Nat.add_assoc]
  by_cases h0 : x.1 = 0
  ·rw [h0]
   simp only [beq_self_eq_true,if_true,Int.toNat_zero,iter]
   exact Runs.here
  ·have hb0 : (x.1 == 0) = false := by simpa using h0
   simp only [hb0,Bool.false_eq_true,if_false]
   -- the rounds
   have round : ∀ (k : Nat) (left : Int) (d : σ),left.toNat = k → Runs L lim io ⟨p + 1,back,(left,p + 1) :: loops,d⟩ (iter (semT z nm t) (k + 1) d) (p + tsz t + 2) back loops := by
    intro k
    induction k with
    | zero =>
     intro left d hk
     rw [iter]
     refine Runs.then_ (runs_F w hn t ht.1 (p + 1) back ((left,p + 1) :: loops) d h2 hr (by simp only [List.length_cons]; omega)) fun d' _ => ?_
     refine Runs.go h3 (s' := ⟨p + tsz t + 2,back,loops,d'⟩) ?_ ?_
     ·have : ¬ 0 < left := by omega
      simp only [mexec,ins]
      simp only [show ∀ a b : Nat,(a == b) = decide (a = b) from fun _ _ => rfl,decide_false,decide_true,Nat.reduceEqDiff,Bool.or_self,if_false,if_true,Bool.false_eq_true,this]
      rw [show p + 1 + tsz t + 1 = p + tsz t + 2 by omega]
     ·rw [iter]; exact Runs.here
    | succ k ih =>
     intro left d hk
     rw [iter]
     refine Runs.then_ (runs_F w hn t ht.1 (p + 1) back ((left,p + 1) :: loops) d h2 hr (by simp only [List.length_cons]; omega)) fun d' _ => ?_
     refine Runs.go h3 (s' := ⟨p + 1,back,(left - 1,p + 1) :: loops,d'⟩) ?_ (ih (left - 1) d' (by omega))
     have : 0 < left := by omega
     simp only [mexec,ins]
     simp only [show ∀ a b : Nat,(a == b) = decide (a = b) from fun _ _ => rfl,decide_false,decide_true,Nat.reduceEqDiff,Bool.or_self,if_false,if_true,Bool.false_eq_true,this]
   have := round (x.1.toNat - 1) (x.1 - 1) x.2 (by omega)
   rw [show x.1.toNat - 1 + 1 = x.1.toNat by omega] at this
   exact this
end
end Go.M
namespace Go.M
section
variable {σ : Type} {L : List Ins} {tabs : List Tab} {lim : Lim} {io : Wy σ} {z : Wz σ} {start : List (By × Nat)} {defs : List (By × Def)}
theorem runs_L (w : Ways σ L tabs io z) {nm : By → σ → Res σ} {r : Nat} (hn : NameRuns L lim io start nm r) (hd : lim.depth ≤ 900) {back : List Nat} {loops : List (Int × Nat)} (hr : (lim.depth - back.length).toNat = r) (hb : back.length ≤ 901) (hl : loops.length ≤ back.length) :
  ∀ (ds : List Decl) (hk : ds.all (fun d => okT d.ty && d.ty != .void) = true) (p : Nat) (d : σ),CodeP L start ds p → Runs L lim io ⟨p,back,loops,d⟩ (semL z nm ds d) (p + partsSz ds) back loops
 | [],_,p,d,_ => Runs.here
 | a :: ds,hk,p,d,h => by
  rw [List.all_cons,Bool.and_eq_true,Bool.and_eq_true] at hk
  rw [semL,partsSz,← Nat.add_assoc]
  exact Runs.then_ (runs_T w hn hd a.ty hk.1.1 p back loops d h.1 hr hb hl) fun d' _ => runs_L w hn hd hr hb hl ds hk.2 _ d' h.2
theorem armTy_mem : ∀ (l : List Arm) (n : Int) (t : Ty),armTy l n = some t → ∃ a ∈ l,a.decl.ty = t ∧ a.nums.contains n = true
 | [],_,_,h => by cases h
 | a :: r,n,t,h => by
  rw [armTy] at h
  split at h
  ·rename_i t' ht
   cases h
   obtain ⟨b,h1,h2⟩ := armTy_mem r n t ht
   exact ⟨b,List.mem_cons_of_mem _ h1,h2⟩
  ·split at h
   ·cases h; exact ⟨a,List.mem_cons_self ..,rfl,by assumption⟩
   ·cases h
theorem tab0 {i : Nat} {m : Tab} (h : tabs[i]? = some m) : (tabOf tabs (some i)).getD [] = m := by simp [tabOf,h]
theorem fits_set {defs : List (By × Def)} {of : Ty} {tb : Nat} {n : By} {arms : List Arm} {els : Option Decl} (hg : ofGood defs (.union of n arms els) = true) (hs : Seg tabs (tb + 1) (setTabs defs of)) (to : Int) (m : Int) :
  fits (headI defs of tb to).of_ (tabOf tabs (headI defs of tb to).set) m = fitsZ (ofOp of) (ofSet defs of) m := by
 cases of with
 | basic s =>
  have hb := basicOp_le s
  have h4 : (basicOp s == 4) = false := by simp; omega
  simp only [headI,ofOp,fits,fitsZ,h4,Bool.false_eq_true,if_false]
 | named s a =>
  simp only [ofGood] at hg
  cases hl : defs.lookup s with
  | none => rw [hl] at hg; cases hg
  | some d =>
   rw [hl] at hg
   obtain ⟨x,y,k⟩ := d
   cases k with
   | enum ns is =>
    simp only [setTabs,hl] at hs
    have h1 := hs.head
    simp only [headI,ofOp,setTabs,hl,fits,fitsZ,ofSet,tab0 h1,lookup_members]
   | _ => cases hg
 | _ => cases hg
theorem runs_union (w : Ways σ L tabs io z) {nm : By → σ → Res σ} {r : Nat} (hn : NameRuns L lim io start nm r) (hd : lim.depth ≤ 900) {back : List Nat} {loops : List (Int × Nat)} (hr : (lim.depth - back.length).toNat = r) (hb : back.length ≤ 901) (hl : loops.length ≤ back.length)
  {of : Ty} {n : By} {arms : List Arm} {els : Option Decl} {p tb : Nat} (d : σ) (hg : ofGood defs (.union of n arms els) = true) (hok : okK (.union of n arms els) = true) (h : CodeK L tabs start defs p tb (.union of n arms els)) :
  Runs L lim io ⟨p,back,loops,d⟩ (semK z nm defs (.union of n arms els) d) (p + 1 + armsSz arms + elsSz els) back loops := by
 obtain ⟨h1,h2,h3,h4,h5,h6⟩ := h
 have hfit := fits_set (tabs := tabs) hg h3 (elsTo els (p + 1 + armsSz arms))
 generalize he : p + 1 + armsSz arms + elsSz els = e at *
 -- where a number leads
 have lead : ∀ m,fitsZ (ofOp of) (ofSet defs of) m = true → (match armOf arms els m with
   | some t => ∃ q : Nat,target tabs (headI defs of tb (elsTo els (p + 1 + armsSz arms))) m = (q : Int) ∧ CodeT L start t q ∧ L[q + tsz t]? = some (skipI (e : Nat))
   | none => target tabs (headI defs of tb (elsTo els (p + 1 + armsSz arms))) m = -1) := by
  intro m hm
  have k := armsTab_lookup arms (p + 1) [] m h4
  have ht : target tabs (headI defs of tb (elsTo els (p + 1 + armsSz arms))) m = (match (armsTab arms (p + 1) []).lookup m with | some t => ((t : Nat) : Int) | none => elsTo els (p + 1 + armsSz arms)) := by
   unfold target
   rw [hfit,hm]
   simp only [Bool.not_true,Bool.false_eq_true,if_false]
   rw [show (headI defs of tb (elsTo els (p + 1 + armsSz arms))).table = some tb from rfl,tab0 h2]
   rfl
  rw [ht]
  unfold armOf
  cases ha : armTy arms m with
  | some t =>
   rw [ha] at k
   obtain ⟨q,k1,k2,k3⟩ := k
   rw [k1]
   exact ⟨q,rfl,k2,k3⟩
  | none =>
   rw [ha] at k
   simp only [List.lookup_nil] at k
   rw [k]
   cases els with
   | none => exact rfl
   | some dd => exact ⟨_,rfl,h5.1,h5.2⟩
 have hu := w.union (headI defs of tb (elsTo els (p + 1 + armsSz arms))) (ofSet defs of) (whichArm arms els) d hfit (fun m hm => by
  have k := lead m hm
  unfold whichArm
  cases ha : armOf arms els m with
  | none => rw [ha] at k; simp only at k; rw [k]; rfl
  | some t =>
   rw [ha] at k
   obtain ⟨q,k1,k2,k3⟩ := k
   rw [k1,if_neg (by omega),Int.toNat_natCast,codeT_op k2]
   rfl)
 have hex : mexec lim io (headI defs of tb (elsTo els (p + 1 + armsSz arms))) ⟨p,back,loops,d⟩ = some ((z.union (ofOp of) (ofSet defs of) (whichArm arms els) d).andThen fun x => .ok (true,⟨(target tabs (headI defs of tb (elsTo els (p + 1 + armsSz arms))) x.1).toNat,back,loops,x.2⟩)) := by
  simp only [mexec,headI,ins]
  simp only [show ∀ a b : Nat,(a == b) = decide (a = b) from fun _ _ => rfl,decide_false,decide_true,Nat.reduceEqDiff,Bool.or_self,if_false,if_true,Bool.false_eq_true]
  refine congrArg some ((congrArg (fun m => Res.andThen m _) hu).trans ?_)
  rw [Res.assoc]
  rfl
 refine Runs.of_step (f := fun x => ⟨(target tabs (headI defs of tb (elsTo els (p + 1 + armsSz arms))) x.1).toNat,back,loops,x.2⟩) h1 hex fun x hx => ?_
 obtain ⟨a1,a2⟩ := w.arm _ _ _ _ _ hx
 have k := lead x.1 a1
 unfold whichArm at a2
 cases ha : armOf arms els x.1 with
 | none => rw [ha] at a2; cases a2
 | some t =>
  rw [ha] at k
  obtain ⟨q,k1,k2,k3⟩ := k
  simp only [k1,Int.toNat_natCast]
  have hkt : okT t = true := by
   rw [okK,Bool.and_eq_true,Bool.and_eq_true] at hok
   unfold armOf at ha
   cases ha' : armTy arms x.1 with
   | some t' =>
    rw [ha'] at ha
    cases ha
    obtain ⟨b,hb1,rfl,_⟩ := armTy_mem _ _ _ ha'
    exact List.all_eq_true.mp hok.1.2 b hb1
   | none =>
    rw [ha'] at ha
    cases els with
    | none => cases ha
    | some dd => cases ha; exact hok.2
  have hT := runs_T w hn hd t hkt q back loops x.2 k2 hr hb hl
  have : Runs L lim io ⟨q,back,loops,x.2⟩ ((semT z nm t x.2).andThen fun d => .ok d) e back loops := by
   refine Runs.then_ hT fun d' _ => ?_
   exact Runs.go k3 (s' := ⟨e,back,loops,d'⟩) (by simp [mexec,skipI,ins]) Runs.here
  rwa [show ∀ m : Res σ,(m.andThen fun d => .ok d) = m from fun m => by cases m <;> rfl] at this
theorem runs_K (w : Ways σ L tabs io z) {nm : By → σ → Res σ} {r : Nat} (hn : NameRuns L lim io start nm r) (hd : lim.depth ≤ 900) {back : List Nat} {q : Nat} {loops : List (Int × Nat)} (hr : (lim.depth - (q :: back).length).toNat = r) (hb : (q :: back).length ≤ 901) (hl : loops.length ≤ (q :: back).length)
  {k : Dk} {p tb : Nat} (d : σ) (ht : isType k = true) (hg : ofGood defs k = true) (hok : okK k = true) (h : CodeK L tabs start defs p tb k) :
  Runs L lim io ⟨p,q :: back,loops,d⟩ (semK z nm defs k d) q back loops := by
 have ret : ∀ (e : Nat) (m : Res σ),L[e]? = some (ins 7) → Runs L lim io ⟨p,q :: back,loops,d⟩ m e (q :: back) loops → Runs L lim io ⟨p,q :: back,loops,d⟩ m q back loops := by
  intro e m h7 hm
  have := Runs.then_ (f := fun d => .ok d) hm fun d' _ => Runs.go h7 (s' := ⟨q,back,loops,d'⟩) (by simp [mexec,ins]) Runs.here
  rwa [show (m.andThen fun d => .ok d) = m by cases m <;> rfl] at this
 cases k with
 | const n => cases ht
 | prog n vs => cases ht
 | alias t =>
  rw [okK,Bool.and_eq_true] at hok
  exact ret _ _ h.2 (runs_T w hn hd t hok.1 p (q :: back) loops d h.1 hr hb hl)
 | enum ns is =>
  refine ret _ _ h.2.2 ?_
  exact runs_leaf (lim := lim) (back := q :: back) (loops := loops) (d := d) (set := is) w h.1 (by simp [ins]) (fun _ n => by
   simp only [fits,tab0 h.2.1,lookup_members]
   rfl)
 | struct ds =>
  obtain ⟨h1,h2,h3⟩ := h
  rw [okK,Bool.and_eq_true] at hok
  refine ret _ _ h3 ?_
  rw [semK]
  refine Runs.of_step (m := z.list false ds.length d) (f := fun x => ⟨p + 1,q :: back,loops,x.2⟩) h1 ?_ fun x _ => runs_L w hn hd hr hb hl ds hok.2 (p + 1) x.2 h2
  simp only [mexec,ins]
  simp only [show ∀ a b : Nat,(a == b) = decide (a = b) from fun _ _ => rfl,decide_false,decide_true,Nat.reduceEqDiff,Bool.or_self,if_false,if_true,Bool.false_eq_true,w.list]
 | union of n arms els => exact ret _ _ h.2.2.2.2.2 (runs_union w hn hd hr hb hl d hg hok h)
def okDefs (defs : List (By × Def)) : Prop := ∀ s d,defs.lookup s = some d → okK d.k = true
theorem runs_name (w : Ways σ L tabs io z) (g : Prg L tabs start defs) (ho : okDefs defs) (hd : lim.depth ≤ 900) : ∀ r,NameRuns L lim io start (sem z defs r) r
 | 0,s,t,hs,p,back,loops,d,hp,hr,hl => by
  rw [sem]
  refine Comes.fail hp ?_
  have : lim.depth ≤ back.length := by omega
  simp only [mexec,ins,this,if_true,w.place]
  simp only [show ∀ a b : Nat,(a == b) = decide (a = b) from fun _ _ => rfl,decide_false,decide_true,Nat.reduceEqDiff,if_false,if_true,Bool.false_eq_true]
 | r + 1,s,t,hs,p,back,loops,d,hp,hr,hl => by
  obtain ⟨x,tb,h1,h2,h3,h4⟩ := g.named s t hs
  rw [sem,h1]
  simp only
  refine Runs.go hp (s' := ⟨t,(p + 1) :: back,loops,d⟩) ?_ (runs_K w (runs_name w g ho hd r) hd (by simp only [List.length_cons]; omega) (by simp only [List.length_cons]; omega) (by simp only [List.length_cons]; omega) d h2 h3 (ho s x h1) h4)
  have : ¬ lim.depth ≤ back.length := by omega
  simp only [mexec,ins,this,if_false]
  simp only [show ∀ a b : Nat,(a == b) = decide (a = b) from fun _ _ => rfl,decide_false,decide_true,Nat.reduceEqDiff,if_false,if_true,Bool.false_eq_true,Int.toNat_natCast]
theorem run_side (w : Ways σ L tabs io z) (g : Prg L tabs start defs) (ho : okDefs defs) (hd : lim.depth ≤ 900) {t : Ty} (ht : okT t = true) {p : Nat} (d : σ) (h : CodeT L start t p) (hs : L[p + tsz t]? = some (ins 16)) :
  ∃ n,mrun L lim io n ⟨p,[],[],d⟩ = some ((semT z (sem z defs lim.depth.toNat) t d).andThen fun d => .ok ⟨p + tsz t,[],[],d⟩) :=
 Comes.stop (i := ins 16) rfl (fun _ => hs) (runs_T w (runs_name w g ho hd lim.depth.toNat) hd t ht p [] [] d h (by simp) (by simp) (by simp))
end
end Go.M
namespace Go.M
def DS.zleaf (lim : Lim) (op : Nat) (fixed : Bool) (n : Int) (set : List Int) (d : DS) : Res DS :=
 (d.fuel lim).andThen fun _ =>
 if op == 5 then
  (if fixed then .ok (n,d) else (d.count n).andThen fun x => .ok ((x.1 : Int),x.2)).andThen fun x =>
  if 2147483647 < x.1 then .no 16 x.2.pos else
  (x.2.text x.1.toNat).andThen fun y => .ok (y.2.add ⟨2,0,y.1,x.2.pos,0⟩)
 else if op == 2 then
  if d.b.length < d.pos + 8 then .no 16 d.pos else
  d.word.andThen fun x => x.2.word.andThen fun y =>
  let n : Int := x.1 * 4294967296 + y.1
  .ok (y.2.add ⟨1,if n < 9223372036854775808 then n else n - 18446744073709551616,[],0,0⟩)
 else
  d.word.andThen fun x => if fitsZ op set (numOf op x.1) then .ok (x.2.add ⟨1,numOf op x.1,[],0,0⟩) else .no 18 d.pos
def DS.zlist (lim : Lim) (v : Bool) (n : Int) (d : DS) : Res (Int × DS) :=
 (d.fuel lim).andThen fun _ =>
 (if v then (d.count n).andThen fun x => .ok ((x.1 : Int),x.2) else .ok (n,d)).andThen fun x =>
 .ok (x.1,x.2.add ⟨3,0,[],0,x.1⟩)
def DS.zunion (lim : Lim) (of_ : Nat) (set : List Int) (which : Int → Option Bool) (d : DS) : Res (Int × DS) :=
 (d.fuel lim).andThen fun _ => d.word.andThen fun x =>
 if fitsZ of_ set (numOf of_ x.1) then (match which (numOf of_ x.1) with
  | some v => .ok (numOf of_ x.1,x.2.add ⟨4,numOf of_ x.1,[],0,if v then 0 else 1⟩)
  | none => .no 18 d.pos)
 else .no 18 d.pos
def zRead (lim : Lim) : Wz DS := ⟨DS.zleaf lim,DS.zlist lim,DS.option lim,DS.zunion lim,fun d => d.pos⟩
theorem fits_z {op : Nat} {o : Option Tab} {set : List Int} (h : op = 4 → ∀ n,fits 4 o n = set.contains n) (n : Int) : fits op o n = fitsZ op set n := by
 unfold fitsZ
 by_cases h4 : op = 4
 ·subst h4
  rw [h rfl]; simp
 ·have : (op == 4) = false := by simpa using h4
  simp only [fits,this,Bool.false_eq_true,if_false]
theorem Res.then_ext {α β : Type} {m : Res α} {f g : α → Res β} (h : ∀ a,m = .ok a → f a = g a) : m.andThen f = m.andThen g := by
 cases m with
 | ok a => exact h a rfl
 | no e a => rfl
theorem ways_read (L : List Ins) (tabs : List Tab) (lim : Lim) : Ways DS L tabs (readWay L tabs lim) (zRead lim) := by
 refine ⟨?_,fun i d => rfl,?_,fun d => rfl,?_,?_,fun d => rfl⟩
 ·intro i set d h
  have hf := fits_z h
  simp only [readWay,zRead,DS.leaf,DS.zleaf,hf]
 ·intro v n d x h hn
  simp only [zRead,DS.zlist] at h
  obtain ⟨_,_,h⟩ := Res.then_ok h
  obtain ⟨y,h1,h⟩ := Res.then_ok h
  cases h
  cases v with
  | true =>
   simp only [if_true] at h1
   obtain ⟨u,_,h1⟩ := Res.then_ok h1
   cases h1
   show (0 : Int) ≤ (u.1 : Int)
   omega
  | false => simp only [Bool.false_eq_true,if_false,Res.ok.injEq] at h1; rw [← h1]; exact hn
 ·intro i set which d hf hw
  simp only [readWay,zRead,DS.union,DS.zunion,Res.assoc]
  refine Res.then_ext fun _ _ => Res.then_ext fun x _ => ?_
  cases hz : fitsZ i.of_ set (numOf i.of_ x.1) with
  | false =>
   have ht : target tabs i (numOf i.of_ x.1) = -1 := by
    unfold target
    rw [hf,hz]; rfl
   rw [ht]; rfl
  | true =>
   rw [hw _ hz]
   simp only [if_true]
   by_cases ht : target tabs i (numOf i.of_ x.1) < 0
   ·rw [if_pos ht,if_pos ht]; rfl
   ·rw [if_neg ht,if_neg ht]; rfl
 ·intro of_ set which d x h
  simp only [zRead,DS.zunion] at h
  obtain ⟨_,_,h⟩ := Res.then_ok h
  obtain ⟨y,_,h⟩ := Res.then_ok h
  split at h
  ·rename_i hz
   split at h
   ·rename_i v hv
    cases h
    exact ⟨hz,by rw [hv]; rfl⟩
   ·cases h
  ·cases h
def ES.zleaf (lim : Lim) (op : Nat) (fixed : Bool) (m : Int) (set : List Int) (e : ES) : Res ES :=
 if op == 5 then
  (e.take lim 2).andThen fun n =>
  (e.must (((n.s.length : Int) == m) || (decide ((n.s.length : Int) < m) && !fixed))).andThen fun _ =>
  e.put lim (if fixed then [n.s,zeros (padOf n.s.length)] else [wordB n.s.length,n.s,zeros (padOf n.s.length)])
 else
  (e.take lim 1).andThen fun n =>
  (e.must (fitsZ op set n.n)).andThen fun _ =>
  e.put lim (if op == 2 then [wordB ((n.n % 18446744073709551616).toNat / 4294967296),wordB (u32 n.n)] else [wordB (u32 n.n)])
def ES.zlist (lim : Lim) (v : Bool) (m : Int) (e : ES) : Res (Int × ES) :=
 (e.take lim 3).andThen fun n =>
 if v then (e.must (decide (0 ≤ n.len) && decide (n.len ≤ m))).andThen fun _ => (e.put lim [wordB (u32 n.len)]).andThen fun e => .ok (n.len,e)
 else (e.must (n.len == m)).andThen fun _ => (e.put lim []).andThen fun e => .ok (n.len,e)
def ES.zunion (lim : Lim) (of_ : Nat) (set : List Int) (which : Int → Option Bool) (e : ES) : Res (Int × ES) :=
 (e.take lim 4).andThen fun n =>
 (e.must (fitsZ of_ set n.n)).andThen fun _ =>
 match which n.n with
 | none => .no 12 e.k
 | some v => (e.must (n.len == if v then 0 else 1)).andThen fun _ => (e.put lim [wordB (u32 n.n)]).andThen fun e => .ok (n.n,e)
def zWrite (lim : Lim) : Wz ES := ⟨ES.zleaf lim,ES.zlist lim,ES.option lim,ES.zunion lim,fun e => e.k⟩
theorem ES.must_ok {b : Bool} {e : ES} {u : Unit} (h : e.must b = .ok u) : b = true := by
 unfold ES.must at h
 split at h
 ·assumption
 ·cases h
theorem ways_write (L : List Ins) (tabs : List Tab) (lim : Lim) : Ways ES L tabs (writeWay L tabs lim) (zWrite lim) := by
 refine ⟨?_,fun i d => rfl,?_,fun d => rfl,?_,?_,fun d => rfl⟩
 ·intro i set d h
  have hf := fits_z h
  simp only [writeWay,zWrite,ES.leaf,ES.zleaf,hf]
 ·intro v n d x h hn
  simp only [zWrite,ES.zlist] at h
  obtain ⟨y,_,h⟩ := Res.then_ok h
  cases v with
  | true =>
   simp only [if_true] at h
   obtain ⟨_,h1,h⟩ := Res.then_ok h
   obtain ⟨e,_,h⟩ := Res.then_ok h
   cases h
   have := ES.must_ok h1
   simp only [Bool.and_eq_true,decide_eq_true_eq] at this
   exact this.1
  | false =>
   simp only [Bool.false_eq_true,if_false] at h
   obtain ⟨_,h1,h⟩ := Res.then_ok h
   obtain ⟨e,_,h⟩ := Res.then_ok h
   cases h
   have := ES.must_ok h1
   simp only [beq_iff_eq] at this
   show 0 ≤ y.len
   omega
 ·intro i set which d hf hw
  simp only [writeWay,zWrite,ES.union,ES.zunion,Res.assoc]
  refine Res.then_ext fun n _ => ?_
  cases hz : fitsZ i.of_ set n.n with
  | false =>
   have ht : target tabs i n.n = -1 := by
    unfold target
    rw [hf,hz]; rfl
   rw [ht]; rfl
  | true =>
   rw [hw _ hz]
   by_cases ht : target tabs i n.n < 0
   ·rw [if_pos ht,show decide (0 ≤ target tabs i n.n) = false from decide_eq_false (by omega)]; rfl
   ·rw [if_neg ht,show decide (0 ≤ target tabs i n.n) = true from decide_eq_true (by omega)]
    simp only [ES.must,if_true,Res.ok_then,Res.assoc]
 ·intro of_ set which d x h
  simp only [zWrite,ES.zunion] at h
  obtain ⟨y,_,h⟩ := Res.then_ok h
  obtain ⟨_,h1,h⟩ := Res.then_ok h
  have hz := ES.must_ok h1
  split at h
  ·cases h
  ·rename_i v hv
   obtain ⟨_,_,h⟩ := Res.then_ok h
   obtain ⟨e,_,h⟩ := Res.then_ok h
   cases h
   exact ⟨hz,by rw [hv]; rfl⟩
end Go.M
namespace Go.M
structure Each {σ : Type} (z : Wz σ) (Q : σ → σ → Prop) : Prop where
 refl : ∀ d,Q d d
 trans : ∀ a b c,Q a b → Q b c → Q a c
 leaf : ∀ op f n set d d',(op ≤ 5) → (op = 5 → okN f n = true) → z.leaf op f n set d = .ok d' → Q d d'
 list : ∀ v n d x,0 ≤ n → z.list v n d = .ok x → Q d x.2
 option : ∀ d x,z.option d = .ok x → Q d x.2
 union : ∀ of_ set which d x,z.union of_ set which d = .ok x → Q d x.2
section
variable {σ : Type} {z : Wz σ} {Q : σ → σ → Prop}
theorem Each.iter (h : Each z Q) {f : σ → Res σ} (hf : ∀ d d',f d = .ok d' → Q d d') : ∀ (n : Nat) {d d' : σ},M.iter f n d = .ok d' → Q d d'
 | 0,d,d',e => by cases e; exact h.refl d
 | n + 1,d,d',e => by
  obtain ⟨x,e1,e2⟩ := Res.then_ok e
  exact h.trans _ _ _ (hf _ _ e1) (h.iter hf n e2)
theorem Each.ty (h : Each z Q) {nm : By → σ → Res σ} (hn : ∀ s d d',nm s d = .ok d' → Q d d') : ∀ (t : Ty),okT t = true → ∀ {d d' : σ},semT z nm t d = .ok d' → Q d d'
 | .basic s,_,d,d',e => h.leaf _ _ _ _ _ _ (by have := basicOp_le s; omega) (by have := basicOp_le s; omega) e
 | .named s a,_,d,d',e => hn s d d' e
 | .bytes a f n,ho,d,d',e => h.leaf _ _ _ _ _ _ (by omega) (fun _ => ho) e
 | .void,_,d,d',e => by cases e; exact h.refl d
 | .opt t,ho,d,d',e => by
  rw [semT] at e
  obtain ⟨x,e1,e2⟩ := Res.then_ok e
  refine h.trans _ _ _ (h.option d x e1) ?_
  split at e2
  ·exact h.ty hn t (flat_ok ho) e2
  ·cases e2; exact h.refl _
 | .array t f n,ho,d,d',e => by
  rw [okT,Bool.and_eq_true] at ho
  rw [semT] at e
  obtain ⟨x,e1,e2⟩ := Res.then_ok e
  exact h.trans _ _ _ (h.list _ _ _ x (okN_ge ho.2).1 e1) (h.iter (fun d d' e => h.ty hn t (flat_ok ho.1) e) _ e2)
theorem Each.parts (h : Each z Q) {nm : By → σ → Res σ} (hn : ∀ s d d',nm s d = .ok d' → Q d d') : ∀ (ds : List Decl),(ds.all fun d => okT d.ty && d.ty != .void) = true → ∀ {d d' : σ},semL z nm ds d = .ok d' → Q d d'
 | [],_,d,d',e => by cases e; exact h.refl d
 | a :: r,ho,d,d',e => by
  rw [List.all_cons,Bool.and_eq_true,Bool.and_eq_true] at ho
  rw [semL] at e
  obtain ⟨x,e1,e2⟩ := Res.then_ok e
  exact h.trans _ _ _ (h.ty hn a.ty ho.1.1 e1) (h.parts hn r ho.2 e2)
theorem armOf_ok {of : Ty} {n : By} {arms : List Arm} {els : Option Decl} {m : Int} {t : Ty} (hok : okK (.union of n arms els) = true) (ha : armOf arms els m = some t) : okT t = true := by
 rw [okK,Bool.and_eq_true,Bool.and_eq_true] at hok
 unfold armOf at ha
 cases ha' : armTy arms m with
 | some t' =>
  rw [ha'] at ha
  cases ha
  obtain ⟨b,hb1,rfl,_⟩ := armTy_mem _ _ _ ha'
  exact List.all_eq_true.mp hok.1.2 b hb1
 | none =>
  rw [ha'] at ha
  cases els with
  | none => cases ha
  | some dd => cases ha; exact hok.2
theorem Each.kind (h : Each z Q) {nm : By → σ → Res σ} (hn : ∀ s d d',nm s d = .ok d' → Q d d') {defs : List (By × Def)} (k : Dk) (ho : okK k = true) {d d' : σ} (e : semK z nm defs k d = .ok d') : Q d d' := by
 cases k with
 | const n => cases e
 | prog n vs => cases e
 | alias t => rw [okK,Bool.and_eq_true] at ho; exact h.ty hn t ho.1 e
 | enum ns is => exact h.leaf _ _ _ _ _ _ (by omega) (by omega) e
 | struct ds =>
  rw [okK,Bool.and_eq_true] at ho
  rw [semK] at e
  obtain ⟨x,e1,e2⟩ := Res.then_ok e
  exact h.trans _ _ _ (h.list _ _ _ x (by omega) e1) (h.parts hn ds ho.2 e2)
 | union of n arms els =>
  rw [semK] at e
  obtain ⟨x,e1,e2⟩ := Res.then_ok e
  refine h.trans _ _ _ (h.union _ _ _ _ x e1) ?_
  cases ha : armOf arms els x.1 with
  | none => rw [ha] at e2; cases e2
  | some t => rw [ha] at e2; exact h.ty hn t (armOf_ok ho ha) e2
theorem Each.sem (h : Each z Q) {defs : List (By × Def)} (ho : okDefs defs) : ∀ (r : Nat) (s : By) (d d' : σ),sem z defs r s d = .ok d' → Q d d'
 | 0,s,d,d',e => by cases e
 | r + 1,s,d,d',e => by
  rw [M.sem] at e
  cases hl : defs.lookup s with
  | none => rw [hl] at e; cases e
  | some x => rw [hl] at e; exact h.kind (h.sem ho r) x.k (ho s x hl) e
end
def SetOk (set : List Int) : Prop := ∀ m ∈ set,i32 m = true
theorem ofSet_ok {defs : List (By × Def)} (ho : okDefs defs) (of : Ty) : SetOk (ofSet defs of) := by
 cases of with
 | named s a =>
  simp only [ofSet]
  split
  ·rename_i hl
   have := ho s _ hl
   simp only [okK] at this
   exact fun m hm => List.all_eq_true.mp this m hm
  ·intro m hm; cases hm
 | _ => intro m hm; cases hm
structure Beside {σ τ : Type} (z : Wz σ) (y : Wz τ) (G : σ → Prop) (R : σ → τ → Prop) : Prop where
 back : Each z fun d d' => G d' → G d
 leaf : ∀ op f n set d d' e,(op ≤ 5) → (op = 5 → okN f n = true) → SetOk set → z.leaf op f n set d = .ok d' → G d' → R d e → ∃ e',y.leaf op f n set e = .ok e' ∧ R d' e'
 list : ∀ v n d x e,0 ≤ n → n ≤ 4294967295 → z.list v n d = .ok x → G x.2 → R d e → ∃ e',y.list v n e = .ok (x.1,e') ∧ R x.2 e'
 option : ∀ d x e,z.option d = .ok x → G x.2 → R d e → ∃ e',y.option e = .ok (x.1,e') ∧ R x.2 e'
 union : ∀ of_ set which d x e,(of_ ≤ 4) → of_ ≠ 2 → SetOk set → z.union of_ set which d = .ok x → G x.2 → R d e → ∃ e',y.union of_ set which e = .ok (x.1,e') ∧ R x.2 e'
section
variable {σ τ : Type} {z : Wz σ} {y : Wz τ} {G : σ → Prop} {R : σ → τ → Prop}
theorem Beside.iter (h : Beside z y G R) {f : σ → Res σ} {g : τ → Res τ} (hb : ∀ d d',f d = .ok d' → G d' → G d) (hf : ∀ d d' e,f d = .ok d' → G d' → R d e → ∃ e',g e = .ok e' ∧ R d' e') : ∀ (n : Nat) {d d' : σ} {e : τ},M.iter f n d = .ok d' → G d' → R d e → ∃ e',M.iter g n e = .ok e' ∧ R d' e'
 | 0,d,d',e,k,_,r => by cases k; exact ⟨e,rfl,r⟩
 | n + 1,d,d',e,k,hg,r => by
  obtain ⟨x,e1,e2⟩ := Res.then_ok k
  have gx : G x := h.back.iter hb n e2 hg
  obtain ⟨e',a1,a2⟩ := hf _ _ _ e1 gx r
  obtain ⟨e'',b1,b2⟩ := h.iter hb hf n e2 hg a2
  exact ⟨e'',by rw [M.iter,a1]; exact b1,b2⟩
def NmB (G : σ → Prop) (R : σ → τ → Prop) (nm : By → σ → Res σ) (mn : By → τ → Res τ) : Prop := (∀ s d d',nm s d = .ok d' → G d' → G d) ∧ ∀ s d d' e,nm s d = .ok d' → G d' → R d e → ∃ e',mn s e = .ok e' ∧ R d' e'
theorem Beside.ty (h : Beside z y G R) {nm : By → σ → Res σ} {mn : By → τ → Res τ} (hn : NmB G R nm mn) : ∀ (t : Ty),okT t = true → ∀ {d d' : σ} {e : τ},semT z nm t d = .ok d' → G d' → R d e → ∃ e',semT y mn t e = .ok e' ∧ R d' e'
 | .basic s,_,d,d',e,k,g,r => h.leaf _ _ _ _ _ _ _ (by have := basicOp_le s; omega) (by have := basicOp_le s; omega) (fun m hm => by cases hm) k g r
 | .named s a,_,d,d',e,k,g,r => hn.2 s d d' e k g r
 | .bytes a f n,ho,d,d',e,k,g,r => h.leaf _ _ _ _ _ _ _ (by omega) (fun _ => ho) (fun m hm => by cases hm) k g r
 | .void,_,d,d',e,k,g,r => by cases k; exact ⟨e,rfl,r⟩
 | .opt t,ho,d,d',e,k,g,r => by
  rw [semT] at k
  obtain ⟨x,e1,e2⟩ := Res.then_ok k
  have gx : G x.2 := by
   split at e2
   ·exact h.back.ty hn.1 t (flat_ok ho) e2 g
   ·cases e2; exact g
  obtain ⟨e',a1,a2⟩ := h.option d x e e1 gx r
  rw [semT,a1]
  simp only [Res.ok_then]
  split at e2
  ·rename_i hx
   rw [if_pos hx]
   exact h.ty hn t (flat_ok ho) e2 g a2
  ·rename_i hx
   rw [if_neg hx]
   cases e2
   exact ⟨e',rfl,a2⟩
 | .array t f n,ho,d,d',e,k,g,r => by
  rw [okT,Bool.and_eq_true] at ho
  rw [semT] at k
  obtain ⟨x,e1,e2⟩ := Res.then_ok k
  have hb : ∀ d d',semT z nm t d = .ok d' → G d' → G d := fun d d' k g => h.back.ty hn.1 t (flat_ok ho.1) k g
  have gx : G x.2 := h.back.iter hb _ e2 g
  obtain ⟨e',a1,a2⟩ := h.list _ _ d x e (okN_ge ho.2).1 (okN_ge ho.2).2.1 e1 gx r
  rw [semT,a1]
  simp only [Res.ok_then]
  exact h.iter hb (fun d d' e k g r => h.ty hn t (flat_ok ho.1) k g r) _ e2 g a2
theorem Beside.parts (h : Beside z y G R) {nm : By → σ → Res σ} {mn : By → τ → Res τ} (hn : NmB G R nm mn) : ∀ (ds : List Decl),(ds.all fun d => okT d.ty && d.ty != .void) = true → ∀ {d d' : σ} {e : τ},semL z nm ds d = .ok d' → G d' → R d e → ∃ e',semL y mn ds e = .ok e' ∧ R d' e'
 | [],_,d,d',e,k,g,r => by cases k; exact ⟨e,rfl,r⟩
 | a :: l,ho,d,d',e,k,g,r => by
  rw [List.all_cons,Bool.and_eq_true,Bool.and_eq_true] at ho
  rw [semL] at k
  obtain ⟨x,e1,e2⟩ := Res.then_ok k
  obtain ⟨e',a1,a2⟩ := h.ty hn a.ty ho.1.1 e1 (h.back.parts hn.1 l ho.2 e2 g) r
  rw [semL,a1]
  exact h.parts hn l ho.2 e2 g a2
theorem ofOp_le (of : Ty) : ofOp of ≤ 4 := by
 cases of with
 | basic s => have := basicOp_le s; simp only [ofOp]; omega
 | _ => exact Nat.le_refl _
theorem Beside.kind (h : Beside z y G R) {nm : By → σ → Res σ} {mn : By → τ → Res τ} (hn : NmB G R nm mn) {defs : List (By × Def)} (hd : okDefs defs) (k : Dk) (ho : okK k = true) {d d' : σ} {e : τ} (hk : semK z nm defs k d = .ok d') (g : G d') (r : R d e) : ∃ e',semK y mn defs k e = .ok e' ∧ R d' e' := by
 cases k with
 | const n => cases hk
 | prog n vs => cases hk
 | alias t => rw [okK,Bool.and_eq_true] at ho; exact h.ty hn t ho.1 hk g r
 | enum ns is =>
  rw [okK] at ho
  exact h.leaf _ _ _ _ _ _ _ (by omega) (by omega) (fun m hm => List.all_eq_true.mp ho m hm) hk g r
 | struct ds =>
  rw [okK,Bool.and_eq_true] at ho
  rw [semK] at hk
  obtain ⟨x,e1,e2⟩ := Res.then_ok hk
  have hds : ds.length ≤ 12 := by
   have := ho.1
   rw [Bool.and_eq_true,decide_eq_true_eq] at this
   exact this.2
  obtain ⟨e',a1,a2⟩ := h.list _ _ d x e (by omega) (by omega) e1 (h.back.parts hn.1 ds ho.2 e2 g) r
  rw [semK,a1]
  exact h.parts hn ds ho.2 e2 g a2
 | union of n arms els =>
  rw [semK] at hk
  obtain ⟨x,e1,e2⟩ := Res.then_ok hk
  cases ha : armOf arms els x.1 with
  | none => rw [ha] at e2; cases e2
  | some t =>
   rw [ha] at e2
   have h2 : ofOp of ≠ 2 := by
    have ho := ho
    rw [okK,Bool.and_eq_true,Bool.and_eq_true,bne_iff_ne] at ho
    exact ho.1.1
   obtain ⟨e',a1,a2⟩ := h.union _ _ _ d x e (ofOp_le of) h2 (ofSet_ok hd of) e1 (h.back.ty hn.1 t (armOf_ok ho ha) e2 g) r
   rw [semK,a1]
   simp only [Res.ok_then,ha]
   exact h.ty hn t (armOf_ok ho ha) e2 g a2
theorem Beside.sem (h : Beside z y G R) {defs : List (By × Def)} (ho : okDefs defs) : ∀ (r r' : Nat),r ≤ r' → NmB G R (sem z defs r) (sem y defs r')
 | 0,_,_ => ⟨fun s d d' e => by (cases e),fun s d d' e k => by (cases k)⟩
 | r + 1,0,hr => by omega
 | r + 1,r' + 1,hr => by
  refine ⟨fun s d d' k g => h.back.sem ho (r + 1) s d d' k g,fun s d d' e k g hr0 => ?_⟩
  rw [M.sem] at k ⊢
  cases hl : defs.lookup s with
  | none => rw [hl] at k; cases k
  | some x =>
   rw [hl] at k
   exact h.kind (h.sem ho r r' (by omega)) ho x.k (ho s x hl) k g hr0
end
end Go.M
namespace Go.M
theorem word_ok {d : DS} {x : Nat × DS} (h : d.word = .ok x) : d.pos + 4 ≤ d.b.length ∧ x = (w32 (d.b.drop d.pos),{ d with pos := d.pos + 4 }) := by
 unfold DS.word at h
 split at h
 ·cases h
 ·cases h; exact ⟨by omega,rfl⟩
theorem word_of {d : DS} (h : d.pos + 4 ≤ d.b.length) : d.word = .ok (w32 (d.b.drop d.pos),{ d with pos := d.pos + 4 }) := by
 unfold DS.word
 rw [if_neg (by omega)]
theorem four_of {l : By} (h : 4 ≤ l.length) : ∃ a b c d r,l = a :: b :: c :: d :: r := by
 match l,h with
 | a :: b :: c :: d :: r,_ => exact ⟨a,b,c,d,r,rfl⟩
theorem w32_lt (l : By) : w32 l < 4294967296 := by
 unfold w32
 split
 ·rename_i a b c d r
  have := a.toNat_lt; have := b.toNat_lt; have := c.toNat_lt; have := d.toNat_lt
  omega
 ·omega
theorem octet_toNat (n : Nat) (h : n < 256) : (octet n).toNat = n := by
 unfold octet
 rw [UInt8.toNat_ofNat']
 omega
theorem octet_self (a : UInt8) : octet a.toNat = a := by
 unfold octet
 exact UInt8.ofNat_toNat
theorem wordB_w32 {l : By} (h : 4 ≤ l.length) : wordB (w32 l) = l.take 4 := by
 obtain ⟨a,b,c,d,r,rfl⟩ := four_of h
 have ha := a.toNat_lt; have hb := b.toNat_lt; have hc := c.toNat_lt; have hd := d.toNat_lt
 simp only [w32,wordB,List.take_succ_cons,List.take_zero]
 have e1 : (a.toNat * 16777216 + b.toNat * 65536 + c.toNat * 256 + d.toNat) / 16777216 % 256 = a.toNat := by omega
 have e2 : (a.toNat * 16777216 + b.toNat * 65536 + c.toNat * 256 + d.toNat) / 65536 % 256 = b.toNat := by omega
 have e3 : (a.toNat * 16777216 + b.toNat * 65536 + c.toNat * 256 + d.toNat) / 256 % 256 = c.toNat := by omega
 have e4 : (a.toNat * 16777216 + b.toNat * 65536 + c.toNat * 256 + d.toNat) % 256 = d.toNat := by omega
 rw [e1,e2,e3,e4,octet_self,octet_self,octet_self,octet_self]
theorem w32_wordB (n : Nat) (r : By) (h : n < 4294967296) : w32 (wordB n ++ r) = n := by
 simp only [wordB,List.cons_append,w32]
 rw [octet_toNat _ (by omega),octet_toNat _ (by omega),octet_toNat _ (by omega),octet_toNat _ (by omega)]
 omega
theorem wordB_len (n : Nat) : (wordB n).length = 4 := rfl
theorem u32_lt (n : Int) : u32 n < 4294967296 := by unfold u32; omega
theorem u32_sgn32 (w : Nat) (h : w < 4294967296) : u32 (sgn32 w) = w := by
 unfold u32 sgn32
 split <;> omega
theorem u32_numOf (op : Nat) (w : Nat) (h : w < 4294967296) : u32 (numOf op w) = w := by
 unfold numOf
 split
 ·exact u32_sgn32 w h
 ·unfold u32; omega
theorem putAll_of {lim : Lim} {k : Nat} : ∀ {parts : List By} {out : By},((out ++ parts.flatten).length : Int) ≤ lim.size → putAll lim k out parts = .ok (out ++ parts.flatten)
 | [],out,h => by simp [putAll]
 | s :: r,out,h => by
  simp only [List.flatten_cons,List.length_append,Int.natCast_add] at h
  rw [putAll,if_neg (by omega),putAll_of (by simp only [List.length_append,Int.natCast_add]; omega)]
  simp
theorem skipPad_ok {b : By} : ∀ {k p q : Nat},skipPad b k p = .ok q → q = p + k ∧ ∀ i,p ≤ i → i < p + k → b[i]?.getD 0 = 0
 | 0,p,q,h => by cases h; exact ⟨rfl,fun i h1 h2 => by omega⟩
 | k + 1,p,q,h => by
  rw [skipPad] at h
  split at h
  ·cases h
  ·rename_i hz
   obtain ⟨h1,h2⟩ := skipPad_ok h
   refine ⟨by omega,fun i a b => ?_⟩
   by_cases e : i = p
   ·subst e; simpa using hz
   ·exact h2 i (by omega) (by omega)
theorem skipPad_of {b : By} : ∀ {k p : Nat},(∀ i,p ≤ i → i < p + k → b[i]?.getD 0 = 0) → skipPad b k p = .ok (p + k)
 | 0,p,h => rfl
 | k + 1,p,h => by
  rw [skipPad,h p (Nat.le_refl _) (by omega)]
  rw [if_neg (by simp),skipPad_of (fun i a b => h i (by omega) (by omega))]
  congr 1; omega
theorem text_ok {d : DS} {n : Nat} {x : By × DS} (h : d.text n = .ok x) : d.pos + n + padOf n ≤ d.b.length ∧ x = ((d.b.drop d.pos).take n,{ d with pos := d.pos + n + padOf n }) ∧ ∀ i,d.pos + n ≤ i → i < d.pos + n + padOf n → d.b[i]?.getD 0 = 0 := by
 unfold DS.text at h
 split at h
 ·cases h
 ·obtain ⟨q,h1,h2⟩ := Res.then_ok h
  obtain ⟨h3,h4⟩ := skipPad_ok h1
  cases h2
  exact ⟨by omega,by rw [h3],h4⟩
theorem text_of {d : DS} {n : Nat} (h : d.pos + n + padOf n ≤ d.b.length) (hz : ∀ i,d.pos + n ≤ i → i < d.pos + n + padOf n → d.b[i]?.getD 0 = 0) : d.text n = .ok ((d.b.drop d.pos).take n,{ d with pos := d.pos + n + padOf n }) := by
 unfold DS.text
 rw [if_neg (by omega),skipPad_of hz]
 rfl
theorem zeros_of {b : By} {p k : Nat} (h : p + k ≤ b.length) (hz : ∀ i,p ≤ i → i < p + k → b[i]?.getD 0 = 0) : (b.drop p).take k = zeros k := by
 apply List.ext_getElem?
 intro i
 rw [zeros,List.getElem?_replicate]
 by_cases hi : i < k
 ·rw [if_pos hi,List.getElem?_take_of_lt hi,List.getElem?_drop]
  have := hz (p + i) (by omega) (by omega)
  rw [List.getElem?_eq_getElem (by omega)] at this ⊢
  simpa using this
 ·rw [if_neg hi,List.getElem?_eq_none_iff,List.length_take]
  omega
theorem pad_dvd (n : Nat) : 4 ∣ n + padOf n := by unfold padOf; omega
theorem fuel_ok {d : DS} {lim : Lim} {u : Unit} (h : d.fuel lim = .ok u) : (d.l.length : Int) < lim.fuel := by
 unfold DS.fuel at h
 split at h
 ·cases h
 ·omega
theorem fuel_of {d : DS} {lim : Lim} (h : (d.l.length : Int) < lim.fuel) : d.fuel lim = .ok () := by
 unfold DS.fuel
 rw [if_neg (by omega)]
theorem count_ok {d : DS} {n : Int} {x : Nat × DS} (h : d.count n = .ok x) : d.word = .ok x ∧ (x.1 : Int) ≤ n := by
 unfold DS.count at h
 obtain ⟨y,h1,h2⟩ := Res.then_ok h
 split at h2
 ·cases h2
 ·cases h2; exact ⟨h1,by omega⟩
theorem rleaf_ok {lim : Lim} {op : Nat} {f : Bool} {n : Int} {set : List Int} {d d' : DS} (h : d.zleaf lim op f n set = .ok d') (ho : op ≤ 5) :
  (d.l.length : Int) < lim.fuel ∧ d'.b = d.b ∧ ((op = 5 ∧ f = true ∧ ∃ k : Nat,k = n.toNat ∧ n ≤ 2147483647 ∧ d.pos + k + padOf k ≤ d.b.length ∧ (∀ i,d.pos + k ≤ i → i < d.pos + k + padOf k → d.b[i]?.getD 0 = 0) ∧ d' = ⟨d.b,d.pos + k + padOf k,d.l ++ [⟨2,0,(d.b.drop d.pos).take k,d.pos,0⟩]⟩) ∨
   (op = 5 ∧ f = false ∧ ∃ k : Nat,k = w32 (d.b.drop d.pos) ∧ (k : Int) ≤ n ∧ (k : Int) ≤ 2147483647 ∧ d.pos + 4 + k + padOf k ≤ d.b.length ∧ (∀ i,d.pos + 4 + k ≤ i → i < d.pos + 4 + k + padOf k → d.b[i]?.getD 0 = 0) ∧ d' = ⟨d.b,d.pos + 4 + k + padOf k,d.l ++ [⟨2,0,(d.b.drop (d.pos + 4)).take k,(d.pos + 4 : Nat),0⟩]⟩) ∨
   (op = 2 ∧ ∃ a b : Nat,a = w32 (d.b.drop d.pos) ∧ b = w32 (d.b.drop (d.pos + 4)) ∧ d.pos + 8 ≤ d.b.length ∧ d' = ⟨d.b,d.pos + 8,d.l ++ [⟨1,if (a * 4294967296 + b : Int) < 9223372036854775808 then (a * 4294967296 + b : Int) else (a * 4294967296 + b : Int) - 18446744073709551616,[],0,0⟩]⟩) ∨
   (op ≠ 5 ∧ op ≠ 2 ∧ ∃ w : Nat,w = w32 (d.b.drop d.pos) ∧ d.pos + 4 ≤ d.b.length ∧ fitsZ op set (numOf op w) = true ∧ d' = ⟨d.b,d.pos + 4,d.l ++ [⟨1,numOf op w,[],0,0⟩]⟩)) := by
 unfold DS.zleaf at h
 obtain ⟨_,h1,h⟩ := Res.then_ok h
 have hf := fuel_ok h1
 split at h
 ·rename_i h5
  have h5 : op = 5 := by simpa using h5
  obtain ⟨x,h2,h⟩ := Res.then_ok h
  split at h
  ·cases h
  ·rename_i hle
   obtain ⟨y,h3,h⟩ := Res.then_ok h
   obtain ⟨t1,t2,t3⟩ := text_ok h3
   cases h
   cases f with
   | true =>
    simp only [if_true,Res.ok.injEq] at h2
    subst h2
    refine ⟨hf,by rw [t2]; rfl,Or.inl ⟨h5,rfl,_,rfl,by omega,t1,t3,by rw [t2]; rfl⟩⟩
   | false =>
    simp only [Bool.false_eq_true,if_false] at h2
    obtain ⟨u,h4,h2⟩ := Res.then_ok h2
    cases h2
    obtain ⟨h6,h7⟩ := count_ok h4
    obtain ⟨h8,h9⟩ := word_ok h6
    subst h9
    simp only [Int.toNat_natCast] at t1 t2 t3 hle h7
    refine ⟨hf,by rw [t2]; rfl,Or.inr (Or.inl ⟨h5,rfl,_,rfl,h7,by omega,t1,t3,by rw [t2]; rfl⟩)⟩
 ·rename_i h5
  have h5 : op ≠ 5 := by simpa using h5
  split at h
  ·rename_i h2
   have h2 : op = 2 := by simpa using h2
   split at h
   ·cases h
   ·obtain ⟨x,h3,h⟩ := Res.then_ok h
    obtain ⟨y,h4,h⟩ := Res.then_ok h
    obtain ⟨w1,w2⟩ := word_ok h3
    subst w2
    obtain ⟨w3,w4⟩ := word_ok h4
    subst w4
    cases h
    refine ⟨hf,rfl,Or.inr (Or.inr (Or.inl ⟨h2,_,_,rfl,rfl,by omega,rfl⟩))⟩
  ·rename_i h2
   have h2 : op ≠ 2 := by simpa using h2
   obtain ⟨x,h3,h⟩ := Res.then_ok h
   obtain ⟨w1,w2⟩ := word_ok h3
   subst w2
   split at h
   ·rename_i hz
    cases h
    refine ⟨hf,rfl,Or.inr (Or.inr (Or.inr ⟨h5,h2,_,rfl,w1,hz,rfl⟩))⟩
   ·cases h
theorem rlist_ok {lim : Lim} {v : Bool} {n : Int} {d : DS} {x : Int × DS} (h : d.zlist lim v n = .ok x) :
  (d.l.length : Int) < lim.fuel ∧ ((v = false ∧ x = (n,⟨d.b,d.pos,d.l ++ [⟨3,0,[],0,n⟩]⟩)) ∨
   (v = true ∧ ∃ w : Nat,w = w32 (d.b.drop d.pos) ∧ d.pos + 4 ≤ d.b.length ∧ (w : Int) ≤ n ∧ x = ((w : Int),⟨d.b,d.pos + 4,d.l ++ [⟨3,0,[],0,w⟩]⟩))) := by
 unfold DS.zlist at h
 obtain ⟨_,h1,h⟩ := Res.then_ok h
 have hf := fuel_ok h1
 obtain ⟨y,h2,h⟩ := Res.then_ok h
 cases h
 cases v with
 | true =>
  simp only [if_true] at h2
  obtain ⟨u,h4,h2⟩ := Res.then_ok h2
  cases h2
  obtain ⟨h6,h7⟩ := count_ok h4
  obtain ⟨h8,h9⟩ := word_ok h6
  subst h9
  exact ⟨hf,Or.inr ⟨rfl,_,rfl,h8,h7,rfl⟩⟩
 | false =>
  simp only [Bool.false_eq_true,if_false,Res.ok.injEq] at h2
  subst h2
  exact ⟨hf,Or.inl ⟨rfl,rfl⟩⟩
theorem ropt_ok {lim : Lim} {d : DS} {x : Bool × DS} (h : d.option lim = .ok x) :
  (d.l.length : Int) < lim.fuel ∧ ∃ w : Nat,w = w32 (d.b.drop d.pos) ∧ d.pos + 4 ≤ d.b.length ∧ w ≤ 1 ∧ x = (w == 1,⟨d.b,d.pos + 4,d.l ++ [⟨4,w,[],0,w⟩]⟩) := by
 unfold DS.option at h
 obtain ⟨_,h1,h⟩ := Res.then_ok h
 have hf := fuel_ok h1
 obtain ⟨y,h2,h⟩ := Res.then_ok h
 obtain ⟨h8,h9⟩ := word_ok h2
 subst h9
 split at h
 ·cases h
 ·rename_i hle
  cases h
  exact ⟨hf,_,rfl,h8,by simpa using hle,rfl⟩
theorem runion_ok {lim : Lim} {of_ : Nat} {set : List Int} {which : Int → Option Bool} {d : DS} {x : Int × DS} (h : d.zunion lim of_ set which = .ok x) :
  (d.l.length : Int) < lim.fuel ∧ ∃ w : Nat,∃ v,w = w32 (d.b.drop d.pos) ∧ d.pos + 4 ≤ d.b.length ∧ fitsZ of_ set (numOf of_ w) = true ∧ which (numOf of_ w) = some v ∧ x = (numOf of_ w,⟨d.b,d.pos + 4,d.l ++ [⟨4,numOf of_ w,[],0,if v then 0 else 1⟩]⟩) := by
 unfold DS.zunion at h
 obtain ⟨_,h1,h⟩ := Res.then_ok h
 have hf := fuel_ok h1
 obtain ⟨y,h2,h⟩ := Res.then_ok h
 obtain ⟨h8,h9⟩ := word_ok h2
 subst h9
 split at h
 ·rename_i hz
  split at h
  ·rename_i v hv
   cases h
   exact ⟨hf,_,v,rfl,h8,hz,hv,rfl⟩
  ·cases h
 ·cases h
end Go.M
namespace Go.M
def strip (n : Nd) : Nd := { n with at_ := 0 }
def alike (a b : List Nd) : Prop := a.map strip = b.map strip
theorem alike.at {a b : List Nd} (h : alike a b) {i : Nat} {x : Nd} (hx : a[i]? = some x) : ∃ y,b[i]? = some y ∧ strip y = strip x := by
 have : (a.map strip)[i]? = (b.map strip)[i]? := by rw [h]
 rw [List.getElem?_map,List.getElem?_map,hx] at this
 cases hb : b[i]? with
 | none => rw [hb] at this; cases this
 | some y => rw [hb] at this; exact ⟨y,rfl,(Option.some.inj this).symm⟩
theorem alike.len {a b : List Nd} (h : alike a b) : a.length = b.length := by
 have := congrArg List.length h
 simpa using this
theorem read_grow (lim : Lim) (N : List Nd) : Each (zRead lim) fun d d' => d'.l <+: N → d.l <+: N := by
 have app : ∀ {a : List Nd} {n : Nd},a ++ [n] <+: N → a <+: N := fun h => (List.prefix_append _ _).trans h
 refine ⟨fun d h => h,fun a b c h k x => h (k x),?_,?_,?_,?_⟩
 ·intro op f n set d d' ho _ h hN
  obtain ⟨_,_,h⟩ := rleaf_ok h ho
  rcases h with ⟨_,_,k,_,_,_,_,rfl⟩ | ⟨_,_,k,_,_,_,_,_,rfl⟩ | ⟨_,a,b,_,_,_,rfl⟩ | ⟨_,_,w,_,_,_,rfl⟩ <;> exact app hN
 ·intro v n d x _ h hN
  obtain ⟨_,h⟩ := rlist_ok h
  rcases h with ⟨_,rfl⟩ | ⟨_,w,_,_,_,rfl⟩ <;> exact app hN
 ·intro d x h hN
  obtain ⟨_,w,_,_,_,rfl⟩ := ropt_ok h
  exact app hN
 ·intro of_ set which d x h hN
  obtain ⟨_,w,v,_,_,_,_,rfl⟩ := runion_ok h
  exact app hN
structure FR (B : By) (M : List Nd) (d : DS) (e : ES) : Prop where
 b : d.b = B
 l : e.l = M
 k : e.k = d.l.length
 out : e.out = B.take d.pos
 pos : d.pos ≤ B.length
theorem take_of {lim : Lim} {e : ES} {n : Nd} {kind : Int} (hf : (e.k : Int) < lim.fuel) (hn : e.l[e.k]? = some n) (hk : n.kind = kind) : e.take lim kind = .ok n := by
 unfold ES.take
 rw [if_neg (by omega),hn]
 simp [hk]
theorem put_of {lim : Lim} {e : ES} {parts : List By} (h : ((e.out ++ parts.flatten).length : Int) ≤ lim.size) : e.put lim parts = .ok { e with out := e.out ++ parts.flatten,k := e.k + 1 } := by
 unfold ES.put
 rw [putAll_of h]; rfl
theorem FR.next {B : By} {M : List Nd} {d : DS} {e : ES} (h : FR B M d e) {lim : Lim} {N : List Nd} (ha : alike N M) (hs : (B.length : Int) ≤ lim.size) {n : Nd} {q : Nat} {parts : List By}
  (hp : d.l ++ [n] <+: N) (hq : q ≤ B.length) (hle : d.pos ≤ q) (hparts : parts.flatten = (B.drop d.pos).take (q - d.pos)) :
  (∃ m,e.l[e.k]? = some m ∧ strip m = strip n) ∧ (e.put lim parts = .ok { e with out := B.take q,k := e.k + 1 }) ∧ FR B M ⟨B,q,d.l ++ [n]⟩ { e with out := B.take q,k := e.k + 1 } := by
 have e1 : e.out ++ parts.flatten = B.take q := by
  rw [h.out,hparts,← List.take_add]
  congr 1; omega
 refine ⟨?_,?_,⟨rfl,h.l,by simp [h.k],rfl,hq⟩⟩
 ·rw [h.l]
  refine ha.at ?_
  obtain ⟨t,ht⟩ := hp
  rw [← ht,h.k,List.append_assoc,List.getElem?_append_right (Nat.le_refl _),Nat.sub_self]
  rfl
 ·rw [put_of (by rw [e1,List.length_take]; omega),e1]
theorem strip_eq {m n : Nd} (h : strip m = strip n) : m.kind = n.kind ∧ m.n = n.n ∧ m.s = n.s ∧ m.len = n.len := by
 simp only [strip,Nd.mk.injEq] at h
 exact ⟨h.1,h.2.1,h.2.2.1,h.2.2.2.2⟩
theorem drop_len4 {B : By} {p : Nat} (h : p + 4 ≤ B.length) : 4 ≤ (B.drop p).length := by rw [List.length_drop]; omega
theorem hyp_mod (x : Int) (h0 : 0 ≤ x) (h1 : x < 18446744073709551616) : (if x < 9223372036854775808 then x else x - 18446744073709551616) % 18446744073709551616 = x := by
 split
 ·exact Int.emod_eq_of_lt h0 h1
 ·rw [Int.sub_emod,Int.emod_self,Int.sub_zero,Int.emod_emod_of_dvd _ (Int.dvd_refl _)]
  exact Int.emod_eq_of_lt h0 h1
theorem hyp_lt (a b : Nat) (ha : a < 4294967296) (hb : b < 4294967296) : 0 ≤ (a * 4294967296 + b : Int) ∧ (a * 4294967296 + b : Int) < 18446744073709551616 := by
 constructor <;> omega
theorem hyp_hi (a b : Nat) (ha : a < 4294967296) (hb : b < 4294967296) (n : Int) (h : n % 18446744073709551616 = (a * 4294967296 + b : Int)) : (n % 18446744073709551616).toNat / 4294967296 = a := by
 rw [h]
 have : (a * 4294967296 + b : Int) = ((a * 4294967296 + b : Nat) : Int) := by simp
 rw [this,Int.toNat_natCast]
 omega
theorem hyp_lo (a b : Nat) (ha : a < 4294967296) (hb : b < 4294967296) (n : Int) (h : n % 18446744073709551616 = (a * 4294967296 + b : Int)) : u32 n = b := by
 unfold u32
 have e : n % 4294967296 = (n % 18446744073709551616) % 4294967296 := (Int.emod_emod_of_dvd n ⟨4294967296,rfl⟩).symm
 rw [e,h,Int.add_comm,Int.add_mul_emod_self_right]
 omega
theorem forth_beside {lim wl : Lim} {B : By} {N M : List Nd} (ha : alike N M) (hs : (B.length : Int) ≤ wl.size) (hfl : lim.fuel ≤ wl.fuel) : Beside (zRead lim) (zWrite wl) (fun d => d.l <+: N) (FR B M) := by
 have one : ∀ {p : Nat},p + 4 ≤ B.length → [wordB (w32 (B.drop p))].flatten = (B.drop p).take (p + 4 - p) := fun {p} h => by
  rw [List.flatten_singleton,wordB_w32 (drop_len4 h),Nat.add_sub_cancel_left]
 refine ⟨read_grow lim N,?_,?_,?_,?_⟩
 ·intro op f n set d d' e ho h5 hset h hN hr
  obtain ⟨hf,_,h⟩ := rleaf_ok h ho
  have hek : (e.k : Int) < wl.fuel := by rw [hr.k]; omega
  have hb := hr.b
  rcases h with ⟨rfl,rfl,k,hk,hn,hl,hz,rfl⟩ | ⟨rfl,rfl,k,hk,hkn,hk2,hl,hz,rfl⟩ | ⟨rfl,a,b,hae,hbe,hl,rfl⟩ | ⟨h5',h2,w,hw,hl,hfit,rfl⟩
  ·rw [hb] at hl hz hN ⊢
   have hge := okN_ge (h5 rfl)
   have hlen : ((B.drop d.pos).take k).length = k := by rw [List.length_take,List.length_drop]; omega
   have hp : [(B.drop d.pos).take k,zeros (padOf k)].flatten = (B.drop d.pos).take (d.pos + k + padOf k - d.pos) := by
    rw [← zeros_of (p := d.pos + k) hl hz,show d.pos + k + padOf k - d.pos = k + padOf k by omega,List.take_add,List.drop_drop]
    simp
   obtain ⟨⟨m,hm,hst⟩,hput,hfr⟩ := hr.next ha hs hN hl (by omega) hp
   obtain ⟨s1,s2,s3,s4⟩ := strip_eq hst
   refine ⟨_,?_,hfr⟩
   show ES.zleaf wl 5 true n set e = _
   unfold ES.zleaf
   simp only [beq_self_eq_true,if_true]
   rw [take_of hek hm s1]
   simp only [Res.ok_then,s3,hlen]
   rw [show ((k : Int) == n || decide ((k : Int) < n) && !true) = true by simp; omega]
   simp only [ES.must,if_true,Res.ok_then]
   exact hput
  ·rw [hb] at hl hz hN hk ⊢
   have hlen : ((B.drop (d.pos + 4)).take k).length = k := by rw [List.length_take,List.length_drop]; omega
   have hp : [wordB k,(B.drop (d.pos + 4)).take k,zeros (padOf k)].flatten = (B.drop d.pos).take (d.pos + 4 + k + padOf k - d.pos) := by
    rw [← zeros_of (p := d.pos + 4 + k) hl hz,show d.pos + 4 + k + padOf k - d.pos = 4 + (k + padOf k) by omega,List.take_add,List.take_add,List.drop_drop,List.drop_drop]
    rw [show wordB k = (B.drop d.pos).take 4 by rw [hk]; exact wordB_w32 (drop_len4 (by omega))]
    simp [Nat.add_assoc]
   obtain ⟨⟨m,hm,hst⟩,hput,hfr⟩ := hr.next ha hs hN hl (by omega) hp
   obtain ⟨s1,s2,s3,s4⟩ := strip_eq hst
   refine ⟨_,?_,hfr⟩
   show ES.zleaf wl 5 false n set e = _
   unfold ES.zleaf
   simp only [beq_self_eq_true,if_true]
   rw [take_of hek hm s1]
   simp only [Res.ok_then,s3,hlen]
   rw [show ((k : Int) == n || decide ((k : Int) < n) && !false) = true by simp; omega]
   simp only [ES.must,if_true,Res.ok_then,Bool.false_eq_true,if_false]
   exact hput
  ·rw [hb] at hl hae hbe hN ⊢
   have h4 : d.pos + 4 + 4 ≤ B.length := by omega
   have hp : [wordB a,wordB b].flatten = (B.drop d.pos).take (d.pos + 8 - d.pos) := by
    rw [show d.pos + 8 - d.pos = 4 + 4 by omega,List.take_add,List.drop_drop,hae,hbe,wordB_w32 (drop_len4 (by omega)),wordB_w32 (drop_len4 h4)]
    simp
   obtain ⟨⟨m,hm,hst⟩,hput,hfr⟩ := hr.next ha hs hN hl (by omega) hp
   obtain ⟨s1,s2,s3,s4⟩ := strip_eq hst
   refine ⟨_,?_,hfr⟩
   show ES.zleaf wl 2 f n set e = _
   have hal : a < 4294967296 := by rw [hae]; exact w32_lt _
   have hbl : b < 4294967296 := by rw [hbe]; exact w32_lt _
   have hx := hyp_lt a b hal hbl
   have hmod : m.n % 18446744073709551616 = (a * 4294967296 + b : Int) := by
    dsimp only at s2
    rw [s2,hyp_mod _ hx.1 hx.2]
   have v1 := hyp_hi a b hal hbl m.n hmod
   have v2 := hyp_lo a b hal hbl m.n hmod
   unfold ES.zleaf
   simp only [show (2 == 5) = false from rfl,Bool.false_eq_true,if_false]
   rw [take_of hek hm s1]
   simp only [Res.ok_then]
   rw [show fitsZ 2 set m.n = true from rfl]
   simp only [ES.must,if_true,Res.ok_then,beq_self_eq_true,v1,v2]
   exact hput
  ·rw [hb] at hl hw hN ⊢
   have hp : [wordB w].flatten = (B.drop d.pos).take (d.pos + 4 - d.pos) := by rw [hw]; exact one hl
   obtain ⟨⟨m,hm,hst⟩,hput,hfr⟩ := hr.next ha hs hN hl (by omega) hp
   obtain ⟨s1,s2,s3,s4⟩ := strip_eq hst
   refine ⟨_,?_,hfr⟩
   show ES.zleaf wl op f n set e = _
   have hwl : w < 4294967296 := by rw [hw]; exact w32_lt _
   unfold ES.zleaf
   simp only [show (op == 5) = false by simpa using h5',show (op == 2) = false by simpa using h2,Bool.false_eq_true,if_false]
   rw [take_of hek hm s1]
   simp only [Res.ok_then,s2,hfit,ES.must,if_true,u32_numOf op w hwl]
   exact hput
 ·intro v n d x e h0 h1 h hN hr
  obtain ⟨hf,h⟩ := rlist_ok h
  have hek : (e.k : Int) < wl.fuel := by rw [hr.k]; omega
  have hb := hr.b
  rcases h with ⟨rfl,rfl⟩ | ⟨rfl,w,hw,hl,hwn,rfl⟩
  ·have hN := hN
   rw [hb] at hN ⊢
   obtain ⟨⟨m,hm,hst⟩,hput,hfr⟩ := hr.next (q := d.pos) (parts := []) ha hs hN hr.pos (Nat.le_refl _) (by simp)
   obtain ⟨s1,s2,s3,s4⟩ := strip_eq hst
   refine ⟨_,?_,hfr⟩
   show ES.zlist wl false n e = _
   unfold ES.zlist
   rw [take_of hek hm s1]
   simp only [Res.ok_then,s4,beq_self_eq_true,ES.must,if_true,Bool.false_eq_true,if_false]
   rw [hput]; rfl
  ·rw [hb] at hl hw hN ⊢
   have hp : [wordB w].flatten = (B.drop d.pos).take (d.pos + 4 - d.pos) := by rw [hw]; exact one hl
   obtain ⟨⟨m,hm,hst⟩,hput,hfr⟩ := hr.next ha hs hN hl (by omega) hp
   obtain ⟨s1,s2,s3,s4⟩ := strip_eq hst
   refine ⟨_,?_,hfr⟩
   show ES.zlist wl true n e = _
   unfold ES.zlist
   rw [take_of hek hm s1]
   have hu : u32 (w : Int) = w := by unfold u32; omega
   simp only [Res.ok_then,s4,ES.must,if_true,hu]
   rw [show (decide (0 ≤ (w : Int)) && decide ((w : Int) ≤ n)) = true by simp; omega]
   simp only [if_true,Res.ok_then]
   rw [hput]; rfl
 ·intro d x e h hN hr
  obtain ⟨hf,w,hw,hl,hw1,rfl⟩ := ropt_ok h
  have hek : (e.k : Int) < wl.fuel := by rw [hr.k]; omega
  have hb := hr.b
  rw [hb] at hl hw hN ⊢
  have hp : [wordB w].flatten = (B.drop d.pos).take (d.pos + 4 - d.pos) := by rw [hw]; exact one hl
  obtain ⟨⟨m,hm,hst⟩,hput,hfr⟩ := hr.next ha hs hN hl (by omega) hp
  obtain ⟨s1,s2,s3,s4⟩ := strip_eq hst
  refine ⟨_,?_,hfr⟩
  show ES.option wl e = _
  unfold ES.option
  rw [take_of hek hm s1]
  have hu : u32 (w : Int) = w := by unfold u32; omega
  simp only [Res.ok_then,s2,s4,ES.must,if_true,hu]
  rw [show (decide (0 ≤ (w : Int)) && decide ((w : Int) ≤ 1) && (w : Int) == (w : Int)) = true by simp; omega]
  simp only [if_true,Res.ok_then]
  rw [hput]
  simp only [Res.ok_then]
  rw [show ((w : Int) == 1) = (w == 1) by cases hd : (w == 1) <;> simp at hd ⊢ <;> omega]
 ·intro of_ set which d x e ho ho2 hset h hN hr
  obtain ⟨hf,w,v,hw,hl,hfit,hwh,rfl⟩ := runion_ok h
  have hek : (e.k : Int) < wl.fuel := by rw [hr.k]; omega
  have hb := hr.b
  rw [hb] at hl hw hN ⊢
  have hp : [wordB w].flatten = (B.drop d.pos).take (d.pos + 4 - d.pos) := by rw [hw]; exact one hl
  obtain ⟨⟨m,hm,hst⟩,hput,hfr⟩ := hr.next ha hs hN hl (by omega) hp
  obtain ⟨s1,s2,s3,s4⟩ := strip_eq hst
  refine ⟨_,?_,hfr⟩
  show ES.zunion wl of_ set which e = _
  have hwl : w < 4294967296 := by rw [hw]; exact w32_lt _
  unfold ES.zunion
  rw [take_of hek hm s1]
  simp only [Res.ok_then,s2,s4,hfit,hwh,ES.must,if_true,u32_numOf of_ w hwl,beq_self_eq_true]
  rw [hput]; rfl
end Go.M
namespace Go.M
def said (n : Nd) : Nd :=
 if n.kind = 1 then ⟨1,n.n,[],0,0⟩ else if n.kind = 2 then ⟨2,0,n.s,0,0⟩ else if n.kind = 3 then ⟨3,0,[],0,n.len⟩ else if n.kind = 4 then ⟨4,n.n,[],0,n.len⟩ else ⟨n.kind,0,[],0,0⟩
structure BR (B : By) (M : List Nd) (e : ES) (d : DS) : Prop where
 b : d.b = B
 l : e.l = M
 pos : d.pos = e.out.length
 k : d.l.length = e.k
 al : d.l.map strip = (M.take e.k).map said
theorem BR.fuel {B : By} {M : List Nd} {e : ES} {d : DS} (h : BR B M e d) {lim rl : Lim} (hf : (e.k : Int) < lim.fuel) (hl : lim.fuel ≤ rl.fuel) : d.fuel rl = .ok () := fuel_of (by rw [h.k]; omega)
theorem BR.drop {B : By} {M : List Nd} {e : ES} {d : DS} (h : BR B M e d) {x : By} (hp : e.out ++ x <+: B) : ∃ r,B.drop d.pos = x ++ r ∧ d.pos + x.length ≤ B.length := by
 obtain ⟨t,rfl⟩ := hp
 refine ⟨t,?_,?_⟩
 ·rw [h.pos,List.append_assoc,List.drop_left]
 ·rw [h.pos]; simp
theorem BR.next {B : By} {M : List Nd} {e : ES} {d : DS} (h : BR B M e d) {n m : Nd} (hn : e.l[e.k]? = some n) (hm : strip m = said n) (x : By) {q : Nat} (hq : q = d.pos + x.length) : BR B M { e with out := e.out ++ x,k := e.k + 1 } ⟨B,q,d.l ++ [m]⟩ := by
 refine ⟨rfl,h.l,by rw [hq,h.pos]; simp,by simp [h.k],?_⟩
 rw [h.l] at hn
 show (d.l ++ [m]).map strip = (M.take (e.k + 1)).map said
 rw [List.take_add_one,hn,List.map_append,List.map_append,h.al]
 simp [hm]
theorem BR.word {B : By} {M : List Nd} {e : ES} {d : DS} (h : BR B M e d) {w : Nat} (hw : w < 4294967296) {r : By} (hd : B.drop d.pos = wordB w ++ r) : d.word = .ok (w,⟨B,d.pos + 4,d.l⟩) := by
 have hl : d.pos + 4 ≤ B.length := by
  have := congrArg List.length hd
  rw [List.length_drop,List.length_append,wordB_len] at this
  omega
 rw [word_of (by rw [h.b]; exact hl),h.b,hd,w32_wordB w r hw]
end Go.M
namespace Go.M
theorem w32_app {x m : By} (h : 4 ≤ x.length) : w32 (x ++ m) = w32 x := by
 obtain ⟨a,b,c,d,r,rfl⟩ := four_of h
 rfl
structure XR (more : By) (d e : DS) : Prop where
 b : e.b = d.b ++ more
 pos : e.pos = d.pos
 l : e.l = d.l
theorem XR.mk' {more : By} {d : DS} {e : DS} (h : XR more d e) {b : By} {q : Nat} {l : List Nd} (hb : b = d.b) : XR more ⟨b,q,l⟩ ⟨e.b,q,l⟩ := ⟨by rw [h.b,hb],rfl,rfl⟩
theorem XR.word {more : By} {d e : DS} (h : XR more d e) (hl : d.pos + 4 ≤ d.b.length) : e.word = .ok (w32 (d.b.drop d.pos),⟨e.b,d.pos + 4,d.l⟩) := by
 rw [word_of (by rw [h.b,h.pos,List.length_append]; omega),h.b,h.pos,List.drop_append_of_le_length (by omega),w32_app (by rw [List.length_drop]; omega),h.l]
theorem ext_beside {lim wl : Lim} (hfl : lim.fuel ≤ wl.fuel) (more : By) : Beside (zRead lim) (zRead wl) (fun _ => True) (XR more) := by
 have hfu : ∀ {d e : DS},XR more d e → (d.l.length : Int) < lim.fuel → e.fuel wl = .ok () := fun h hf => fuel_of (by rw [h.l]; omega)
 refine ⟨⟨fun _ h => h,fun _ _ _ h k x => h (k x),fun _ _ _ _ _ _ _ _ _ _ => trivial,fun _ _ _ _ _ _ _ => trivial,fun _ _ _ _ => trivial,fun _ _ _ _ _ _ _ => trivial⟩,?_,?_,?_,?_⟩
 ·intro op f n set d d' e ho h5 hset h _ hr
  obtain ⟨hf,_,h⟩ := rleaf_ok h ho
  have hfu := hfu hr hf
  have hb := hr.b
  have hgl : ∀ i,i < d.b.length → e.b[i]? = d.b[i]? := fun i hi => by rw [hb,List.getElem?_append_left hi]
  have hge : d.b.length ≤ e.b.length := by rw [hb,List.length_append]; omega
  have hdt : ∀ p k,p + k ≤ d.b.length → (e.b.drop p).take k = (d.b.drop p).take k := fun p k hpk => by
   rw [hb,List.drop_append_of_le_length (by omega),List.take_append_of_le_length (by rw [List.length_drop]; omega)]
  rcases h with ⟨rfl,rfl,k,hk,hn,hl,hz,rfl⟩ | ⟨rfl,rfl,k,hk,hkn,hk2,hl,hz,rfl⟩ | ⟨rfl,a,b,hae,hbe,hl,rfl⟩ | ⟨h5',h2,w,hw,hl,hfit,rfl⟩
  ·refine ⟨_,?_,hr.mk' rfl⟩
   show DS.zleaf wl 5 true n set e = _
   unfold DS.zleaf
   rw [hfu]
   simp only [Res.ok_then,beq_self_eq_true,if_true]
   rw [if_neg (by omega),← hk,text_of (by rw [hr.pos]; omega) (fun i h1 h2 => by rw [hr.pos] at h1 h2; rw [hgl i (by omega)]; exact hz i h1 h2)]
   simp only [Res.ok_then,DS.add,hr.pos,hr.l,hdt d.pos k (by omega)]
  ·refine ⟨_,?_,hr.mk' rfl⟩
   show DS.zleaf wl 5 false n set e = _
   unfold DS.zleaf DS.count
   rw [hfu]
   simp only [Res.ok_then,beq_self_eq_true,if_true,Bool.false_eq_true,if_false]
   rw [hr.word (by omega),← hk]
   simp only [Res.ok_then]
   rw [if_neg (by omega)]
   simp only [Res.ok_then]
   rw [if_neg (by omega),Int.toNat_natCast,text_of (d := ⟨e.b,d.pos + 4,d.l⟩) (by simp only; omega) (fun i h1 h2 => by simp only at h1 h2 ⊢; rw [hgl i (by omega)]; exact hz i h1 h2)]
   simp only [Res.ok_then,DS.add,hdt (d.pos + 4) k (by omega)]
  ·refine ⟨_,?_,hr.mk' rfl⟩
   show DS.zleaf wl 2 f n set e = _
   unfold DS.zleaf
   rw [hfu]
   simp only [Res.ok_then,show (2 == 5) = false from rfl,Bool.false_eq_true,if_false,beq_self_eq_true,if_true]
   rw [if_neg (by rw [hr.pos]; omega),hr.word (by omega)]
   simp only [Res.ok_then]
   rw [(XR.word (more := more) (d := ⟨d.b,d.pos + 4,d.l⟩) (e := ⟨e.b,d.pos + 4,d.l⟩) ⟨hb,rfl,rfl⟩ (by simp only; omega))]
   simp only [Res.ok_then,DS.add]
   rw [← hae,← hbe]
  ·refine ⟨_,?_,hr.mk' rfl⟩
   show DS.zleaf wl op f n set e = _
   unfold DS.zleaf
   rw [hfu]
   simp only [Res.ok_then,show (op == 5) = false by simpa using h5',show (op == 2) = false by simpa using h2,Bool.false_eq_true,if_false]
   rw [hr.word (by omega),← hw]
   simp only [Res.ok_then,hfit,if_true]
   rfl
 ·intro v n d x e h0 h1 h _ hr
  obtain ⟨hf,h⟩ := rlist_ok h
  have hfu := hfu hr hf
  rcases h with ⟨rfl,rfl⟩ | ⟨rfl,w,hw,hl,hwn,rfl⟩
  ·refine ⟨_,?_,hr.mk' rfl⟩
   show DS.zlist wl false n e = _
   unfold DS.zlist
   rw [hfu]
   simp only [Res.ok_then,Bool.false_eq_true,if_false,DS.add,hr.pos,hr.l]
  ·refine ⟨_,?_,hr.mk' rfl⟩
   show DS.zlist wl true n e = _
   unfold DS.zlist DS.count
   rw [hfu]
   simp only [Res.ok_then,if_true]
   rw [hr.word hl,← hw]
   simp only [Res.ok_then]
   rw [if_neg (by omega)]
   rfl
 ·intro d x e h _ hr
  obtain ⟨hf,w,hw,hl,hw1,rfl⟩ := ropt_ok h
  refine ⟨_,?_,hr.mk' rfl⟩
  show DS.option wl e = _
  unfold DS.option
  rw [hfu hr hf]
  simp only [Res.ok_then]
  rw [hr.word hl,← hw]
  simp only [Res.ok_then]
  rw [if_neg (by omega)]
  rfl
 ·intro of_ set which d x e ho ho2 hset h _ hr
  obtain ⟨hf,w,v,hw,hl,hfit,hwh,rfl⟩ := runion_ok h
  refine ⟨_,?_,hr.mk' rfl⟩
  show DS.zunion wl of_ set which e = _
  unfold DS.zunion
  rw [hfu hr hf]
  simp only [Res.ok_then]
  rw [hr.word hl,← hw]
  simp only [Res.ok_then,hfit,if_true,hwh]
  rfl
def Ord (b : By) : Nat → List Nd → Nat → Prop
 | p,[],q => p ≤ q
 | p,n :: r,q => if n.kind = 2 then ∃ a : Nat,n.at_ = a ∧ p ≤ a ∧ a + n.s.length ≤ b.length ∧ n.s = (b.drop a).take n.s.length ∧ Ord b (a + n.s.length) r q else Ord b p r q
theorem Ord.lower {b : By} : ∀ {l : List Nd} {p p' q : Nat},Ord b p l q → p' ≤ p → Ord b p' l q
 | [],p,p',q,h,hp => Nat.le_trans hp h
 | n :: r,p,p',q,h,hp => by
  rw [Ord] at h ⊢
  split at h
  ·rename_i hk
   rw [if_pos hk]
   obtain ⟨a,h1,h2,h3⟩ := h
   exact ⟨a,h1,by omega,h3⟩
  ·rename_i hk
   rw [if_neg hk]
   exact h.lower hp
theorem Ord.app {b : By} : ∀ {l m : List Nd} {p q r : Nat},Ord b p l q → Ord b q m r → Ord b p (l ++ m) r
 | [],m,p,q,r,h,k => k.lower h
 | n :: l,m,p,q,r,h,k => by
  rw [List.cons_append,Ord]
  rw [Ord] at h
  split at h
  ·rename_i hk
   rw [if_pos hk]
   obtain ⟨a,h1,h2,h3,h4,h5⟩ := h
   exact ⟨a,h1,h2,h3,h4,h5.app k⟩
  ·rename_i hk
   rw [if_neg hk]
   exact h.app k
def texts (l : List Nd) : List Nd := l.filter fun n => n.kind == 2
structure Far (d d' : DS) : Prop where
 b : d'.b = d.b
 le : d.pos ≤ d'.pos
 in_ : d.pos ≤ d.b.length → d'.pos ≤ d.b.length
 dvd : 4 ∣ d'.pos - d.pos
 ex : ∃ ns,d'.l = d.l ++ ns ∧ Ord d.b d.pos ns d'.pos ∧ 4 * (texts ns).length ≤ d'.pos - d.pos
theorem Far.refl (d : DS) : Far d d := ⟨rfl,Nat.le_refl _,fun h => h,by simp,[],by simp,Nat.le_refl _,by simp [texts]⟩
theorem Far.trans {a b c : DS} (h : Far a b) (k : Far b c) : Far a c := by
 obtain ⟨n1,e1,e2,e3⟩ := h.ex
 obtain ⟨n2,f1,f2,f3⟩ := k.ex
 have h1 := h.le
 have h2 := k.le
 rw [h.b] at f2
 refine ⟨k.b.trans h.b,Nat.le_trans h1 h2,fun x => ?_,?_,n1 ++ n2,?_,e2.app f2,?_⟩
 ·have := k.in_ (by rw [h.b]; exact h.in_ x); rw [h.b] at this; exact this
 ·have := h.dvd; have := k.dvd; omega
 ·rw [f1,e1,List.append_assoc]
 ·simp only [texts,List.filter_append,List.length_append] at *; omega
theorem Far.one {d : DS} {q : Nat} {n : Nd} (hq : q ≤ d.b.length ∨ q = d.pos) (hle : d.pos ≤ q) (hd : 4 ∣ q - d.pos) (hk : n.kind ≠ 2) : Far d ⟨d.b,q,d.l ++ [n]⟩ :=
 ⟨rfl,hle,fun h => by rcases hq with hq | hq <;> (simp only; omega),hd,[n],rfl,by simp [Ord,hk,hle],by simp [texts,hk]⟩
theorem far_leaf {lim : Lim} {op : Nat} {f : Bool} {n : Int} {set : List Int} {d d' : DS} (ho : op ≤ 5) (h5 : op = 5 → okN f n = true) (h : d.zleaf lim op f n set = .ok d') : Far d d' ∧ d.pos + 4 ≤ d'.pos ∧ d.l.length < d'.l.length := by
 obtain ⟨hf,_,h⟩ := rleaf_ok h ho
 rcases h with ⟨rfl,rfl,k,hk,hn,hl,hz,rfl⟩ | ⟨rfl,rfl,k,hk,hkn,hk2,hl,hz,rfl⟩ | ⟨rfl,a,b,hae,hbe,hl,rfl⟩ | ⟨h5',h2,w,hw,hl,hfit,rfl⟩
 ·have hge := (okN_ge (h5 rfl)).2.2 rfl
  have hp := pad_dvd k
  have h4 : 4 ≤ k + padOf k := by
   have : 0 < k := by omega
   obtain ⟨c,hc⟩ := hp
   omega
  have hlen : ((d.b.drop d.pos).take k).length = k := by rw [List.length_take,List.length_drop]; omega
  refine ⟨⟨rfl,by simp only; omega,fun _ => hl,by simp only; omega,_,rfl,?_,?_⟩,by simp only; omega,by simp⟩
  ·rw [Ord,if_pos rfl]
   exact ⟨d.pos,rfl,Nat.le_refl _,by simp only [hlen]; omega,by rw [hlen],by simp only [Ord,hlen]; omega⟩
  ·simp [texts]; omega
 ·have hp := pad_dvd k
  have hlen : ((d.b.drop (d.pos + 4)).take k).length = k := by rw [List.length_take,List.length_drop]; omega
  refine ⟨⟨rfl,by simp only; omega,fun _ => hl,by simp only; omega,_,rfl,?_,?_⟩,by simp only; omega,by simp⟩
  ·rw [Ord,if_pos rfl]
   exact ⟨d.pos + 4,rfl,by omega,by simp only [hlen]; omega,by rw [hlen],by simp only [Ord,hlen]; omega⟩
  ·simp [texts]; omega
 ·exact ⟨Far.one (Or.inl hl) (by omega) (by omega) (by simp),by simp only; omega,by simp⟩
 ·exact ⟨Far.one (Or.inl hl) (by omega) (by omega) (by simp),by simp only; omega,by simp⟩
theorem far_list {lim : Lim} {v : Bool} {n : Int} {d : DS} {x : Int × DS} (h : d.zlist lim v n = .ok x) : Far d x.2 ∧ (v = true → d.pos + 4 ≤ x.2.pos) ∧ d.l.length < x.2.l.length ∧ (v = false → x.1 = n) := by
 obtain ⟨hf,h⟩ := rlist_ok h
 rcases h with ⟨rfl,rfl⟩ | ⟨rfl,w,hw,hl,hwn,rfl⟩
 ·exact ⟨Far.one (Or.inr rfl) (Nat.le_refl _) (by simp) (by simp),fun h => by (cases h),by simp,fun _ => rfl⟩
 ·exact ⟨Far.one (Or.inl hl) (by omega) (by omega) (by simp),fun _ => by simp,by simp,fun h => by (cases h)⟩
theorem far_opt {lim : Lim} {d : DS} {x : Bool × DS} (h : d.option lim = .ok x) : Far d x.2 ∧ d.pos + 4 ≤ x.2.pos ∧ d.l.length < x.2.l.length := by
 obtain ⟨hf,w,hw,hl,hw1,rfl⟩ := ropt_ok h
 exact ⟨Far.one (Or.inl hl) (by omega) (by omega) (by simp),by simp,by simp⟩
theorem far_union {lim : Lim} {of_ : Nat} {set : List Int} {which : Int → Option Bool} {d : DS} {x : Int × DS} (h : d.zunion lim of_ set which = .ok x) : Far d x.2 ∧ d.pos + 4 ≤ x.2.pos ∧ d.l.length < x.2.l.length := by
 obtain ⟨hf,w,v,hw,hl,hfit,hwh,rfl⟩ := runion_ok h
 exact ⟨Far.one (Or.inl hl) (by omega) (by omega) (by simp),by simp,by simp⟩
theorem each_far (lim : Lim) : Each (zRead lim) Far :=
 ⟨Far.refl,fun _ _ _ h k => h.trans k,fun op f n set d d' ho h5 h => (far_leaf ho h5 h).1,fun v n d x _ h => (far_list h).1,fun d x h => (far_opt h).1,fun of_ set which d x h => (far_union h).1⟩
def Big (d d' : DS) : Prop := d.pos + 4 ≤ d'.pos ∧ d.l.length < d'.l.length
theorem Far.len {d d' : DS} (h : Far d d') : d.l.length ≤ d'.l.length := by
 obtain ⟨ns,e,_⟩ := h.ex
 rw [e,List.length_append]; omega
theorem Big.far {a b c : DS} (h : Big a b) (k : Far b c) : Big a c := ⟨Nat.le_trans h.1 k.le,Nat.lt_of_lt_of_le h.2 k.len⟩
theorem Far.big {a b c : DS} (h : Far a b) (k : Big b c) : Big a c := ⟨by have := h.le; have := k.1; omega,Nat.lt_of_le_of_lt h.len k.2⟩
section
variable {lim : Lim}
theorem big_ty {nm : By → DS → Res DS} (hf : ∀ s d d',nm s d = .ok d' → Far d d') (hn : ∀ s d d',nm s d = .ok d' → Big d d') : ∀ (t : Ty),okT t = true → t ≠ .void → ∀ {d d' : DS},semT (zRead lim) nm t d = .ok d' → Big d d'
 | .basic s,_,_,d,d',e => (far_leaf (by have := basicOp_le s; omega) (by have := basicOp_le s; omega) e).2
 | .named s a,_,_,d,d',e => hn s d d' e
 | .bytes a f n,ho,_,d,d',e => (far_leaf (by omega) (fun _ => ho) e).2
 | .void,_,h,d,d',e => absurd rfl h
 | .opt t,ho,_,d,d',e => by
  rw [semT] at e
  obtain ⟨x,e1,e2⟩ := Res.then_ok e
  refine Big.far (far_opt e1).2 ?_
  split at e2
  ·exact (each_far lim).ty hf t (flat_ok ho) e2
  ·cases e2; exact Far.refl _
 | .array t f n,ho,_,d,d',e => by
  rw [okT,Bool.and_eq_true] at ho
  rw [semT] at e
  obtain ⟨x,e1,e2⟩ := Res.then_ok e
  obtain ⟨k1,k2,k3,k4⟩ := far_list e1
  have hfl : ∀ d d',semT (zRead lim) nm t d = .ok d' → Far d d' := fun d d' e => (each_far lim).ty hf t (flat_ok ho.1) e
  have k5 := (each_far lim).iter hfl _ e2
  refine ⟨?_,Nat.lt_of_lt_of_le k3 k5.len⟩
  cases f with
  | false => exact Nat.le_trans (k2 rfl) k5.le
  | true =>
   have h1 := (okN_ge ho.2).2.2 rfl
   have hx := k4 rfl
   rw [show x.1.toNat = (x.1.toNat - 1) + 1 by omega,M.iter] at e2
   obtain ⟨y,e3,e4⟩ := Res.then_ok e2
   have hv : t ≠ .void := by rintro rfl; cases ho.1
   have b1 := big_ty hf hn t (flat_ok ho.1) hv e3
   have b2 := (each_far lim).iter hfl _ e4
   have := k1.le; have := b1.1; have := b2.le
   omega
theorem big_kind {nm : By → DS → Res DS} (hf : ∀ s d d',nm s d = .ok d' → Far d d') (hn : ∀ s d d',nm s d = .ok d' → Big d d') {defs : List (By × Def)} (k : Dk) (ho : okK k = true) {d d' : DS} (e : semK (zRead lim) nm defs k d = .ok d') : Big d d' := by
 cases k with
 | const n => cases e
 | prog n vs => cases e
 | alias t => rw [okK,Bool.and_eq_true,bne_iff_ne] at ho; exact big_ty hf hn t ho.1 ho.2 e
 | enum ns is => exact (far_leaf (by omega) (by omega) e).2
 | struct ds =>
  rw [okK,Bool.and_eq_true,Bool.and_eq_true] at ho
  rw [semK] at e
  obtain ⟨x,e1,e2⟩ := Res.then_ok e
  cases ds with
  | nil => simp at ho
  | cons a r =>
   have ho2 := ho.2
   rw [List.all_cons,Bool.and_eq_true,Bool.and_eq_true,bne_iff_ne] at ho2
   rw [semL] at e2
   obtain ⟨y,e3,e4⟩ := Res.then_ok e2
   exact (far_list e1).1.big ((big_ty hf hn a.ty ho2.1.1 ho2.1.2 e3).far ((each_far lim).parts hf r ho2.2 e4))
 | union of n arms els =>
  rw [semK] at e
  obtain ⟨x,e1,e2⟩ := Res.then_ok e
  refine Big.far (far_union e1).2 ?_
  cases ha : armOf arms els x.1 with
  | none => rw [ha] at e2; cases e2
  | some t => rw [ha] at e2; exact (each_far lim).ty hf t (armOf_ok ho ha) e2
theorem big_sem {defs : List (By × Def)} (ho : okDefs defs) : ∀ (r : Nat) (s : By) (d d' : DS),sem (zRead lim) defs r s d = .ok d' → Big d d'
 | 0,s,d,d',e => by cases e
 | r + 1,s,d,d',e => by
  rw [sem] at e
  cases hl : defs.lookup s with
  | none => rw [hl] at e; cases e
  | some x => rw [hl] at e; exact big_kind ((each_far lim).sem ho r) (big_sem ho r) x.k (ho s x hl) e
end
end Go.M
