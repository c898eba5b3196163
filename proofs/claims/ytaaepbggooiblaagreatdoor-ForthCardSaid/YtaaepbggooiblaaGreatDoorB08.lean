/- Texts of mine, one behind the other; nothing is assumed. -/
import Derived.Test.YtaaepbggooiblaaGreatDoorB07
set_option linter.unusedSimpArgs false
set_option linter.unusedVariables false
namespace Go.M
structure IOk (len : Nat) (tabs : List Tab) (i : Ins) : Prop where
 n : 0 ≤ i.n ∧ i.n ≤ 4294967295
 to : i.to < len
 ge : i.op = 13 ∨ 0 ≤ i.to
 tab : i.op = 13 → ∃ tb m,i.table = some tb ∧ tabs[tb]? = some m ∧ ∀ x ∈ m,x.2 < len
theorem IOk.up {len len' : Nat} {tabs t : List Tab} {i : Ins} (h : IOk len tabs i) (hl : len ≤ len') : IOk len' (tabs ++ t) i := by
 refine ⟨h.n,by have := h.to; omega,h.ge,fun h13 => ?_⟩
 obtain ⟨tb,m,h1,h2,h3⟩ := h.tab h13
 exact ⟨tb,m,h1,by rw [List.getElem?_append_left (lt_len h2)]; exact h2,fun x hx => by have := h3 x hx; omega⟩
theorem IOk.insOk {len : Nat} {tabs : List Tab} {i : Ins} (h : IOk len tabs i) : M.insOk len tabs i = true := by
 unfold M.insOk
 rw [Bool.and_eq_true,decide_eq_true_eq,List.all_eq_true]
 refine ⟨⟨h.n.1,h.n.2,h.to,h.ge⟩,fun x hx => ?_⟩
 rw [decide_eq_true_eq]
 intro h13
 obtain ⟨tb,m,h1,h2,h3⟩ := h.tab h13
 rw [h1,tab0 h2] at hx
 exact h3 x hx
def PIns (e : Nat) (i : Ins) : Prop := (0 ≤ i.n ∧ i.n ≤ 4294967295) ∧ 0 ≤ i.to ∧ i.to ≤ e ∧ i.op ≠ 13
theorem PIns.ok {e len : Nat} {tabs : List Tab} {i : Ins} (h : PIns e i) (hl : e < len) : IOk len tabs i := ⟨h.1,by have := h.2.2.1; omega,Or.inr h.2.1,fun h13 => absurd h13 h.2.2.2⟩
theorem PIns.up {e e' : Nat} {i : Ins} (h : PIns e i) (he : e ≤ e') : PIns e' i := ⟨h.1,h.2.1,by have := h.2.2.1; omega,h.2.2.2⟩
theorem pIns (e k : Nat) (hk : k ≠ 13) : PIns e (ins k) := by
 simp only [PIns,ins]
 omega
theorem lowerL_p : ∀ (t : Ty) (b : Nat),okT t = true → ∀ i ∈ lowerL t b,PIns (b + tsz t) i
 | .basic s,b,_,i,hi => by
  rw [lowerL,List.mem_singleton] at hi
  subst hi
  exact pIns _ _ (by have := basicOp_le s; omega)
 | .named s a,b,_,i,hi => by
  rw [lowerL,List.mem_singleton] at hi
  subst hi
  exact pIns _ _ (by omega)
 | .bytes a f n,b,h,i,hi => by
  rw [lowerL,List.mem_singleton] at hi
  subst hi
  have := okN_ge h
  simp only [PIns,ins]; omega
 | .array t f n,b,h,i,hi => by
  rw [okT,Bool.and_eq_true] at h
  have hn := okN_ge h.2
  rw [lowerL] at hi
  rcases List.mem_cons.mp hi with rfl | hi
  ·cases f <;> simp only [PIns,ins,tsz] <;> simp <;> omega
  ·rcases List.mem_append.mp hi with hi | hi
   ·exact (lowerL_p t (b + 1) (flat_ok h.1) i hi).up (by simp only [tsz]; omega)
   ·rw [List.mem_singleton] at hi
    subst hi
    exact pIns _ _ (by omega)
 | .opt t,b,h,i,hi => by
  rw [lowerL] at hi
  rcases List.mem_cons.mp hi with rfl | hi
  ·simp only [PIns,ins,tsz]; omega
  ·exact (lowerL_p t (b + 1) (flat_ok h) i hi).up (by simp only [tsz]; omega)
 | .void,b,_,i,hi => by
  rw [lowerL,List.mem_singleton] at hi
  subst hi
  exact pIns _ _ (by omega)
theorem partsL_p : ∀ (l : List Decl) (b : Nat),(l.all fun d => okT d.ty && d.ty != .void) = true → ∀ i ∈ partsL l b,PIns (b + partsSz l) i
 | [],_,_,i,hi => by cases hi
 | d :: r,b,h,i,hi => by
  rw [List.all_cons,Bool.and_eq_true,Bool.and_eq_true] at h
  rw [partsL] at hi
  rw [partsSz]
  rcases List.mem_append.mp hi with hi | hi
  ·exact (lowerL_p d.ty b h.1.1 i hi).up (by omega)
  ·exact (partsL_p r _ h.2 i hi).up (by omega)
theorem skip_p {e m : Nat} (h : e ≤ m) : PIns m (skipI (e : Nat)) := by
 simp only [PIns,skipI,ins]; omega
theorem armsL_p : ∀ (l : List Arm) (b e m : Nat),(l.all fun a => okT a.decl.ty) = true → e ≤ m → b + armsSz l ≤ m → ∀ i ∈ armsL l b (e : Nat),PIns m i
 | [],_,_,_,_,_,_,i,hi => by cases hi
 | d :: r,b,e,m,h,he,hm,i,hi => by
  rw [List.all_cons,Bool.and_eq_true] at h
  rw [armsL] at hi
  rw [armsSz] at hm
  rcases List.mem_append.mp hi with hi | hi
  ·exact (lowerL_p d.decl.ty b h.1 i hi).up (by omega)
  ·rcases List.mem_cons.mp hi with rfl | hi
   ·exact skip_p he
   ·exact armsL_p r _ e m h.2 he (by omega) i hi
theorem casesTab_lt (b m : Nat) (hb : b < m) : ∀ (l : List Int) (t : Tab),(∀ x ∈ t,x.2 < m) → ∀ x ∈ casesTab b t l,x.2 < m
 | [],t,h => h
 | n :: r,t,h => casesTab_lt b m hb r _ fun x hx => by
  rcases mset_mem hx with hx | rfl
  ·exact h x hx
  ·exact hb
theorem armsTab_lt (m : Nat) : ∀ (l : List Arm) (b : Nat) (t : Tab),(b + armsSz l ≤ m) → (∀ x ∈ t,x.2 < m) → ∀ x ∈ armsTab l b t,x.2 < m
 | [],b,t,_,h => h
 | a :: r,b,t,hb,h => by
  rw [armsSz] at hb
  exact armsTab_lt m r _ _ (by omega) (casesTab_lt b m (by omega) a.nums t h)
theorem kindL_len (defs : List (By × Def)) (b tb : Nat) (k : Dk) : isType k = true → 0 < (kindL defs b tb k).length := by
 intro h
 cases k <;> first | (cases h; done) | (simp [kindL,unionL])
theorem kindL_ok (defs : List (By × Def)) (b : Nat) (tabs : List Tab) (k : Dk) (ho : okK k = true) : ∀ i ∈ kindL defs b tabs.length k,IOk (b + (kindL defs b tabs.length k).length) (tabs ++ kindTabs defs b k) i := by
 intro i hi
 have ret : PIns b (ins 7) := pIns _ _ (by omega)
 cases k with
 | const n => cases hi
 | prog n vs => cases hi
 | alias t =>
  rw [okK,Bool.and_eq_true] at ho
  simp only [kindL,List.length_append,lowerL_len,List.length_singleton] at hi ⊢
  rcases List.mem_append.mp hi with hi | hi
  ·exact (lowerL_p t b ho.1 i hi).ok (by omega)
  ·rw [List.mem_singleton] at hi; subst hi; exact ret.ok (by omega)
 | enum ns is =>
  simp only [kindL,List.mem_cons,List.not_mem_nil,or_false] at hi
  rcases hi with rfl | rfl
  ·refine PIns.ok (e := b) ?_ (by simp [kindL])
   simp only [PIns,ins]; omega
  ·exact ret.ok (by simp [kindL])
 | struct ds =>
  rw [okK,Bool.and_eq_true,Bool.and_eq_true,decide_eq_true_eq] at ho
  simp only [kindL,List.length_cons,List.length_append,partsL_len,List.length_singleton] at hi ⊢
  rcases List.mem_cons.mp hi with rfl | hi
  ·refine PIns.ok (e := b) ?_ (by omega)
   simp only [PIns,ins]; omega
  ·rcases List.mem_append.mp hi with hi | hi
   ·exact (partsL_p ds (b + 1) ho.2 i hi).ok (by omega)
   ·rw [List.mem_singleton] at hi; subst hi; exact ret.ok (by omega)
 | union of n arms els =>
  rw [okK,Bool.and_eq_true,Bool.and_eq_true] at ho
  simp only [kindL,unionL,List.cons_append,List.length_cons,List.length_append,armsL_len,elsL_len,List.length_singleton] at hi ⊢
  rcases List.mem_cons.mp hi with rfl | hi
  ·refine ⟨⟨by simp [headI,ins],by simp [headI,ins]⟩,?_,Or.inl rfl,fun _ => ⟨tabs.length,armsTab arms (b + 1) [],rfl,?_,armsTab_lt _ arms (b + 1) [] (by omega) (fun x hx => by cases hx)⟩⟩
   ·simp only [headI,elsTo]
    cases els with
    | none => simp only; omega
    | some d => simp only [elsSz]; have := tsz_pos d.ty; omega
   ·rw [kindTabs,List.getElem?_append_right (Nat.le_refl _),Nat.sub_self]
    rfl
  ·rcases List.mem_append.mp hi with hi | hi
   ·rcases List.mem_append.mp hi with hi | hi
    ·exact (armsL_p arms (b + 1) _ (b + 1 + armsSz arms + elsSz els) ho.1.2 (Nat.le_refl _) (by omega) i hi).ok (by omega)
    ·cases els with
     | none => cases hi
     | some d =>
      simp only [elsL,elsSz] at hi ⊢
      rcases List.mem_append.mp hi with hi | hi
      ·exact (lowerL_p d.ty _ ho.2 i hi).ok (by omega)
      ·rw [List.mem_singleton] at hi; subst hi; exact (skip_p (m := b + 1 + armsSz arms + (tsz d.ty + 1)) (Nat.le_refl _)).ok (by omega)
   ·rw [List.mem_singleton] at hi; subst hi; exact ret.ok (by omega)
def okP : Dk → Bool
 | .prog _ vs => vs.all fun v => v.procs.all fun q => okT q.arg && okT q.res
 | _ => true
def AllOk (c : CS) : Prop := ∀ i ∈ c.L,IOk c.L.length c.tabs i
theorem AllOk.more {c : CS} (h : AllOk c) {l : List Ins} {k : List (Nat × By × Nat)} {t : List Tab} (hl : ∀ i ∈ l,IOk (c.L.length + l.length) (c.tabs ++ t) i) : AllOk (c.more l k t) := by
 intro i hi
 rw [more_len]
 rcases List.mem_append.mp hi with hi | hi
 ·exact (h i hi).up (by omega)
 ·exact hl i hi
theorem AllOk.side {c : CS} (h : AllOk c) {t : Ty} (ht : okT t = true) : AllOk (sideC t c) := by
 rw [sideC_eq,grow_more]
 refine h.more fun i hi => ?_
 rw [List.length_append,lowerL_len,List.length_singleton]
 rcases List.mem_append.mp hi with hi | hi
 ·exact (lowerL_p t _ ht i hi).ok (by omega)
 ·rw [List.mem_singleton] at hi; subst hi; exact (pIns c.L.length 16 (by omega)).ok (by omega)
theorem AllOk.procsC (g v : Int) : ∀ (l : List Proc) {c : CS},AllOk c → (l.all fun q => okT q.arg && okT q.res) = true → AllOk (procsC g v c l)
 | [],c,h,_ => h
 | q :: r,c,h,ho => by
  rw [List.all_cons,Bool.and_eq_true,Bool.and_eq_true] at ho
  rw [M.procsC]
  refine AllOk.procsC g v r ?_ ho.2
  exact (h.side ho.1.2).side ho.1.1
theorem AllOk.versC (g : Int) : ∀ (l : List Vers) {c : CS},AllOk c → (l.all fun v => v.procs.all fun q => okT q.arg && okT q.res) = true → AllOk (versC g c l)
 | [],c,h,_ => h
 | v :: r,c,h,ho => by
  rw [List.all_cons,Bool.and_eq_true] at ho
  rw [M.versC]
  exact AllOk.versC g r (AllOk.procsC g v.n v.procs (c := { c with vers := mset c.vers g ((c.vers.lookup g).getD [] ++ [v.n]) }) h ho.1) ho.2
theorem AllOk.defC {c : CS} (h : AllOk c) (d : Def) (ho : okK d.k = true) (hp : okP d.k = true) : AllOk (defC c d) := by
 have h0 : AllOk ({ c with defs := mset c.defs d.name d } : CS) := h
 cases ht : isType d.k with
 | false =>
  unfold M.defC
  cases hk : d.k with
  | prog n vs => rw [hk] at hp; exact AllOk.versC n vs h0 hp
  | const n => simp only; rw [defineC_not _ _ ht]; exact h0
  | _ => rw [hk] at ht; cases ht
 | true =>
  have e : M.defC c d = defineC d { c with defs := mset c.defs d.name d } := by
   unfold M.defC
   cases hk : d.k with
   | prog n vs => rw [hk] at ht; cases ht
   | _ => rfl
  rw [e,defineC_eq _ _ ht]
  exact AllOk.more (c := { c with defs := mset c.defs d.name d,start := mset c.start d.name c.L.length }) h (kindL_ok _ _ c.tabs d.k ho)
theorem AllOk.defsC : ∀ (l : List Def) {c : CS},AllOk c → (∀ d ∈ l,okK d.k = true ∧ okP d.k = true) → AllOk (defsC c l)
 | [],c,h,_ => h
 | d :: r,c,h,ho => by
  obtain ⟨h1,h2⟩ := ho d (List.mem_cons_self ..)
  exact AllOk.defsC r (h.defC d h1 h2) fun x hx => ho x (List.mem_cons_of_mem _ hx)
theorem defs_mem {P : Def → Prop} : ∀ (l : List Def) {c : CS},(∀ s d,c.defs.lookup s = some d → P d) → (∀ d ∈ l,P d) → ∀ s d,(defsC c l).defs.lookup s = some d → P d
 | [],c,h,_ => h
 | d :: r,c,h,hr => by
  rw [defsC]
  refine defs_mem r ?_ fun x hx => hr x (List.mem_cons_of_mem _ hx)
  have e : (defC c d).defs = mset c.defs d.name d := by
   have procs : ∀ (g v : Int) (l : List Proc) (c : CS),(procsC g v c l).defs = c.defs := by
    intro g v l
    induction l with
    | nil => intro c; rfl
    | cons q r ih =>
     intro c
     rw [procsC,ih]
     show (sideC q.arg (sideC q.res c)).defs = c.defs
     rw [sideC_eq,sideC_eq]; rfl
   have vers : ∀ (g : Int) (l : List Vers) (c : CS),(versC g c l).defs = c.defs := by
    intro g l
    induction l with
    | nil => intro c; rfl
    | cons q r ih => intro c; rw [versC,ih,procs]
   cases ht : isType d.k with
   | false =>
    unfold defC
    cases hk : d.k with
    | prog n vs => exact vers n vs _
    | const n => simp only; rw [defineC_not _ _ ht]
    | _ => rw [hk] at ht; cases ht
   | true =>
    have e : defC c d = defineC d { c with defs := mset c.defs d.name d } := by
     unfold defC
     cases hk : d.k with
     | prog n vs => rw [hk] at ht; cases ht
     | _ => rfl
    rw [e,defineC_eq _ _ ht]; rfl
  intro s x hx
  rw [e,lookup_mset] at hx
  split at hx
  ·cases hx; exact hr _ (List.mem_cons_self ..)
  ·exact h s x hx
structure Tidy (ds : List Def) : Prop where
 fine : fine ds = true
 ok : ∀ d ∈ ds,okK d.k = true ∧ okP d.k = true
structure Comp (ds : List Def) (c : CS) : Prop where
 li : LI (defsC CS.empty ds)
 start : c.start = (defsC CS.empty ds).start
 defs : c.defs = (defsC CS.empty ds).defs
 tabs : c.tabs = (defsC CS.empty ds).tabs
 procs : c.procs = (defsC CS.empty ds).procs
 vers : c.vers = (defsC CS.empty ds).vers
 rsv : Rsv (defsC CS.empty ds).L c.L (defsC CS.empty ds).calls (defsC CS.empty ds).start
 prg : Prg c.L c.tabs c.start c.defs
 defsOk : okDefs c.defs
 all : ∀ i ∈ c.L,IOk c.L.length c.tabs i
 len : c.L.length + 2 * c.start.length < 1000000
theorem fine_parts {ds : List Def} (h : fine ds = true) : wfDefs CS.empty ds = true ∧ (defsC CS.empty ds).L.length + 2 * (defsC CS.empty ds).start.length < 1000000 := by
 simp only [fine,Bool.and_eq_true,decide_eq_true_eq] at h
 exact ⟨h.1.1.1.1.1,h.1.1.1.1.2⟩
theorem LI.start_lt {c : CS} (h : LI c) {s : By} {p : Nat} (hs : c.start.lookup s = some p) : p < c.L.length := by
 obtain ⟨d,tb,h1,h2,h3,h4,h5,h6⟩ := h.start s p hs
 have := kindL_len c.defs p tb d.k h2
 obtain ⟨x,r,hx⟩ := List.exists_cons_of_ne_nil (List.length_pos_iff.mp this)
 rw [hx] at h4
 exact lt_len h4.head
theorem compile_comp {ds : List Def} {c : CS} (ht : Tidy ds) (h : compile ds = .ok c) : Comp ds c := by
 unfold compile at h
 obtain ⟨L,h1,h⟩ := Res.then_ok h
 obtain ⟨_,_,h⟩ := Res.then_ok h
 obtain ⟨hw,hlen⟩ := fine_parts ht.fine
 have hli := LI.defsC ds LI.empty hw
 have hr := hli.rsv h1
 have hall := AllOk.defsC ds (c := CS.empty) (fun i hi => by cases hi) ht.ok
 have hprg := hli.prg h1
 have hdef := defs_mem (P := fun d => okK d.k = true) ds (c := CS.empty) (fun s d h => by cases h) (fun d hd => (ht.ok d hd).1)
 generalize he : defsC CS.empty ds = e at *
 cases h
 refine ⟨by rw [he]; exact hli,by rw [he],by rw [he],by rw [he],by rw [he],by rw [he],by rw [he]; exact hr,hprg,hdef,?_,?_⟩
 ·intro i hi
  obtain ⟨p,hp,hpi⟩ := List.mem_iff_getElem.mp hi
  have hpi' : L[p]? = some i := by rw [List.getElem?_eq_getElem hp,hpi]
  have hp2 : p < e.L.length := by rw [← hr.len]; exact hp
  show IOk L.length e.tabs i
  rw [hr.len]
  have hx := hall e.L[p] (List.getElem_mem hp2)
  by_cases hin : ∃ x ∈ e.calls,x.1 = p
  ·obtain ⟨x,hx1,rfl⟩ := hin
   obtain ⟨t,ht1,ht2⟩ := hr.call x hx1
   have hpi' : L[x.1]? = some i := hpi'
   rw [ht2] at hpi'
   cases hpi'
   have := hli.start_lt ht1
   exact ⟨by simp [ins],by simp only; omega,Or.inr (by simp),fun h => by simp [ins] at h⟩
  ·have := (resolve_other h1).2 p fun x hx e => hin ⟨x,hx,e⟩
   have hpi' : L[p]? = some i := hpi'
   rw [this,List.getElem?_eq_getElem hp2] at hpi'
   cases hpi'
   exact hx
 ·show L.length + 2 * e.start.length < 1000000
  rw [hr.len]; exact hlen
theorem typesC_ent : ∀ (l : List By) {c0 c : CS},(∀ s p,c.types.lookup s = some p → c.L[p]? = some { ins 6 with to := ((c0.start.lookup s).getD 0 : Nat) } ∧ c.L[p + 1]? = some (ins 16)) → c.start = c0.start →
  (typesC c l).start = c.start ∧ (typesC c l).defs = c.defs ∧ (typesC c l).tabs = c.tabs ∧ (typesC c l).procs = c.procs ∧ (typesC c l).vers = c.vers ∧ (∃ r,(typesC c l).L = c.L ++ r) ∧
  (∀ s p,(typesC c l).types.lookup s = some p → (typesC c l).L[p]? = some { ins 6 with to := ((c0.start.lookup s).getD 0 : Nat) } ∧ (typesC c l).L[p + 1]? = some (ins 16)) ∧
  (∀ s,((typesC c l).types.lookup s).isSome = ((c.types.lookup s).isSome || l.contains s))
 | [],c0,c,h,_ => ⟨rfl,rfl,rfl,rfl,rfl,⟨[],by simp [typesC]⟩,h,fun s => by simp [typesC]⟩
 | n :: r,c0,c,h,hs => by
  have k := typesC_ent r (c0 := c0) (c := { c with types := mset c.types n c.L.length,L := c.L ++ [{ ins 6 with to := ((c.start.lookup n).getD 0 : Nat) },ins 16] }) ?_ hs
  ·obtain ⟨k1,k2,k3,k4,k5,⟨x,k6⟩,k7,k8⟩ := k
   rw [typesC]
   refine ⟨k1,k2,k3,k4,k5,⟨_,by rw [k6,List.append_assoc]⟩,k7,fun s => ?_⟩
   rw [k8,lookup_mset,List.contains_cons]
   cases hb : s == n <;> simp
  ·intro s p hp
   simp only [lookup_mset] at hp
   split at hp
   ·rename_i hb
    cases hp
    have hb : s = n := eq_of_beq hb
    subst hb
    constructor
    ·rw [List.getElem?_append_right (Nat.le_refl _),Nat.sub_self,hs]; rfl
    ·rw [List.getElem?_append_right (by omega),Nat.add_sub_cancel_left]; rfl
   ·obtain ⟨h1,h2⟩ := h s p hp
    exact ⟨by simp only; rw [List.getElem?_append_left (lt_len h1)]; exact h1,by simp only; rw [List.getElem?_append_left (lt_len h2)]; exact h2⟩
theorem CodeT.app {L r : List Ins} {start : List (By × Nat)} : ∀ {t : Ty} {p : Nat},CodeT L start t p → CodeT (L ++ r) start t p := by
 have g : ∀ {p : Nat} {x : Ins},L[p]? = some x → (L ++ r)[p]? = some x := fun h => by rw [List.getElem?_append_left (lt_len h)]; exact h
 intro t
 induction t with
 | basic s => intro p h; exact g h
 | named s a => intro p h; obtain ⟨t,h1,h2⟩ := h; exact ⟨t,h1,g h2⟩
 | bytes a f n => intro p h; exact g h
 | array t f n ih => intro p h; exact ⟨g h.1,ih h.2.1,g h.2.2⟩
 | opt t ih => intro p h; exact ⟨g h.1,ih h.2⟩
 | void => intro p h; exact g h
theorem CodeK.app {L r : List Ins} {tabs : List Tab} {start : List (By × Nat)} {defs : List (By × Def)} {p tb : Nat} {k : Dk} (h : CodeK L tabs start defs p tb k) : CodeK (L ++ r) tabs start defs p tb k := by
 have g : ∀ {p : Nat} {x : Ins},L[p]? = some x → (L ++ r)[p]? = some x := fun h => by rw [List.getElem?_append_left (lt_len h)]; exact h
 have gp : ∀ (l : List Decl) {p : Nat},CodeP L start l p → CodeP (L ++ r) start l p := by
  intro l
  induction l with
  | nil => intro p _; trivial
  | cons d l ih => intro p h; exact ⟨h.1.app,ih h.2⟩
 have ga : ∀ (l : List Arm) {p : Nat} {e : Int},CodeA L start e l p → CodeA (L ++ r) start e l p := by
  intro l
  induction l with
  | nil => intro p e _; trivial
  | cons d l ih => intro p e h; exact ⟨h.1.app,g h.2.1,ih h.2.2⟩
 cases k with
 | const n => trivial
 | prog n vs => trivial
 | alias t => exact ⟨h.1.app,g h.2⟩
 | enum ns is => exact ⟨g h.1,h.2.1,g h.2.2⟩
 | struct ds => exact ⟨g h.1,gp ds h.2.1,g h.2.2⟩
 | union of n arms els =>
  refine ⟨g h.1,h.2.1,h.2.2.1,ga arms h.2.2.2.1,?_,g h.2.2.2.2.2⟩
  have he := h.2.2.2.2.1
  cases els with
  | none => trivial
  | some d => exact ⟨he.1.app,g he.2⟩
theorem Prg.app {L r : List Ins} {tabs : List Tab} {start : List (By × Nat)} {defs : List (By × Def)} (h : Prg L tabs start defs) : Prg (L ++ r) tabs start defs :=
 ⟨fun s p hs => by obtain ⟨d,tb,h1,h2,h3,h4⟩ := h.named s p hs; exact ⟨d,tb,h1,h2,h3,h4.app⟩⟩
structure Whole (ds : List Def) (c d : CS) : Prop where
 comp : Comp ds c
 start : d.start = c.start
 defs : d.defs = c.defs
 tabs : d.tabs = c.tabs
 procs : d.procs = c.procs
 vers : d.vers = c.vers
 prg : Prg d.L d.tabs d.start d.defs
 all : ∀ i ∈ d.L,insOk d.L.length d.tabs i = true
 len : d.L.length < 1000000
 pre : ∃ r,d.L = c.L ++ r
 has : ∀ s,(d.types.lookup s).isSome = (d.start.lookup s).isSome
 ent : ∀ s p,d.types.lookup s = some p → ∃ t,d.start.lookup s = some t ∧ d.L[p]? = some { ins 6 with to := ((t : Nat) : Int) } ∧ d.L[p + 1]? = some (ins 16)
theorem lookup_mem {α β : Type} [BEq α] [LawfulBEq α] (l : List (α × β)) (s : α) : (l.lookup s).isSome = (l.map (·.1)).contains s := by
 induction l with
 | nil => rfl
 | cons x r ih =>
  rw [List.lookup_cons,List.map_cons,List.contains_cons,← ih]
  cases s == x.1 <;> rfl
theorem typesC_all : ∀ (l : List By) {c : CS},(∀ i ∈ c.L,IOk c.L.length c.tabs i) → (∀ s p,c.start.lookup s = some p → p < c.L.length) → ∀ i ∈ (typesC c l).L,IOk (typesC c l).L.length (typesC c l).tabs i
 | [],c,h,_ => h
 | n :: r,c,h,hs => by
  rw [typesC]
  refine typesC_all r ?_ ?_
  ·intro i hi
   simp only [List.length_append,List.length_cons,List.length_nil]
   rcases List.mem_append.mp hi with hi | hi
   ·have := (h i hi).up (t := []) (show c.L.length ≤ c.L.length + (0 + 1 + 1) by omega)
    rwa [List.append_nil] at this
   ·simp only [List.mem_cons,List.not_mem_nil,or_false] at hi
    rcases hi with rfl | rfl
    ·refine ⟨by simp [ins],?_,Or.inr (by simp),fun h => by simp [ins] at h⟩
     cases hn : c.start.lookup n with
     | none => simp only [Option.getD_none]; omega
     | some p => have := hs n p hn; simp only [Option.getD_some]; omega
    ·exact (pIns 0 16 (by omega)).ok (by omega)
  ·intro s p hp
   have := hs s p hp
   simp only [List.length_append]; omega
theorem compile_whole {ds : List Def} {c : CS} {names : List By} (ht : Tidy ds) (h : compile ds = .ok c) (hp : names.Perm (c.start.map (·.1))) : Whole ds c (typesC c names) := by
 have hc := compile_comp ht h
 have ht0 : c.types = [] := by
  unfold compile at h
  obtain ⟨L,h1,h⟩ := Res.then_ok h
  obtain ⟨_,_,h⟩ := Res.then_ok h
  have : ∀ (l : List Def) (c : CS),c.types = [] → (defsC c l).types = [] := by
   have procs : ∀ (g v : Int) (l : List Proc) (c : CS),(procsC g v c l).types = c.types := by
    intro g v l
    induction l with
    | nil => intro c; rfl
    | cons q r ih =>
     intro c
     rw [procsC,ih]
     show (sideC q.arg (sideC q.res c)).types = c.types
     rw [sideC_eq,sideC_eq]; rfl
   have vers : ∀ (g : Int) (l : List Vers) (c : CS),(versC g c l).types = c.types := by
    intro g l
    induction l with
    | nil => intro c; rfl
    | cons q r ih => intro c; rw [versC,ih,procs]
   intro l
   induction l with
   | nil => intro c h; exact h
   | cons d r ih =>
    intro c h
    rw [defsC]
    refine ih _ ?_
    cases ht : isType d.k with
    | false =>
     unfold defC
     cases hk : d.k with
     | prog n vs => simp only; rw [vers]; exact h
     | const n => simp only; rw [defineC_not _ _ ht]; exact h
     | _ => rw [hk] at ht; cases ht
    | true =>
     have e : defC c d = defineC d { c with defs := mset c.defs d.name d } := by
      unfold defC
      cases hk : d.k with
      | prog n vs => rw [hk] at ht; cases ht
      | _ => rfl
     rw [e,defineC_eq _ _ ht]; exact h
  cases h
  exact this ds _ rfl
 obtain ⟨k1,k2,k3,k4,k5,⟨r,k6⟩,k7,k8⟩ := typesC_ent names (c0 := c) (c := c) (fun s p h => by rw [ht0] at h; cases h) rfl
 have hlt : ∀ s p,c.start.lookup s = some p → p < c.L.length := fun s p hs => by
  rw [hc.start] at hs
  have := hc.li.start_lt hs
  rw [hc.rsv.len]; exact this
 have hhas : ∀ s,((typesC c names).types.lookup s).isSome = (c.start.lookup s).isSome := fun s => by
  rw [k8,ht0,lookup_mem c.start]
  show (false || names.contains s) = _
  rw [Bool.false_or,Bool.eq_iff_iff,List.contains_iff_mem,List.contains_iff_mem]
  exact hp.mem_iff
 refine ⟨hc,k1,k2,k3,k4,k5,?_,fun i hi => (typesC_all names hc.all hlt i hi).insOk,?_,⟨r,k6⟩,fun s => by rw [hhas,k1],fun s p hs => ?_⟩
 ·rw [k1,k2,k3,k6]; exact hc.prg.app
 ·rw [typesC_len,hp.length_eq,List.length_map]; exact hc.len
 ·obtain ⟨e1,e2⟩ := k7 s p hs
  have := hhas s
  rw [hs,Option.isSome_some] at this
  cases hl : c.start.lookup s with
  | none => rw [hl] at this; cases this
  | some t =>
   rw [hl] at e1
   exact ⟨t,by rw [k1]; exact hl,e1,e2⟩
theorem Whole.run {σ : Type} {ds : List Def} {c d : CS} (h : Whole ds c d) {lim : Lim} {io : Wy σ} {z : Wz σ} (w : Ways σ d.L d.tabs io z) (hd : lim.depth ≤ 900) {s : By} {p : Nat} (hp : d.types.lookup s = some p) (x : σ) :
  ∃ n,mrun d.L lim io n ⟨p,[],[],x⟩ = some ((sem z d.defs lim.depth.toNat s x).andThen fun y => .ok ⟨p + 1,[],[],y⟩) := by
 obtain ⟨t,h1,h2,h3⟩ := h.ent s p hp
 have ho : okDefs d.defs := by rw [h.defs]; exact h.comp.defsOk
 exact run_side w h.prg ho hd (t := .named s 0) rfl (p := p) x ⟨t,h1,h2⟩ h3
end Go.M
namespace Go.M
inductive Oc (α : Type) where
 | ok (a : α)
 | flt (e a : Nat)
 | num (e : Nat)
def Res.oc {α : Type} : Res α → Oc α
 | .ok a => .ok a
 | .no e a => .flt e a
def Lim.valid (l : Lim) : Bool := decide (0 ≤ l.depth) && decide (l.depth ≤ 64) && decide (0 ≤ l.fuel) && decide (l.fuel ≤ 10000) && decide (0 ≤ l.size) && decide (l.size ≤ 100000)
theorem Lim.valid_iff {l : Lim} : l.valid = true ↔ (0 ≤ l.depth ∧ l.depth ≤ 64) ∧ (0 ≤ l.fuel ∧ l.fuel ≤ 10000) ∧ (0 ≤ l.size ∧ l.size ≤ 100000) := by
 simp only [Lim.valid,Bool.and_eq_true,decide_eq_true_eq]
 constructor
 ·rintro ⟨⟨⟨⟨⟨a,b⟩,c⟩,d⟩,e⟩,f⟩; exact ⟨⟨a,b⟩,⟨c,d⟩,e,f⟩
 ·rintro ⟨⟨a,b⟩,⟨c,d⟩,e,f⟩; exact ⟨⟨⟨⟨⟨a,b⟩,c⟩,d⟩,e⟩,f⟩
def decT (defs : List (By × Def)) (lim : Lim) (t : Ty) (b : By) : Res (List Nd) :=
 (semT (zRead lim) (sem (zRead lim) defs lim.depth.toNat) t ⟨b,0,[]⟩).andThen fun d => if d.pos < b.length then .no 20 d.pos else .ok d.l
def encT (defs : List (By × Def)) (lim : Lim) (t : Ty) (l : List Nd) : Res By :=
 (semT (zWrite lim) (sem (zWrite lim) defs lim.depth.toNat) t ⟨l,0,[]⟩).andThen fun e => if e.k < l.length then .no 12 e.k else .ok e.out
def decS (c : CS) (lim : Lim) (name b : By) : Oc (List Nd) :=
 if (c.start.lookup name).isNone then .num 10 else if !lim.valid then .num 11 else if lim.size < b.length then .flt 14 0 else (decT c.defs lim (.named name 0) b).oc
def encS (c : CS) (lim : Lim) (name : By) (l : List Nd) : Oc By :=
 if (c.start.lookup name).isNone then .num 10 else if !lim.valid then .num 11 else (encT c.defs lim (.named name 0) l).oc
end Go.M
set_option maxRecDepth 100000
namespace Go.M
def keepText : By := [99,111,110,115,116,32,87,73,68,69,32,61,32,55,59,32,101,110,117,109,32,75,105,110,100,32,123,32,65,32,61,32,48,44,32,66,32,61,32,45,51,44,32,67,32,61,32,55,48,48,48,48,32,125,59,32,115,116,114,117,99,116,32,80,97,105,114,32,123,32,105,110,116,32,120,59,32,117,110,115,105,103,110,101,100,32,104,121,112,101,114,32,121,59,32,117,110,115,105,103,110,101,100,32,122,59,32,125,59,32,117,110,105,111,110,32,83,111,109,101,32,115,119,105,116,99,104,32,40,75,105,110,100,32,107,41,32,123,32,99,97,115,101,32,65,58,32,118,111,105,100,59,32,99,97,115,101,32,66,58,32,80,97,105,114,32,112,59,32,100,101,102,97,117,108,116,58,32,111,112,97,113,117,101,32,111,60,57,62,59,32,125,59,32,116,121,112,101,100,101,102,32,83,111,109,101,32,70,101,119,60,51,62,59,32,115,116,114,117,99,116,32,84,114,101,101,32,123,32,115,116,114,105,110,103,32,110,97,109,101,60,49,50,62,59,32,84,114,101,101,32,42,108,101,102,116,59,32,84,114,101,101,32,42,114,105,103,104,116,59,32,98,111,111,108,32,108,101,97,102,59,32,70,101,119,32,102,101,119,59,32,111,112,97,113,117,101,32,115,117,109,91,53,93,59,32,125,59,32,117,110,105,111,110,32,70,108,97,103,32,115,119,105,116,99,104,32,40,98,111,111,108,32,98,41,32,123,32,99,97,115,101,32,84,82,85,69,58,32,70,108,97,103,32,42,110,101,120,116,59,32,99,97,115,101,32,70,65,76,83,69,58,32,104,121,112,101,114,32,104,91,50,93,59,32,125,59,32,115,116,114,117,99,116,32,82,111,119,32,123,32,80,97,105,114,32,97,108,108,60,87,73,68,69,62,59,32,70,108,97,103,32,102,108,97,103,115,91,51,93,59,32,125,59,32,117,110,105,111,110,32,87,111,114,100,32,115,119,105,116,99,104,32,40,117,110,115,105,103,110,101,100,32,117,41,32,123,32,99,97,115,101,32,52,50,57,52,57,54,55,50,57,53,58,32,75,105,110,100,32,107,59,32,99,97,115,101,32,48,58,32,115,116,114,105,110,103,32,115,60,62,59,32,125,59,32,112,114,111,103,114,97,109,32,80,32,123,32,118,101,114,115,105,111,110,32,86,32,123,32,84,114,101,101,32,115,119,97,112,40,84,114,101,101,41,32,61,32,49,59,32,118,111,105,100,32,100,114,111,112,40,80,97,105,114,41,32,61,32,50,59,32,80,97,105,114,32,109,97,107,101,40,118,111,105,100,41,32,61,32,51,59,32,125,32,61,32,49,59,32,118,101,114,115,105,111,110,32,87,32,123,32,87,111,114,100,32,115,97,121,40,87,111,114,100,41,32,61,32,49,59,32,125,32,61,32,51,59,32,125,32,61,32,55,55,59]
def resOk {α : Type} (d : α) : Res α → α
 | .ok a => a
 | .no _ _ => d
def isOk {α : Type} : Res α → Bool
 | .ok _ => true
 | .no _ _ => false
theorem resOk_eq {α : Type} {d : α} {r : Res α} (h : isOk r = true) : r = .ok (resOk d r) := by
 cases r with
 | ok a => rfl
 | no e a => cases h
def keepDefs : List Def := resOk [] (parse keepText)
def keepC : CS := resOk CS.empty (compile keepDefs)
theorem keep_parse : parse keepText = .ok keepDefs := resOk_eq (by decide +kernel)
theorem keep_compile : compile keepDefs = .ok keepC := resOk_eq (by decide +kernel)
theorem keep_tidy : Tidy keepDefs := by
 refine ⟨by decide +kernel,?_⟩
 have : (keepDefs.all fun d => okK d.k && okP d.k) = true := by decide +kernel
 intro d hd
 have := List.all_eq_true.mp this d hd
 rwa [Bool.and_eq_true] at this
def keepNames : List By := [[75,105,110,100],[80,97,105,114],[83,111,109,101],[70,101,119],[84,114,101,101],[70,108,97,103],[82,111,119],[87,111,114,100]]
theorem keep_has : (keepNames.all fun n => (keepC.start.lookup n).isSome) = true := by decide +kernel
theorem keepText_len : keepText.length ≤ 1200 := by decide +kernel
structure Keep (ds : List Def) (c : CS) : Prop where
 parse : M.parse keepText = .ok ds
 compile : M.compile ds = .ok c
 tidy : Tidy ds
 has : ∀ n ∈ keepNames,(c.start.lookup n).isSome = true
theorem keep_ex : ∃ ds c,Keep ds c := ⟨keepDefs,keepC,keep_parse,keep_compile,keep_tidy,fun n hn => List.all_eq_true.mp keep_has n hn⟩
end Go.M
namespace Go.M
section
variable {defs : List (By × Def)} {lim wl : Lim} {t : Ty} {b : By}
theorem decT_ok {v : List Nd} (h : decT defs lim t b = .ok v) : ∃ d,semT (zRead lim) (sem (zRead lim) defs lim.depth.toNat) t ⟨b,0,[]⟩ = .ok d ∧ b.length ≤ d.pos ∧ v = d.l := by
 unfold decT at h
 obtain ⟨d,h1,h2⟩ := Res.then_ok h
 split at h2
 ·cases h2
 ·cases h2; exact ⟨d,h1,by omega,rfl⟩
theorem decT_far {v : List Nd} (ho : okDefs defs) (ht : okT t = true) (h : decT defs lim t b = .ok v) : ∃ d,semT (zRead lim) (sem (zRead lim) defs lim.depth.toNat) t ⟨b,0,[]⟩ = .ok d ∧ d = ⟨b,b.length,v⟩ ∧ Far ⟨b,0,[]⟩ d := by
 obtain ⟨d,h1,h2,rfl⟩ := decT_ok h
 have hf := (each_far lim).ty ((each_far lim).sem ho _) t ht h1
 have h3 := hf.in_ (Nat.zero_le _)
 have h4 := hf.b
 refine ⟨d,h1,?_,hf⟩
 obtain ⟨x,y,z⟩ := d
 simp only at h2 h3 h4 ⊢
 subst h4
 rw [Nat.le_antisymm h3 h2]
theorem forthT {v m : List Nd} (ho : okDefs defs) (ht : okT t = true) (h : decT defs lim t b = .ok v) (ha : alike v m) (hf : lim.fuel ≤ wl.fuel) (hd : lim.depth ≤ wl.depth) (hs : (b.length : Int) ≤ wl.size) : encT defs wl t m = .ok b := by
 obtain ⟨d,h1,rfl,_⟩ := decT_far ho ht h
 have hb := forth_beside (lim := lim) (wl := wl) (B := b) ha hs hf
 obtain ⟨e,h2,h3⟩ := hb.ty (hb.sem ho _ wl.depth.toNat (by omega)) t ht (e := ⟨m,0,[]⟩) h1 (List.prefix_refl _) ⟨rfl,rfl,rfl,rfl,Nat.zero_le _⟩
 unfold encT
 rw [h2,Res.ok_then]
 have hk : e.k = m.length := h3.k.trans ha.len
 rw [if_neg (by omega),h3.out,List.take_length]
theorem extT {v : List Nd} (ho : okDefs defs) (ht : okT t = true) (h : decT defs lim t b = .ok v) (more : By) (hf : lim.fuel ≤ wl.fuel) (hd : lim.depth ≤ wl.depth) :
  semT (zRead wl) (sem (zRead wl) defs wl.depth.toNat) t ⟨b ++ more,0,[]⟩ = .ok ⟨b ++ more,b.length,v⟩ := by
 obtain ⟨d,h1,rfl,_⟩ := decT_far ho ht h
 have hb := ext_beside (lim := lim) (wl := wl) hf more
 obtain ⟨e,h2,h3⟩ := hb.ty (hb.sem ho _ wl.depth.toNat (by omega)) t ht (e := ⟨b ++ more,0,[]⟩) h1 trivial ⟨rfl,rfl,rfl⟩
 rw [h2]
 obtain ⟨x,y,z⟩ := e
 have e1 := h3.b
 have e2 := h3.pos
 have e3 := h3.l
 simp only at e1 e2 e3
 rw [e1,e2,e3]
theorem deeperT {v : List Nd} (ho : okDefs defs) (ht : okT t = true) (h : decT defs lim t b = .ok v) (hf : lim.fuel ≤ wl.fuel) (hd : lim.depth ≤ wl.depth) : decT defs wl t b = .ok v := by
 have := extT (wl := wl) ho ht h [] hf hd
 rw [List.append_nil] at this
 unfold decT
 rw [this,Res.ok_then,if_neg (by simp)]
theorem bigT {v : List Nd} (ho : okDefs defs) (ht : okT t = true) (hv : t ≠ .void) (h : decT defs lim t b = .ok v) : 4 ∣ b.length ∧ 4 ≤ b.length ∧ v ≠ [] ∧ Ord b 0 v b.length ∧ 4 * (texts v).length ≤ b.length := by
 obtain ⟨d,h1,rfl,hf⟩ := decT_far ho ht h
 have hb := big_ty ((each_far lim).sem ho _) (big_sem ho _) t ht hv h1
 obtain ⟨ns,e1,e2,e3⟩ := hf.ex
 have hd := hf.dvd
 have h4 := hb.1
 have h5 := hb.2
 simp only [List.nil_append] at e1
 subst e1
 refine ⟨by simpa using hd,by simpa using h4,fun h => ?_,e2,by simpa using e3⟩
 rw [h] at h5
 simp at h5
end
end Go.M
