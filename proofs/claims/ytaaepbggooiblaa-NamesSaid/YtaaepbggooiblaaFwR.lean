/- Own framework, eighth part: how the plain propositions are worked with: one rule a shape. -/
import Derived.Test.YtaaepbggooiblaaFwY
set_option linter.unusedSimpArgs false
set_option linter.unusedVariables false
namespace Go.W
open Go

def Obj.cellAt (o : Obj) (i : Nat) : Option Value := match o with | .cells c _ _ => c[i]? | _ => none
def Obj.frozenAt (o : Obj) (i : Nat) : Bool := match o with | .cells _ _ (lo, hi) => decide (lo ≤ i) && decide (i < hi) | _ => false
def Obj.put (o : Obj) (i : Nat) (v : Value) : Obj := match o with | .cells c e f => .cells (c.setIfInBounds i v) e f | o => o
theorem cellAt_cells (c : Array Value) (e : TypeId) (f : Nat × Nat) (i : Nat) : Obj.cellAt (.cells c e f) i = c[i]? := rfl
theorem frozenAt_cells (c : Array Value) (e : TypeId) (i : Nat) : Obj.frozenAt (.cells c e (0, 0)) i = false := by simp [Obj.frozenAt]
theorem put_cells (c : Array Value) (e : TypeId) (f : Nat × Nat) (i : Nat) (v : Value) : Obj.put (.cells c e f) i v = .cells (c.setIfInBounds i v) e f := rfl
theorem cell_eq (w : World) (b o : Nat) : w.cell? ⟨b, o, none⟩ = (w.heap[b]?).bind (Obj.cellAt · o) := by
  unfold World.cell?
  cases w.heap[b]? with
  | none => rfl
  | some x => cases x <;> rfl
theorem frozen_eq (w : World) (b o : Nat) : w.frozen? ⟨b, o, none⟩ = ((w.heap[b]?).map (Obj.frozenAt · o)).getD false := by
  unfold World.frozen?
  cases w.heap[b]? with
  | none => rfl
  | some x => cases x <;> rfl
theorem add_eq (b o n : Nat) : (⟨b, o, none⟩ : Addr).add n = ⟨b, o + n, none⟩ := by simp [Addr.add]
/-! worlds -/
theorem heap_set (w : World) (b o b' : Nat) (v : Value) : (w.setCell ⟨b, o, none⟩ v).heap[b']? = if b = b' then (w.heap[b']?).map (Obj.put · o v) else w.heap[b']? := by
  simp only [World.setCell, Array.getElem?_modify]
  by_cases h : b = b'
  · subst h
    simp only [if_true]
    cases w.heap[b]? with
    | none => rfl
    | some x => cases x <;> rfl
  · simp [h]
theorem heap_set_same (w : World) (b o : Nat) (v : Value) : (w.setCell ⟨b, o, none⟩ v).heap[b]? = (w.heap[b]?).map (Obj.put · o v) := by rw [heap_set, if_pos rfl]
theorem heap_set_ne {w : World} {b o b' : Nat} {v : Value} (h : b ≠ b') : (w.setCell ⟨b, o, none⟩ v).heap[b']? = w.heap[b']? := by rw [heap_set, if_neg h]
theorem heap_alloc (w : World) (o : Obj) (b : Nat) : (w.alloc o).heap[b]? = if b = w.heap.size then some o else w.heap[b]? := by
  simp only [World.alloc, Array.getElem?_push]
theorem heap_alloc_self (w : World) (o : Obj) : (w.alloc o).heap[w.heap.size]? = some o := by rw [heap_alloc, if_pos rfl]
theorem heap_alloc_eq {w : World} {o : Obj} {b : Nat} (h : b = w.heap.size) : (w.alloc o).heap[b]? = some o := by rw [heap_alloc, if_pos h]
theorem heap_alloc_lt {w : World} {o : Obj} {b : Nat} (h : b < w.heap.size) : (w.alloc o).heap[b]? = w.heap[b]? := by rw [heap_alloc, if_neg (by omega)]
theorem heap_drew (w : World) (b : Nat) : w.drew.heap[b]? = w.heap[b]? := rfl
theorem heap_setObj_same {w : World} {b : Nat} {o o' : Obj} (h : w.heap[b]? = some o') : (setObjW w b o).heap[b]? = some o := by
  have : b < w.heap.size := by
    rcases Nat.lt_or_ge b w.heap.size with h' | h'
    · exact h'
    · simp [Array.getElem?_eq_none h'] at h
  simp [setObjW, this]
theorem heap_setObj_ne {w : World} {b b' : Nat} {o : Obj} (h : b ≠ b') : (setObjW w b o).heap[b']? = w.heap[b']? := by
  simp [setObjW, Array.getElem?_setIfInBounds_ne h]
theorem size_setObj (w : World) (b : Nat) (o : Obj) : (setObjW w b o).heap.size = w.heap.size := by simp [setObjW]
theorem lt_of_heap {w : World} {b : Nat} {o : Obj} (h : w.heap[b]? = some o) : b < w.heap.size := by
  rcases Nat.lt_or_ge b w.heap.size with h' | h'
  · exact h'
  · simp [Array.getElem?_eq_none h'] at h

/-! the rules -/
section
variable {w : World} {P : Program} {E : KE}
theorem rNk (a : Addr) (K : Value → Prop) : Nk (.pointer (some a)) K = K (.pointer (some a)) := propext ⟨fun h => h.out, fun h => ⟨h⟩⟩
theorem rNkI (t : TypeId) (v : Value) (K : Value → Prop) : Nk (.iface t v) K = K (.iface t v) := propext ⟨fun h => h.out, fun h => ⟨h⟩⟩
theorem rNkF (f : FuncId) (x y : Array Value) (K : Value → Prop) : Nk (.func (.func f) x y) K = K (.func (.func f) x y) := propext ⟨fun h => h.out, fun h => ⟨h⟩⟩
theorem rFa (b o n : Nat) (K : Value → Prop) : Fa (.pointer (some ⟨b, o, none⟩)) n K = K (.pointer (some ⟨b, o + n, none⟩)) :=
  propext ⟨fun h => by have := h.out; simp only [FaD, add_eq] at this; exact this, fun h => ⟨by simp only [FaD, add_eq]; exact h⟩⟩
theorem rLd (b o : Nat) (K : Value → Prop) : Ld (.pointer (some ⟨b, o, none⟩)) w K = (match (w.heap[b]?).bind (Obj.cellAt · o) with | some x => K x | none => False) :=
  propext ⟨fun h => by have := h.out; simp only [LdD, cell_eq] at this; exact this, fun h => ⟨by simp only [LdD, cell_eq]; exact h⟩⟩
theorem cellsAt_eq (b o : Nat) (c : Array Value) (e : TypeId) (f : Nat × Nat) (h : w.heap[b]? = some (.cells c e f)) : ∀ (n i : Nat), o + i + n ≤ c.size →
    cellsAt w ⟨b, o, none⟩ i n = some ((c.toList.drop (o + i)).take n) := by
  intro n
  induction n with
  | zero => intro i _; simp [cellsAt]
  | succ n ih =>
    intro i hi
    have hlt : o + i < c.toList.length := by simp; omega
    rw [cellsAt, ih (i + 1) (by omega), add_eq, cell_eq, h, Option.bind_some, cellAt_cells]
    rw [List.drop_eq_getElem_cons hlt, List.take_succ_cons]
    have : c[o + i]? = some c.toList[o + i] := by
      rw [← Array.getElem?_toList]; exact List.getElem?_eq_getElem hlt
    rw [this]
    rfl
/-- a whole value out of a block that is known whole -/
theorem rLdN {b o n : Nat} {c : Array Value} {e : TypeId} {f : Nat × Nat} {K : Value → Prop} (h : w.heap[b]? = some (.cells c e f)) (hn : o + n ≤ c.size) :
    LdN (.pointer (some ⟨b, o, none⟩)) n w K = K (.agg ((c.toList.drop o).take n).toArray) := by
  have hc := cellsAt_eq b o c e f h n 0 (by omega)
  exact propext ⟨fun hh => by have := hh.out; simp only [LdND, hc] at this; exact this, fun hh => ⟨by simp only [LdND, hc]; exact hh⟩⟩
theorem rSt {b o : Nat} {x y : Value} {K : World → Prop} (hx : x.oneCell' = true) (h : (w.heap[b]?).bind (Obj.cellAt · o) = some y) (hf : w.frozen? ⟨b, o, none⟩ = false) :
    St (.pointer (some ⟨b, o, none⟩)) x w K = K (w.setCell ⟨b, o, none⟩ x) := by
  rw [← cell_eq] at h
  exact propext ⟨fun hh => (hh.out).2.2.2, fun hh => ⟨⟨hx, ⟨y, h⟩, hf, hh⟩⟩⟩
theorem rSt' (b o : Nat) (x : Value) (K : World → Prop) : St (.pointer (some ⟨b, o, none⟩)) x w K =
    (x.oneCell' = true ∧ (∃ y, (w.heap[b]?).bind (Obj.cellAt · o) = some y) ∧ ((w.heap[b]?).map (Obj.frozenAt · o)).getD false = false ∧ K (w.setCell ⟨b, o, none⟩ x)) := by
  refine propext ⟨fun hh => ?_, fun hh => ⟨?_⟩⟩
  · have := hh.out; simp only [StD, cell_eq, frozen_eq] at this; exact this
  · simp only [StD, cell_eq, frozen_eq]; exact hh
theorem rNw (t : TypeId) (v : Value) (K : KV) : Nw t v w K = K (.pointer (some ⟨w.heap.size, 0, none⟩)) (w.alloc (.cells v.cells t)) := propext ⟨fun h => h.out, fun h => ⟨h⟩⟩
theorem rBu (z : Value) (ps : List (Nat × Nat × Value)) (K : Value → Prop) : Bu z ps K = (match fillAll z.cells.toList ps with | some cells => K (.agg cells.toArray) | none => False) :=
  propext ⟨fun h => h.out, fun h => ⟨h⟩⟩
theorem rBuS (e m : Nat) (vals : List Value) (K : KV) : BuS e m vals w K = ((∀ v ∈ vals, v.cells.size = m) ∧
    K (.slice (some ⟨w.heap.size, 0, none⟩) vals.length vals.length) (w.alloc (.cells (vals.flatMap (·.cells.toList)).toArray e))) := propext ⟨fun h => h.out, fun h => ⟨h⟩⟩
theorem rBi (op : BinOp) (k : IntKind) (a b : Int) (K : Value → Prop) : Bi op (.int k a) (.int k b) K = (match binI op k a b with | some v => K v | none => False) :=
  propext ⟨fun h => h.out.2, fun h => ⟨rfl, h⟩⟩
theorem rBadd (k : IntKind) (a b : Int) (K : Value → Prop) : Bi .add (.int k a) (.int k b) K = K (.int k (k.wrap (a + b))) := rBi ..
theorem rBsub (k : IntKind) (a b : Int) (K : Value → Prop) : Bi .sub (.int k a) (.int k b) K = K (.int k (k.wrap (a - b))) := rBi ..
theorem rBmul (k : IntKind) (a b : Int) (K : Value → Prop) : Bi .mul (.int k a) (.int k b) K = K (.int k (k.wrap (a * b))) := rBi ..
theorem rBeql (k : IntKind) (a b : Int) (K : Value → Prop) : Bi .eql (.int k a) (.int k b) K = K (.bool (a == b)) := rBi ..
theorem rBneq (k : IntKind) (a b : Int) (K : Value → Prop) : Bi .neq (.int k a) (.int k b) K = K (.bool (a != b)) := rBi ..
theorem rBlss (k : IntKind) (a b : Int) (K : Value → Prop) : Bi .lss (.int k a) (.int k b) K = K (.bool (decide (a < b))) := rBi ..
theorem rBleq (k : IntKind) (a b : Int) (K : Value → Prop) : Bi .leq (.int k a) (.int k b) K = K (.bool (decide (a ≤ b))) := rBi ..
theorem rBgtr (k : IntKind) (a b : Int) (K : Value → Prop) : Bi .gtr (.int k a) (.int k b) K = K (.bool (decide (a > b))) := rBi ..
theorem rBgeq (k : IntKind) (a b : Int) (K : Value → Prop) : Bi .geq (.int k a) (.int k b) K = K (.bool (decide (a ≥ b))) := rBi ..
theorem rBs_eql (a b : ByteArray) (K : Value → Prop) : Bs .eql (.string a) (.string b) K = K (.bool (a.toList == b.toList)) := propext ⟨fun h => h.out, fun h => ⟨h⟩⟩
theorem rBs_neq (a b : ByteArray) (K : Value → Prop) : Bs .neq (.string a) (.string b) K = K (.bool !(a.toList == b.toList)) := propext ⟨fun h => h.out, fun h => ⟨h⟩⟩
theorem rBs_add {a b : ByteArray} {K : Value → Prop} (h : a.size + b.size ≤ 9223372036854775807) : Bs .add (.string a) (.string b) K = K (.string (a ++ b)) := by
  have : ¬ IntKind.i64.max < ((a.size + b.size : Nat) : Int) := by simp only [IntKind.max_i64]; omega
  refine propext ⟨fun hh => ?_, fun hh => ⟨?_⟩⟩
  · have := hh.out; simp only [BsD, binS] at this; rw [if_neg (by assumption)] at this; exact this
  · simp only [BsD, binS]; rw [if_neg (by assumption)]; exact hh
theorem rEnP (a : Option Addr) (ng : Bool) (K : Value → Prop) : En .ptr ng (.pointer a) K = K (.bool (a.isNone != ng)) := propext ⟨fun h => h.out, fun h => ⟨h⟩⟩
theorem rEnI0 (ng : Bool) (K : Value → Prop) : En .ifc ng .nilIface K = K (.bool (true != ng)) := propext ⟨fun h => h.out, fun h => ⟨h⟩⟩
theorem rEnI (t : TypeId) (v : Value) (ng : Bool) (K : Value → Prop) : En .ifc ng (.iface t v) K = K (.bool (false != ng)) := propext ⟨fun h => h.out, fun h => ⟨h⟩⟩
theorem rEnF0 (ng : Bool) (K : Value → Prop) : En .fn ng .nilFunc K = K (.bool (true != ng)) := propext ⟨fun h => h.out, fun h => ⟨h⟩⟩
theorem rEnF (f : Fn) (x y : Array Value) (ng : Bool) (K : Value → Prop) : En .fn ng (.func f x y) K = K (.bool (false != ng)) := propext ⟨fun h => h.out, fun h => ⟨h⟩⟩
theorem rEnM (r : Option Nat) (ng : Bool) (K : Value → Prop) : En .map ng (.map r) K = K (.bool (r.isNone != ng)) := propext ⟨fun h => h.out, fun h => ⟨h⟩⟩
theorem rEnS (a : Option Addr) (n c : Nat) (ng : Bool) (K : Value → Prop) : En .slc ng (.slice a n c) K = K (.bool (a.isNone != ng)) := propext ⟨fun h => h.out, fun h => ⟨h⟩⟩
theorem rEb (a b ng : Bool) (K : Value → Prop) : Eb ng (.bool a) (.bool b) K = K (.bool ((a == b) != ng)) := propext ⟨fun h => h.out, fun h => ⟨h⟩⟩
theorem rNt (b : Bool) (K : Value → Prop) : Nt (.bool b) K = K (.bool !b) := propext ⟨fun h => h.out, fun h => ⟨h⟩⟩
theorem rNg (k : IntKind) (n : Int) (K : Value → Prop) : Ng (.int k n) K = K (.int k (k.wrap (0 - n))) := propext ⟨fun h => h.out, fun h => ⟨h⟩⟩
theorem rCv (k k' : IntKind) (n : Int) (K : Value → Prop) : Cv k (.int k' n) K = K (.int k (k.wrap n)) := propext ⟨fun h => h.out, fun h => ⟨h⟩⟩
theorem rCvS (s : ByteArray) (K : Value → Prop) : CvS (.string s) K = K (.string s) := propext ⟨fun h => h.out, fun h => ⟨h⟩⟩
theorem rIaS {a : Addr} {m len cap : Nat} {k : IntKind} {i : Int} {K : Value → Prop} (h0 : 0 ≤ i) (h1 : i < len) :
    IaS m (.slice (some a) len cap) (.int k i) K = K (.pointer (some (a.add (i.toNat * m)))) := propext ⟨fun h => h.out.2.2, fun h => ⟨h0, h1, h⟩⟩
theorem rIaA {a : Addr} {l m : Nat} {k : IntKind} {i : Int} {K : Value → Prop} (h0 : 0 ≤ i) (h1 : i < l) :
    IaA l m (.pointer (some a)) (.int k i) K = K (.pointer (some (a.add (i.toNat * m)))) := propext ⟨fun h => h.out.2.2, fun h => ⟨h0, h1, h⟩⟩
theorem rIxS {s : ByteArray} {k : IntKind} {i : Int} {K : Value → Prop} (h0 : 0 ≤ i) (h1 : i.toNat < s.size) :
    IxS (.string s) (.int k i) K = K (.int .u8 (s[i.toNat].toNat : Nat)) := by
  have h2 : s[i.toNat]? = some s[i.toNat] := by
    rw [getElem?_pos s i.toNat h1]
  refine propext ⟨fun h => ?_, fun h => ⟨h0, ?_⟩⟩
  · have := h.out.2; rw [h2] at this; exact this
  · rw [h2]; exact h
theorem rEx (vs : Array Value) (i : Nat) (K : Value → Prop) : Ex (.tuple vs) i K = (match vs[i]? with | some v => K v | none => False) := propext ⟨fun h => h.out, fun h => ⟨h⟩⟩
theorem rPk (t : Bool) (a b : Value) (K : Value → Prop) : Pk (.bool t) a b K = K (if t then a else b) := propext ⟨fun h => h.out, fun h => ⟨h⟩⟩
theorem rLnS (s : ByteArray) (K : Value → Prop) : Ln true (.string s) K = K (.int .i64 s.size) := propext ⟨fun h => h.out, fun h => ⟨h⟩⟩
theorem rLnL (a : Option Addr) (n c : Nat) (K : Value → Prop) : Ln false (.slice a n c) K = K (.int .i64 n) := propext ⟨fun h => h.out, fun h => ⟨h⟩⟩
theorem rTa (t u : TypeId) (z v : Value) (K : Value → Prop) : Ta t z (.iface u v) K = K (if u = t then .tuple #[v, .bool true] else .tuple #[z, .bool false]) := propext ⟨fun h => h.out, fun h => ⟨h⟩⟩
theorem rTa0 (t : TypeId) (z : Value) (K : Value → Prop) : Ta t z .nilIface K = K (.tuple #[z, .bool false]) := propext ⟨fun h => h.out, fun h => ⟨h⟩⟩
theorem rTa1 (t : TypeId) (v : Value) (K : Value → Prop) : Ta1 t (.iface t v) K = K v := propext ⟨fun h => h.out.2, fun h => ⟨rfl, h⟩⟩
theorem rMm (K : KV) : Mm w K = K (.map (some w.heap.size)) (w.alloc (.map #[] 0)) := propext ⟨fun h => h.out, fun h => ⟨h⟩⟩
theorem rPn (t : TypeId) (v : Value) : Pn (.iface t v) w E = E [{ v := .iface t v, recovered := false }] w := propext ⟨fun h => h.out, fun h => ⟨h⟩⟩
theorem rGd (b want : Bool) (A : KV → Prop) (K : KV) : Gd (.bool b) want w A K = (if b = want then A K else K undef w) := propext ⟨fun h => h.out, fun h => ⟨h⟩⟩
theorem rIf (b : Bool) (A B : Prop) : If (.bool b) A B = (if b = true then A else B) := propext ⟨fun h => h.out, fun h => ⟨h⟩⟩
theorem If.intro {b : Bool} {A B : Prop} (h1 : b = true → A) (h2 : b = false → B) : If (.bool b) A B := by
  rw [rIf]
  cases b
  · exact h2 rfl
  · exact h1 rfl
theorem Jn.direct {A : (List Value → World → Prop) → Prop} {B : (Nat → Value) → List Value → World → Prop} (h : A fun vals w => ∀ jk, B jk vals w) : Jn A B :=
  ⟨_, h, fun _ _ jk hh => hh jk⟩
theorem Jn.cut {A : (List Value → World → Prop) → Prop} {B : (Nat → Value) → List Value → World → Prop} (J : List Value → World → Prop) (h : A J) (h2 : ∀ vals w jk, J vals w → B jk vals w) : Jn A B :=
  ⟨J, h, h2⟩
theorem Lp.intro {init : List Value} {w : World} {body : (Nat → Value) → List Value → World → (List Value → World → Prop) → Prop} (J : List Value → World → Prop) (μ : List Value → World → Nat)
    (h0 : J init w) (h : ∀ vals w jk, J vals w → body jk vals w fun vals' w' => J vals' w' ∧ μ vals' w' < μ vals w) : Lp init w body := ⟨J, μ, h0, h⟩
/-- the same, with what comes after kept shut -/
theorem Lp.nat {init : List Value} {w : World} {body : (Nat → Value) → List Value → World → (List Value → World → Prop) → Prop} (I : Nat → List Value → World → Prop) {n : Nat}
    (h0 : I n init w) (h : ∀ n vals w jk (C : List Value → World → Prop), I n vals w → (∀ m vals' w', m < n → I m vals' w' → C vals' w') → body jk vals w C) : Lp init w body := by
  classical
  let J : List Value → World → Prop := fun vals w => ∃ n, I n vals w
  let least : ∀ vals w, J vals w → ∃ n, I n vals w ∧ ∀ m, I m vals w → n ≤ m := by
    rintro vals w ⟨n, hn⟩
    induction n using Nat.strongRecOn with
    | _ n ih =>
      by_cases hm : ∃ m, m < n ∧ I m vals w
      · obtain ⟨m, hm, hi⟩ := hm; exact ih m hm hi
      · exact ⟨n, hn, fun m hi => by
          rcases Nat.lt_or_ge m n with h | h
          · exact absurd ⟨m, h, hi⟩ hm
          · exact h⟩
  let μ : List Value → World → Nat := fun vals w => if hj : J vals w then Classical.choose (least vals w hj) else 0
  have hμ : ∀ vals w (hj : J vals w), I (μ vals w) vals w ∧ ∀ m, I m vals w → μ vals w ≤ m := by
    intro vals w hj
    have := Classical.choose_spec (least vals w hj)
    simp only [μ, dif_pos hj]
    exact this
  refine ⟨J, μ, ⟨n, h0⟩, fun vals w jk hj => ?_⟩
  refine h (μ vals w) vals w jk _ (hμ vals w hj).1 fun m vals' w' hm hi => ⟨⟨m, hi⟩, ?_⟩
  exact Nat.lt_of_le_of_lt ((hμ vals' w' ⟨m, hi⟩).2 m hi) hm
theorem Jn.by {A : (List Value → World → Prop) → Prop} {B : (Nat → Value) → List Value → World → Prop} (I : List Value → World → Prop)
    (h : ∀ J : List Value → World → Prop, (∀ vals w, I vals w → J vals w) → A J) (h2 : ∀ vals w jk, I vals w → B jk vals w) : Jn A B :=
  ⟨I, h I (fun _ _ h => h), h2⟩
theorem rBuS' {w : World} {e m : Nat} {vals : List Value} {K : KV} {c : Array Value} {n : Nat} (h1 : (vals.all fun v => Nat.beq v.cells.size m) = true)
    (h2 : (vals.flatMap (·.cells.toList)).toArray = c) (h3 : vals.length = n) :
    BuS e m vals w K = K (.slice (some ⟨w.heap.size, 0, none⟩) n n) (w.alloc (.cells c e)) := by
  rw [rBuS, h2, h3]
  refine propext ⟨fun h => h.2, fun h => ⟨fun v hv => ?_, h⟩⟩
  exact Nat.eq_of_beq_eq_true (List.all_eq_true.mp h1 v hv)
theorem size_alloc (w : World) (o : Obj) : (w.alloc o).heap.size = w.heap.size + 1 := by simp only [World.alloc, Array.size_push]
theorem size_set (w : World) (a : Addr) (v : Value) : (w.setCell a v).heap.size = w.heap.size := by simp only [World.setCell, Array.size_modify]
theorem rIaS' {b o m len cap : Nat} {k : IntKind} {i : Nat} {K : Value → Prop} (h1 : i < len) :
    IaS m (.slice (some ⟨b, o, none⟩) len cap) (.int k (i : Nat)) K = K (.pointer (some ⟨b, o + i * m, none⟩)) := by
  rw [rIaS (by omega) (by omega), add_eq, Int.toNat_natCast]
theorem wrap_id {x : Int} (h0 : -9223372036854775808 ≤ x) (h1 : x ≤ 9223372036854775807) : IntKind.i64.wrap x = x := by
  rw [IntKind.wrap_i64]; omega
theorem wrap_nat {n : Nat} (h : n < 9223372036854775807) : IntKind.i64.wrap ((n : Int) + 1) = ((n + 1 : Nat) : Int) := by
  rw [wrap_id (by omega) (by omega)]; rfl
/-- a call by a contract: what comes back normally, and what panics -/
theorem Cl.by {f : FuncId} {args : Array Value} {K : KV} {R : Ending → World → Prop} (h : Calls P f args w R) (hr : ∀ v w', R (.returned v) w' → K v w')
    (hp : ∀ ch w', R (.panicked ch) w' → E ch w') (ho : ∀ w', ¬ R .outgrown w') : Cl P f args w E K :=
  ⟨h.mono fun e w' he => by
    cases e with
    | returned v => exact hr v w' he
    | panicked ch => exact hp ch w' he
    | outgrown => exact ho w' he⟩
end
end Go.W
