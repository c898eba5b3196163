/- The walk of Names: the Go text, called in any world, returns true, and what was there when it was called is as it was. No condition. -/
import Derived.Test.YtaaepbggooiblaaProg
import Derived.Test.YtaaepbggooiblaaFwR
import Derived.RowKit3
import Derived.KernelRfl
set_option linter.unusedVariables false
set_option linter.unusedSimpArgs false
set_option maxRecDepth 100000
namespace Go.Proofs.Ytaaepbggooiblaa.names
open Go Go.W Go.RowKit
noncomputable abbrev P : Program := Try.prog

/- marshal/marshallaw.Names -/
def s3 (R : Ending → World → Prop) (w : World) : Prop :=
 BuS 3 1 [(.int .i64 0), (.int .i64 1), (.int .i64 2), (.int .i64 3), (.int .i64 4), (.int .i64 5), (.int .i64 6), (.int .i64 7), (.int .i64 8), (.int .i64 9), (.int .i64 10), (.int .i64 11), (.int .i64 12), (.int .i64 13), (.int .i64 14), (.int .i64 15), (.int .i64 16), (.int .i64 17), (.int .i64 18), (.int .i64 19), (.int .i64 20)] w fun x1 w2 =>
 BuS 3 1 [(.int .i64 1200), (.int .i64 16), (.int .i64 24), (.int .i64 40), (.int .i64 12), (.int .i64 4), (.int .i64 8), (.int .i64 1000), (.int .i64 64), (.int .i64 10000), (.int .i64 100000), (.int .i64 400), (.int .i64 1), (.int .i64 2), (.int .i64 3), (.int .i64 4)] w2 fun x3 w4 =>
 BuS 3 1 [(.int .i64 1200), (.int .i64 16), (.int .i64 24), (.int .i64 40), (.int .i64 12), (.int .i64 4), (.int .i64 8), (.int .i64 1000), (.int .i64 64), (.int .i64 10000), (.int .i64 100000), (.int .i64 400), (.int .i64 1), (.int .i64 2), (.int .i64 3), (.int .i64 4)] w4 fun x5 w6 =>
 BuS 23 1 [(.int .i64 0), (.int .i64 1), (.int .i64 2), (.int .i64 3), (.int .i64 4), (.int .i64 5), (.int .i64 6), (.int .i64 7), (.int .i64 8), (.int .i64 9), (.int .i64 10), (.int .i64 11), (.int .i64 12), (.int .i64 13), (.int .i64 14), (.int .i64 15), (.int .i64 16), (.int .i64 17), (.int .i64 18), (.int .i64 19), (.int .i64 20)] w6 fun x7 w8 =>
 Lp [(.int .i64 0)] w8 fun jk9 vals w10 C11 =>
 V1 vals fun v12 =>
 Ln false x1 fun x13 =>
 Bi .lss v12 x13 fun x14 =>
 If x14 (
 IaS 1 x7 v12 fun x15 =>
 Ld x15 w10 fun x16 =>
 Cl P 4 #[x16] w10 (pE R) fun x17 w18 =>
 IaS 1 x1 v12 fun x19 =>
 Ld x19 w18 fun x20 =>
 Bi .neq x20 v12 fun x21 =>
 Gd x21 false w18 (fun K22 => K22 x17 w18) fun x23 w24 =>
 Gd x21 false w24 (fun K25 => K25 v12 w24) fun x26 w27 =>
 Gd x21 false w27 (fun K28 => Bi .neq x23 x26 fun x29 => K28 x29 w27) fun x30 w31 =>
 Pk x21 (.bool true) x30 fun x32 =>
 If x32 (
 R (.returned (.bool false)) w31) (
 Bi .add v12 (.int .i64 1) fun x33 =>
 C11 [x33] w31)) (
 Lp [(.int .i64 0)] w10 fun jk34 vals w35 C36 =>
 V1 vals fun v37 =>
 Ln false x3 fun x38 =>
 Bi .lss v37 x38 fun x39 =>
 If x39 (
 IaS 1 x3 v37 fun x40 =>
 Ld x40 w35.drew fun x41 =>
 IaS 1 x5 v37 fun x42 =>
 Ld x42 w35.drew fun x43 =>
 Bi .neq x41 x43 fun x44 =>
 If x44 (
 R (.returned (.bool false)) w35.drew) (
 Bi .add v37 (.int .i64 1) fun x45 =>
 C36 [x45] w35.drew)) (
 R (.returned (.bool true)) w35))
theorem e3 (R : Ending → World → Prop) (w : World) : fnB P Try.f3 [5, 7] [] w R = s3 R  w := by kernel_rfl

/- marshal/marshallaw.num -/
def s4 (R : Ending → World → Prop) (a0 : Value) (w : World) : Prop :=
 R (.returned a0) w
theorem e4 (R : Ending → World → Prop) (a0 : Value) (w : World) : fnB P Try.f4 [] [a0] w R = s4 R a0 w := by kernel_rfl


theorem calls4 (a0 : Value) (w : World) : Calls P 4 #[a0] w fun e w' => e = .returned a0 ∧ w' = w :=
  calls_of_fnB (fn := Try.f4) (keep := []) (args := [a0]) Try.func4 rfl (by rw [e4]; exact ⟨rfl, rfl⟩)

theorem four (w : World) (a b c d : Obj) :
    ((((w.alloc a).alloc b).alloc c).alloc d).heap[w.heap.size]? = some a ∧
    ((((w.alloc a).alloc b).alloc c).alloc d).heap[(w.alloc a).heap.size]? = some b ∧
    ((((w.alloc a).alloc b).alloc c).alloc d).heap[((w.alloc a).alloc b).heap.size]? = some c ∧
    ((((w.alloc a).alloc b).alloc c).alloc d).heap[(((w.alloc a).alloc b).alloc c).heap.size]? = some d := by
  refine ⟨?_, ?_, ?_, ?_⟩
  · rw [heap_alloc_lt (by simp only [size_alloc]; omega), heap_alloc_lt (by simp only [size_alloc]; omega), heap_alloc_lt (by simp only [size_alloc]; omega), heap_alloc_self]
  · rw [heap_alloc_lt (by simp only [size_alloc]; omega), heap_alloc_lt (by simp only [size_alloc]; omega), heap_alloc_self]
  · rw [heap_alloc_lt (by simp only [size_alloc]; omega), heap_alloc_self]
  · rw [heap_alloc_self]

def nums : Array Value := #[.int .i64 0, .int .i64 1, .int .i64 2, .int .i64 3, .int .i64 4, .int .i64 5, .int .i64 6, .int .i64 7, .int .i64 8, .int .i64 9, .int .i64 10, .int .i64 11, .int .i64 12, .int .i64 13, .int .i64 14, .int .i64 15, .int .i64 16, .int .i64 17, .int .i64 18, .int .i64 19, .int .i64 20]
def oth : Array Value := #[(.int .i64 1200), (.int .i64 16), (.int .i64 24), (.int .i64 40), (.int .i64 12), (.int .i64 4), (.int .i64 8), (.int .i64 1000), (.int .i64 64), (.int .i64 10000), (.int .i64 100000), (.int .i64 400), (.int .i64 1), (.int .i64 2), (.int .i64 3), (.int .i64 4)]
def isI (v : Option Value) (n : Nat) : Bool := match v with | some (.int .i64 (.ofNat m)) => Nat.beq m n | _ => false
theorem isI_eq {v : Option Value} {n : Nat} (h : isI v n = true) : v = some (.int .i64 n) := by
  unfold isI at h
  split at h
  · rename_i m; rw [Nat.eq_of_beq_eq_true h]; rfl
  · cases h
theorem nums_at (i : Nat) (h : i < 21) : nums[i]? = some (.int .i64 i) := by
  have k : ((List.range 21).all fun i => isI nums[i]? i) = true := by decide +kernel
  exact isI_eq (List.all_eq_true.mp k i (List.mem_range.mpr h))
theorem oth_at (i : Nat) (h : i < 16) : ∃ n : Nat, oth[i]? = some (.int .i64 n) := by
  have k : ((List.range 16).all fun i => (List.range 100001).any fun n => isI oth[i]? n) = true := by decide +kernel
  obtain ⟨n, _, hn⟩ := List.any_eq_true.mp (List.all_eq_true.mp k i (List.mem_range.mpr h))
  exact ⟨n, isI_eq hn⟩

theorem walk0 (w : World) :
    Calls P 3 #[] w fun e w' => e = .returned (.bool true) ∧ Grown w w' := by
  refine calls_of_fnB (fn := Try.f3) (keep := [5, 7]) (args := []) Try.func3 rfl ?_
  rw [e3]
  have hR : ∀ w', Grown w w' → (fun e w' => e = .returned (.bool true) ∧ Grown w w' : Ending → World → Prop) (.returned (.bool true)) w' := fun w' h => ⟨rfl, h⟩
  generalize (fun e w' => e = .returned (.bool true) ∧ Grown w w' : Ending → World → Prop) = R at *
  unfold s3
  rw [rBuS' (c := nums) (n := 21) (by decide +kernel) (by kernel_rfl) rfl]
  rw [rBuS' (c := oth) (n := 16) (by decide +kernel) (by kernel_rfl) rfl]
  rw [rBuS' (c := oth) (n := 16) (by decide +kernel) (by kernel_rfl) rfl]
  rw [rBuS' (c := nums) (n := 21) (by decide +kernel) (by kernel_rfl) rfl]
  obtain ⟨h1, h2, h3, h4⟩ := four w (.cells nums 3) (.cells oth 3) (.cells oth 3) (.cells nums 23)
  have g8 : Grown w ((((w.alloc (.cells nums 3)).alloc (.cells oth 3)).alloc (.cells oth 3)).alloc (.cells nums 23)) := ((((Grown.refl _).alloc _ _).alloc _ _).alloc _ _).alloc _ _
  generalize ((((w.alloc (.cells nums 3)).alloc (.cells oth 3)).alloc (.cells oth 3)).alloc (.cells nums 23)) = w8 at *
  generalize (((w.alloc (.cells nums 3)).alloc (.cells oth 3)).alloc (.cells oth 3)).heap.size = b4 at *
  generalize ((w.alloc (.cells nums 3)).alloc (.cells oth 3)).heap.size = b3 at *
  generalize (w.alloc (.cells nums 3)).heap.size = b2 at *
  generalize w.heap.size = b1 at *
  refine Lp.nat (n := 21) (fun n vals w' => ∃ i : Nat, vals = [.int .i64 i] ∧ i + n = 21 ∧ w' = w8) ⟨0, rfl, by omega, rfl⟩ ?_
  rintro n _ w' jk C ⟨i, rfl, hi, rfl⟩ hC
  simp only [V1, List.getD_cons_zero, rLnL, rBlss]
  refine If.intro (fun hlt => ?_) (fun hge => ?_)
  · have hlt : i < 21 := by have := of_decide_eq_true hlt; omega
    simp only [rIaS' hlt, rLd, h4, Option.bind_some, cellAt_cells, Nat.mul_one, Nat.zero_add, nums_at i hlt]
    refine Cl.by (calls4 _ _) ?_ ?_ ?_
    · rintro v w' ⟨h, rfl⟩
      cases h
      simp only [rIaS' hlt, rLd, h1, Option.bind_some, cellAt_cells, Nat.mul_one, Nat.zero_add, nums_at i hlt, rBneq, bne_self_eq_false, rGd, if_true, rPk, rIf, Bool.false_eq_true, if_false, rBadd]
      rw [wrap_nat (n := i) (by omega)]
      exact hC (n - 1) _ _ (by omega) ⟨i + 1, rfl, by omega, rfl⟩
    · rintro _ _ ⟨h, _⟩; cases h
    · rintro _ ⟨h, _⟩; cases h
  · refine Lp.nat (n := 16) (fun n vals w' => ∃ i : Nat, vals = [.int .i64 i] ∧ i + n = 16 ∧ Grown w w' ∧ w'.heap[b2]? = some (.cells oth 3) ∧ w'.heap[b3]? = some (.cells oth 3))
      ⟨0, rfl, by omega, g8, h2, h3⟩ ?_
    rintro n _ w' jk C ⟨i, rfl, hi, hg, k2, k3⟩ hC
    simp only [V1, List.getD_cons_zero, rLnL, rBlss]
    refine If.intro (fun hlt => ?_) (fun hge => hR _ hg)
    have hlt : i < 16 := by have := of_decide_eq_true hlt; omega
    obtain ⟨m, hn⟩ := oth_at i hlt
    simp only [rIaS' hlt, rLd, heap_drew, k2, k3, Option.bind_some, cellAt_cells, Nat.mul_one, Nat.zero_add, hn, rBneq, bne_self_eq_false, rIf, Bool.false_eq_true, if_false, rBadd]
    rw [wrap_nat (n := i) (by omega)]
    exact hC (n - 1) _ _ (by omega) ⟨i + 1, rfl, by omega, hg, k2, k3⟩
end Go.Proofs.Ytaaepbggooiblaa.names
