/- Own framework, fifth part: pieces of code, and whole functions. -/
import Derived.Test.YtaaepbggooiblaaFwU
import Derived.RegionTactic
set_option linter.unusedSimpArgs false
set_option linter.unusedVariables false
namespace Go.W
open Go
section
variable {P : Program} {n : Nat} {ds : List Deferred} {ops : Array Oper} {E : KE} {Q' : Exit → Act → World → Prop}

theorem ev_const (n : Nat) (ρ : Fr) (v : Value) : ev n ρ (.const v) = v := rfl
theorem ev_func (n : Nat) (ρ : Fr) (f : FuncId) : ev n ρ (.func f) = .func (.func f) #[] #[] := rfl

theorem upd_other {ρ : Fr} {d : Option Tmp} {v : Value} {i : Nat} (h : ∀ e, d = some e → i ≠ e) : upd ρ d v i = ρ i := by
  cases d with
  | none => rfl
  | some e =>
    have : Nat.beq i e = false := Bool.eq_false_iff.2 fun hb => h e rfl (Nat.eq_of_beq_eq_true hb)
    simp [upd, this]

/-- one operation, as the kit steps through a region -/
theorem guarded_sound {o : Oper} {ρ : Fr} {w : World} {A : KV → Prop} {K : KV} {next : Act → World → Prop}
    (h : guarded n ops o ρ w A K)
    (hA1 : ∀ K' : KV, A K' → (∀ v w', K' v w' → next (act n (upd ρ o.dst v) ds) w') → o.wp P (act n ρ ds) w next Q')
    (hK : ∀ v w', K v w' → next (act n (upd ρ o.dst v) ds) w') :
    if Region.wanted o (yielded ops (act n ρ ds).tmps) then o.wp P (act n ρ ds) w next Q' else next ((act n ρ ds).put o.dst undef) w := by
  unfold guarded at h
  split at h
  · rename_i hg
    simp only [Region.wanted, hg, if_true]
    exact hA1 K h hK
  · rename_i j want hg
    simp only [Region.wanted, hg, gval_yielded]
    replace h := h.out; unfold GdD at h
    split at h
    · rename_i b hb
      simp only [hb]
      split at h
      · rename_i hbw
        subst hbw
        simp only [beq_self_eq_true, if_true]
        exact hA1 K h hK
      · rename_i hbw
        have : ((some b == some want) : Bool) = false := by simpa using hbw
        simp only [this, Bool.false_eq_true, if_false]
        rw [act_put]
        exact hK _ _ h
    · rename_i hb
      have : ((match gval n ρ ops j with | .bool b => some b | _ => none) == some want) = false := by
        split
        · rename_i b hb'; exact absurd hb' (hb b)
        · rfl
      simp only [this, Bool.false_eq_true, if_false]
      rw [act_put]
      exact hK _ _ h
theorem op_sound {o : Oper} {ρ : Fr} {w : World} {K : KV} {next : Act → World → Prop} (hE : ∀ ch w' ρ', E ch w' → Q' (.panic ch) (act n ρ' ds) w')
    (h : opW P o (ev n ρ) w E K) (hK : ∀ v w', K v w' → next (act n (upd ρ o.dst v) ds) w') : o.wp P (act n ρ ds) w next Q' :=
  opW_sound (act_eval n ρ ds) (ev_const n ρ) (ev_func n ρ) h (fun v w' hk => by rw [act_put]; exact hK v w' hk) (fun ch w' he => hE ch w' ρ he)

/-- a region in the text's order -/
theorem opsW_sound {S : List Nat} (hE : ∀ ch w' ρ', E ch w' → Q' (.panic ch) (act n ρ' ds) w') : ∀ (l : List Oper) (Q : Fr → World → Prop) (ρ : Fr) (w : World),
    (∀ o ∈ l, ∀ d, o.dst = some d → d ∈ S) → (∀ ρ' w', (∀ i, i ∉ S → ρ' i = ρ i) → Q ρ' w' → Q' .normal (act n ρ' ds) w') → opsW P n ops E l Q ρ w → wpList P ops Q' l (act n ρ ds) w := by
  intro l
  induction l with
  | nil => intro Q ρ w _ hQ h; exact hQ _ _ (fun _ _ => rfl) h
  | cons o rest ih =>
    intro Q ρ w hS hQ h
    simp only [opsW] at h
    refine wpList_step fun K hK => ?_
    refine guarded_sound (K := fun v w' => opsW P n ops E rest Q (upd ρ o.dst v) w') h ?_ ?_
    · intro K' hA hK'
      exact op_sound hE hA hK'
    · intro v w' h'
      refine hK _ _ (ih Q _ w' (fun o' ho' => hS o' (List.mem_cons_of_mem _ ho')) (fun ρ' w'' hag hq => hQ ρ' w'' (fun i hi => ?_) hq) h')
      rw [hag i hi]
      exact upd_other (fun d hd => by rintro rfl; exact hi (hS o (List.mem_cons_self ..) _ hd))

/-! ### a region that draws its order -/
/-! one value -/
theorem f_Nk (v : Value) {K : Value → Prop} (h : Nk v K) : ∃ r, K r ∧ Nk v fun x => x = r := by
  suffices hs : ∃ r, K r ∧ NkD v fun x => x = r from let ⟨r, h1, h2⟩ := hs; ⟨r, h1, ⟨h2⟩⟩
  replace h := h.out; unfold NkD at h ⊢
  (repeat' split at h) <;> simp_all
theorem f_Fa (v : Value) (off : Nat) {K : Value → Prop} (h : Fa v off K) : ∃ r, K r ∧ Fa v off fun x => x = r := by
  suffices hs : ∃ r, K r ∧ FaD v off fun x => x = r from let ⟨r, h1, h2⟩ := hs; ⟨r, h1, ⟨h2⟩⟩
  replace h := h.out; unfold FaD at h ⊢
  (repeat' split at h) <;> simp_all
theorem f_Ld (v : Value) (w : World) {K : Value → Prop} (h : Ld v w K) : ∃ r, K r ∧ Ld v w fun x => x = r := by
  suffices hs : ∃ r, K r ∧ LdD v w fun x => x = r from let ⟨r, h1, h2⟩ := hs; ⟨r, h1, ⟨h2⟩⟩
  replace h := h.out; unfold LdD at h ⊢
  (repeat' split at h) <;> simp_all
theorem f_LdN (v : Value) (m : Nat) (w : World) {K : Value → Prop} (h : LdN v m w K) : ∃ r, K r ∧ LdN v m w fun x => x = r := by
  suffices hs : ∃ r, K r ∧ LdND v m w fun x => x = r from let ⟨r, h1, h2⟩ := hs; ⟨r, h1, ⟨h2⟩⟩
  replace h := h.out; unfold LdND at h ⊢
  (repeat' split at h) <;> simp_all
theorem f_Bu (z : Value) (ps : List (Nat × Nat × Value)) {K : Value → Prop} (h : Bu z ps K) : ∃ r, K r ∧ Bu z ps fun x => x = r := by
  suffices hs : ∃ r, K r ∧ BuD z ps fun x => x = r from let ⟨r, h1, h2⟩ := hs; ⟨r, h1, ⟨h2⟩⟩
  replace h := h.out; unfold BuD at h ⊢
  (repeat' split at h) <;> simp_all
theorem f_Bi (op : BinOp) (x y : Value) {K : Value → Prop} (h : Bi op x y K) : ∃ r, K r ∧ Bi op x y fun x => x = r := by
  suffices hs : ∃ r, K r ∧ BiD op x y fun x => x = r from let ⟨r, h1, h2⟩ := hs; ⟨r, h1, ⟨h2⟩⟩
  replace h := h.out; unfold BiD at h ⊢
  (repeat' split at h) <;> simp_all
theorem f_Sh (op : BinOp) (x y : Value) {K : Value → Prop} (h : Sh op x y K) : ∃ r, K r ∧ Sh op x y fun x => x = r := by
  suffices hs : ∃ r, K r ∧ ShD op x y fun x => x = r from let ⟨r, h1, h2⟩ := hs; ⟨r, h1, ⟨h2⟩⟩
  replace h := h.out; unfold ShD at h ⊢
  (repeat' split at h) <;> simp_all
theorem f_Bs (op : BinOp) (x y : Value) {K : Value → Prop} (h : Bs op x y K) : ∃ r, K r ∧ Bs op x y fun x => x = r := by
  suffices hs : ∃ r, K r ∧ BsD op x y fun x => x = r from let ⟨r, h1, h2⟩ := hs; ⟨r, h1, ⟨h2⟩⟩
  replace h := h.out; unfold BsD at h ⊢
  (repeat' split at h) <;> simp_all
theorem f_En (k : NK) (b : Bool) (x : Value) {K : Value → Prop} (h : En k b x K) : ∃ r, K r ∧ En k b x fun x => x = r := by
  suffices hs : ∃ r, K r ∧ EnD k b x fun x => x = r from let ⟨r, h1, h2⟩ := hs; ⟨r, h1, ⟨h2⟩⟩
  replace h := h.out; unfold EnD at h ⊢
  (repeat' split at h) <;> simp_all
theorem f_Eb (b : Bool) (x y : Value) {K : Value → Prop} (h : Eb b x y K) : ∃ r, K r ∧ Eb b x y fun x => x = r := by
  suffices hs : ∃ r, K r ∧ EbD b x y fun x => x = r from let ⟨r, h1, h2⟩ := hs; ⟨r, h1, ⟨h2⟩⟩
  replace h := h.out; unfold EbD at h ⊢
  (repeat' split at h) <;> simp_all
theorem f_Nt (x : Value) {K : Value → Prop} (h : Nt x K) : ∃ r, K r ∧ Nt x fun x => x = r := by
  suffices hs : ∃ r, K r ∧ NtD x fun x => x = r from let ⟨r, h1, h2⟩ := hs; ⟨r, h1, ⟨h2⟩⟩
  replace h := h.out; unfold NtD at h ⊢
  (repeat' split at h) <;> simp_all
theorem f_Ng (x : Value) {K : Value → Prop} (h : Ng x K) : ∃ r, K r ∧ Ng x fun x => x = r := by
  suffices hs : ∃ r, K r ∧ NgD x fun x => x = r from let ⟨r, h1, h2⟩ := hs; ⟨r, h1, ⟨h2⟩⟩
  replace h := h.out; unfold NgD at h ⊢
  (repeat' split at h) <;> simp_all
theorem f_Cv (k : IntKind) (x : Value) {K : Value → Prop} (h : Cv k x K) : ∃ r, K r ∧ Cv k x fun x => x = r := by
  suffices hs : ∃ r, K r ∧ CvD k x fun x => x = r from let ⟨r, h1, h2⟩ := hs; ⟨r, h1, ⟨h2⟩⟩
  replace h := h.out; unfold CvD at h ⊢
  (repeat' split at h) <;> simp_all
theorem f_CvS (x : Value) {K : Value → Prop} (h : CvS x K) : ∃ r, K r ∧ CvS x fun x => x = r := by
  suffices hs : ∃ r, K r ∧ CvSD x fun x => x = r from let ⟨r, h1, h2⟩ := hs; ⟨r, h1, ⟨h2⟩⟩
  replace h := h.out; unfold CvSD at h ⊢
  (repeat' split at h) <;> simp_all
theorem f_CvB (x : Value) (w : World) {K : Value → Prop} (h : CvB x w K) : ∃ r, K r ∧ CvB x w fun x => x = r := by
  suffices hs : ∃ r, K r ∧ CvBD x w fun x => x = r from let ⟨r, h1, h2⟩ := hs; ⟨r, h1, ⟨h2⟩⟩
  replace h := h.out; unfold CvBD at h ⊢
  (repeat' split at h) <;> simp_all
theorem f_SlS (x : Value) (lo hi : Option Value) {K : Value → Prop} (h : SlS x lo hi K) : ∃ r, K r ∧ SlS x lo hi fun x => x = r := by
  suffices hs : ∃ r, K r ∧ SlSD x lo hi fun x => x = r from let ⟨r, h1, h2⟩ := hs; ⟨r, h1, ⟨h2⟩⟩
  replace h := h.out; unfold SlSD at h ⊢
  (repeat' split at h) <;> simp_all
theorem f_SlL (m : Nat) (x : Value) (lo hi : Option Value) {K : Value → Prop} (h : SlL m x lo hi K) : ∃ r, K r ∧ SlL m x lo hi fun x => x = r := by
  suffices hs : ∃ r, K r ∧ SlLD m x lo hi fun x => x = r from let ⟨r, h1, h2⟩ := hs; ⟨r, h1, ⟨h2⟩⟩
  replace h := h.out; unfold SlLD at h ⊢
  (repeat' split at h) <;> simp_all
theorem f_IxS (x i : Value) {K : Value → Prop} (h : IxS x i K) : ∃ r, K r ∧ IxS x i fun x => x = r := by
  suffices hs : ∃ r, K r ∧ IxSD x i fun x => x = r from let ⟨r, h1, h2⟩ := hs; ⟨r, h1, ⟨h2⟩⟩
  replace h := h.out; unfold IxSD at h ⊢
  (repeat' split at h) <;> simp_all
theorem f_IaS (m : Nat) (x i : Value) {K : Value → Prop} (h : IaS m x i K) : ∃ r, K r ∧ IaS m x i fun x => x = r := by
  suffices hs : ∃ r, K r ∧ IaSD m x i fun x => x = r from let ⟨r, h1, h2⟩ := hs; ⟨r, h1, ⟨h2⟩⟩
  replace h := h.out; unfold IaSD at h ⊢
  (repeat' split at h) <;> simp_all
theorem f_IaA (l m : Nat) (x i : Value) {K : Value → Prop} (h : IaA l m x i K) : ∃ r, K r ∧ IaA l m x i fun x => x = r := by
  suffices hs : ∃ r, K r ∧ IaAD l m x i fun x => x = r from let ⟨r, h1, h2⟩ := hs; ⟨r, h1, ⟨h2⟩⟩
  replace h := h.out; unfold IaAD at h ⊢
  (repeat' split at h) <;> simp_all
theorem f_Ex (x : Value) (i : Nat) {K : Value → Prop} (h : Ex x i K) : ∃ r, K r ∧ Ex x i fun x => x = r := by
  suffices hs : ∃ r, K r ∧ ExD x i fun x => x = r from let ⟨r, h1, h2⟩ := hs; ⟨r, h1, ⟨h2⟩⟩
  replace h := h.out; unfold ExD at h ⊢
  (repeat' split at h) <;> simp_all
theorem f_Pk (c a b : Value) {K : Value → Prop} (h : Pk c a b K) : ∃ r, K r ∧ Pk c a b fun x => x = r := by
  suffices hs : ∃ r, K r ∧ PkD c a b fun x => x = r from let ⟨r, h1, h2⟩ := hs; ⟨r, h1, ⟨h2⟩⟩
  replace h := h.out; unfold PkD at h ⊢
  (repeat' split at h) <;> simp_all
theorem f_Ln (s : Bool) (x : Value) {K : Value → Prop} (h : Ln s x K) : ∃ r, K r ∧ Ln s x fun x => x = r := by
  suffices hs : ∃ r, K r ∧ LnD s x fun x => x = r from let ⟨r, h1, h2⟩ := hs; ⟨r, h1, ⟨h2⟩⟩
  replace h := h.out; unfold LnD at h ⊢
  (repeat' split at h) <;> simp_all
theorem f_Ta (t : TypeId) (z x : Value) {K : Value → Prop} (h : Ta t z x K) : ∃ r, K r ∧ Ta t z x fun x => x = r := by
  suffices hs : ∃ r, K r ∧ TaD t z x fun x => x = r from let ⟨r, h1, h2⟩ := hs; ⟨r, h1, ⟨h2⟩⟩
  replace h := h.out; unfold TaD at h ⊢
  (repeat' split at h) <;> simp_all
theorem f_Ta1 (t : TypeId) (x : Value) {K : Value → Prop} (h : Ta1 t x K) : ∃ r, K r ∧ Ta1 t x fun x => x = r := by
  suffices hs : ∃ r, K r ∧ Ta1D t x fun x => x = r from let ⟨r, h1, h2⟩ := hs; ⟨r, h1, ⟨h2⟩⟩
  replace h := h.out; unfold Ta1D at h ⊢
  (repeat' split at h) <;> simp_all
theorem f_Lk (k : TypeDesc) (z m y : Value) (ok : Bool) (w : World) {K : Value → Prop} (h : Lk k z m y ok w K) : ∃ r, K r ∧ Lk k z m y ok w fun x => x = r := by
  suffices hs : ∃ r, K r ∧ LkD k z m y ok w fun x => x = r from let ⟨r, h1, h2⟩ := hs; ⟨r, h1, ⟨h2⟩⟩
  replace h := h.out; unfold LkD at h ⊢
  (repeat' split at h) <;> simp_all
/-- an operation that changes nothing gives one value, here, and (if it does not look at the world) everywhere -/
theorem opW_val {o : Oper} {e : Operand → Value} {w : World} {K : KV} (hq : quiet P o = true) (h : opW P o e w E K) :
    ∃ v, K v w ∧ ∀ w', looks o.op = false ∨ w' = w → opW P o e w' E fun x _ => x = v := by
  obtain ⟨dst, op, type, pos, after, guard⟩ := o
  cases op <;> try (simp [quiet] at hq; done)
  case move x => exact ⟨_, h, fun _ _ => rfl⟩
  case assign x => exact ⟨_, h, fun _ _ => rfl⟩
  case pick c a b =>
    obtain ⟨r, h1, h2⟩ := f_Pk (K := fun v => K v w) _ _ _ h
    exact ⟨r, h1, fun _ _ => h2⟩
  case build t parts =>
    simp only [opW, vop] at h ⊢
    split at h
    · rename_i fs z hu hz
      cases ha : allInfo P fs.toList with
      | false => simp [ha] at h
      | true =>
        simp only [ha, cond_true] at h
        split at h
        · rename_i ps hps
          obtain ⟨r, h1, h2⟩ := f_Bu _ _ h
          exact ⟨r, h1, fun _ _ => by first | exact h2 | (simp only [hu, hz, ha, cond_true, hps]; exact h2)⟩
        · exact h.elim
    · rename_i hu hz; simp [quiet, hu] at hq
    · exact h.elim
  case load t a =>
    simp only [opW, vop] at h ⊢
    split at h
    · rename_i hk
      obtain ⟨r, h1, h2⟩ := f_Ld _ _ h
      refine ⟨r, h1, fun w' hw => ?_⟩
      rcases hw with hw | rfl
      · cases hw
      · first | exact h2 | (simp only [hk]; exact h2)
    · rename_i m hk
      obtain ⟨r, h1, h2⟩ := f_LdN _ _ _ h
      refine ⟨r, h1, fun w' hw => ?_⟩
      rcases hw with hw | rfl
      · cases hw
      · first | exact h2 | (simp only [hk]; exact h2)
    · exact h.elim
  case nilCheck x =>
    obtain ⟨r, h1, h2⟩ := f_Nk (K := fun v => K v w) _ h
    exact ⟨r, h1, fun _ _ => h2⟩
  case binOp op t x y yt =>
    by_cases hsh : op = .shl ∨ op = .shr
    · have h' : Sh op (e x) (e y) fun v => K v w := by rcases hsh with rfl | rfl <;> exact h
      obtain ⟨r, h1, h2⟩ := f_Sh _ _ _ h'
      exact ⟨r, h1, fun _ _ => by rcases hsh with rfl | rfl <;> exact h2⟩
    · by_cases heq : op = .eql ∨ op = .neq
      · cases hu : und P t with
        | int k =>
          have h' : Bi op (e x) (e y) fun v => K v w := by rcases heq with rfl | rfl <;> simpa [opW, vop, hu] using h
          obtain ⟨r, h1, h2⟩ := f_Bi _ _ _ h'
          exact ⟨r, h1, fun _ _ => by rcases heq with rfl | rfl <;> (simp only [opW, vop, hu]; exact h2)⟩
        | str =>
          have h' : Bs op (e x) (e y) fun v => K v w := by rcases heq with rfl | rfl <;> simpa [opW, vop, hu] using h
          obtain ⟨r, h1, h2⟩ := f_Bs _ _ _ h'
          exact ⟨r, h1, fun _ _ => by rcases heq with rfl | rfl <;> (simp only [opW, vop, hu]; exact h2)⟩
        | bool =>
          have h' : Eb (isNeq op) (e x) (e y) fun v => K v w := by rcases heq with rfl | rfl <;> simpa [opW, vop, hu] using h
          obtain ⟨r, h1, h2⟩ := f_Eb _ _ _ h'
          exact ⟨r, h1, fun _ _ => by rcases heq with rfl | rfl <;> (simp only [opW, vop, hu]; exact h2)⟩
        | nilable nk =>
          have hn : isNilConst nk y = true := by rcases heq with rfl | rfl <;> simpa [quiet, hu] using hq
          have h' : En nk (isNeq op) (e x) fun v => K v w := by rcases heq with rfl | rfl <;> simpa [opW, vop, hu, hn] using h
          obtain ⟨r, h1, h2⟩ := f_En _ _ _ h'
          exact ⟨r, h1, fun _ _ => by rcases heq with rfl | rfl <;> (simp only [opW, vop, hu, hn, cond_true]; exact h2)⟩
        | slice m =>
          have hn : isNilConst .slc y = true := by rcases heq with rfl | rfl <;> simpa [quiet, hu] using hq
          have h' : En .slc (isNeq op) (e x) fun v => K v w := by rcases heq with rfl | rfl <;> simpa [opW, vop, hu, hn] using h
          obtain ⟨r, h1, h2⟩ := f_En _ _ _ h'
          exact ⟨r, h1, fun _ _ => by rcases heq with rfl | rfl <;> (simp only [opW, vop, hu, hn, cond_true]; exact h2)⟩
        | _ => exfalso; rcases heq with rfl | rfl <;> simp [quiet, hu] at hq
      · cases hu : und P t with
        | int k =>
          have h' : Bi op (e x) (e y) fun v => K v w := by cases op <;> first | (simpa [opW, vop, hu] using h) | exact absurd (.inl rfl) hsh | exact absurd (.inr rfl) hsh | exact absurd (.inl rfl) heq | exact absurd (.inr rfl) heq
          obtain ⟨r, h1, h2⟩ := f_Bi _ _ _ h'
          exact ⟨r, h1, fun _ _ => by cases op <;> first | (simp only [opW, vop, hu]; exact h2) | exact absurd (.inl rfl) hsh | exact absurd (.inr rfl) hsh | exact absurd (.inl rfl) heq | exact absurd (.inr rfl) heq⟩
        | str =>
          have h' : Bs op (e x) (e y) fun v => K v w := by cases op <;> first | (simpa [opW, vop, hu] using h) | exact absurd (.inl rfl) hsh | exact absurd (.inr rfl) hsh | exact absurd (.inl rfl) heq | exact absurd (.inr rfl) heq
          obtain ⟨r, h1, h2⟩ := f_Bs _ _ _ h'
          exact ⟨r, h1, fun _ _ => by cases op <;> first | (simp only [opW, vop, hu]; exact h2) | exact absurd (.inl rfl) hsh | exact absurd (.inr rfl) hsh | exact absurd (.inl rfl) heq | exact absurd (.inr rfl) heq⟩
        | _ => exfalso; cases op <;> first | (simp [quiet, hu] at hq; done) | exact absurd (.inl rfl) hsh | exact absurd (.inr rfl) hsh | exact absurd (.inl rfl) heq | exact absurd (.inr rfl) heq
  case unOp op t x =>
    cases op <;> try (simp [quiet] at hq; done)
    · obtain ⟨r, h1, h2⟩ := f_Ng (K := fun v => K v w) _ h
      exact ⟨r, h1, fun _ _ => h2⟩
    · obtain ⟨r, h1, h2⟩ := f_Nt (K := fun v => K v w) _ h
      exact ⟨r, h1, fun _ _ => h2⟩
  case convert src dst x =>
    simp only [opW, vop] at h ⊢
    split at h
    · rename_i hs hd
      obtain ⟨r, h1, h2⟩ := f_Cv _ _ h
      exact ⟨r, h1, fun _ _ => by first | exact h2 | (simp only [hs, hd]; exact h2)⟩
    · rename_i hs hd
      obtain ⟨r, h1, h2⟩ := f_CvS _ h
      exact ⟨r, h1, fun _ _ => by first | exact h2 | (simp only [hs, hd]; exact h2)⟩
    · rename_i m hs hd
      have hb : isBytes P src = true := by simpa [quiet, hs, hd] using hq
      simp only [hb, cond_true] at h
      obtain ⟨r, h1, h2⟩ := f_CvB _ _ h
      refine ⟨r, h1, fun w' hw => ?_⟩
      rcases hw with hw | rfl
      · cases hw
      · first | exact h2 | (simp only [hs, hd, hb, cond_true]; exact h2)
    · rename_i h1 h2 h3
      exfalso
      simp only [quiet] at hq
      first | (cases hq; done) | (split at hq <;> simp_all)
  case makeInterface t x =>
    simp only [opW, vop] at h ⊢
    cases hi : isIface P t with
    | true => simp [hi] at h
    | false => simp only [hi, cond_false] at h ⊢; exact ⟨_, h, fun _ _ => rfl⟩
  case makeFunc fn first captured => exact ⟨_, h, fun _ _ => rfl⟩
  case slice t x lo hi mx =>
    simp only [opW, vop] at h ⊢
    cases hs : und P t with
    | str =>
      cases mx with
      | none =>
        simp only [hs] at h ⊢
        obtain ⟨r, h1, h2⟩ := f_SlS _ _ _ h
        exact ⟨r, h1, fun _ _ => h2⟩
      | some m => simp [quiet, hs] at hq
    | slice m =>
      cases mx with
      | none =>
        simp only [hs] at h ⊢
        obtain ⟨r, h1, h2⟩ := f_SlL _ _ _ _ h
        exact ⟨r, h1, fun _ _ => h2⟩
      | some m => simp [quiet, hs] at hq
    | _ => simp [quiet, hs] at hq
  case fieldAddr s x f =>
    simp only [opW, vop] at h ⊢
    split at h
    · rename_i off hk
      obtain ⟨r, h1, h2⟩ := f_Fa _ _ h
      exact ⟨r, h1, fun _ _ => by first | exact h2 | (simp only [hk]; exact h2)⟩
    · exact h.elim
  case indexAddr t x i =>
    simp only [opW, vop] at h ⊢
    split at h
    · rename_i m hs
      obtain ⟨r, h1, h2⟩ := f_IaS _ _ _ h
      exact ⟨r, h1, fun _ _ => by first | exact h2 | (simp only [hs]; exact h2)⟩
    · rename_i l m hs
      obtain ⟨r, h1, h2⟩ := f_IaA _ _ _ _ h
      exact ⟨r, h1, fun _ _ => by first | exact h2 | (simp only [hs]; exact h2)⟩
    · exact h.elim
  case index t x i =>
    simp only [opW, vop] at h ⊢
    have hs : und P t = .str := by
      simp only [quiet] at hq
      split at hq <;> simp_all
    simp only [hs] at h ⊢
    obtain ⟨r, h1, h2⟩ := f_IxS _ _ h
    exact ⟨r, h1, fun _ _ => h2⟩
  case lookup t m k ok =>
    simp only [opW, vop] at h ⊢
    split at h
    · rename_i kind el hk
      split at h
      · rename_i z hz
        obtain ⟨r, h1, h2⟩ := f_Lk _ _ _ _ _ _ h
        refine ⟨r, h1, fun w' hw => ?_⟩
        rcases hw with hw | rfl
        · cases hw
        · first | exact h2 | (simp only [hk, hz]; exact h2)
      · exact h.elim
    · rename_i hk
      simp [quiet, hk] at hq
  case typeAssert x xt t ok =>
    simp only [opW, vop] at h ⊢
    have hi : isIface P t = false := by simpa [quiet] using hq
    simp only [hi, cond_false] at h ⊢
    split at h
    · rename_i z hz
      obtain ⟨r, h1, h2⟩ := f_Ta _ _ _ h
      exact ⟨r, h1, fun _ _ => by first | exact h2 | (simp only [hz]; exact h2)⟩
    · obtain ⟨r, h1, h2⟩ := f_Ta1 _ _ h
      exact ⟨r, h1, fun _ _ => h2⟩
    · exact h.elim
  case extract x i =>
    obtain ⟨r, h1, h2⟩ := f_Ex (K := fun v => K v w) _ _ h
    exact ⟨r, h1, fun _ _ => h2⟩
  case call c =>
    obtain ⟨callee, args, argTypes⟩ := c
    cases callee with
    | builtin b =>
      cases b <;> try (simp [quiet] at hq; done)
      simp only [quiet] at hq
      simp only [opW] at h ⊢
      split at h
      · rename_i t x ht hx
        simp only [ht] at hq
        split at h
        · rename_i hu
          obtain ⟨r, h1, h2⟩ := f_Ln _ _ h
          exact ⟨r, h1, fun _ _ => by first | exact h2 | (simp only [ht, hx, hu]; exact h2)⟩
        · rename_i m hu
          obtain ⟨r, h1, h2⟩ := f_Ln _ _ h
          exact ⟨r, h1, fun _ _ => by first | exact h2 | (simp only [ht, hx, hu]; exact h2)⟩
        · exfalso
          split at hq <;> simp_all
      · exact h.elim
    | _ => simp [quiet] at hq
end
end Go.W
