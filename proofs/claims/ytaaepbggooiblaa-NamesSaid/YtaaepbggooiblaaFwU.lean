/- Own framework, fourth part: one operation, whatever it is. -/
import Derived.Test.YtaaepbggooiblaaFwT
set_option linter.unusedSimpArgs false
set_option linter.unusedVariables false
namespace Go.W
open Go
section
variable {P : Program} {w : World}

/-- what an operation comes to -/
def Comes1 (P : Program) (o : Oper) (w : World) (K : KV) (r : Result Next) : Prop :=
  ∃ nx w', r = .ok nx w' ∧ ((∃ v, nx = .value v ∧ K v w') ∨ (nx = .skip ∧ K undef w' ∧ quiet P o = false)) ∧ (quiet P o = true → w' = w)

theorem comes_q {o : Oper} {s : Sem Value} {K : KV} (h : ∃ v, s.run P w = .ok v w ∧ K v w) :
    Comes1 P o w K ((do pure (Next.value (← s)) : Sem Next).run P w) := by
  obtain ⟨v, h1, h2⟩ := h
  exact ⟨.value v, w, by simp [h1], .inl ⟨v, rfl, h2⟩, fun _ => rfl⟩
theorem comes_p {o : Oper} {v : Value} {K : KV} (h : K v w) : Comes1 P o w K ((Pure.pure (Next.value v) : Sem Next).run P w) :=
  ⟨.value v, w, rfl, .inl ⟨v, rfl, h⟩, fun _ => rfl⟩
theorem comes_v {o : Oper} {s : Sem Value} {K : KV} (hq : quiet P o = false) (h : ∃ v w', s.run P w = .ok v w' ∧ K v w') :
    Comes1 P o w K ((do pure (Next.value (← s)) : Sem Next).run P w) := by
  obtain ⟨v, w', h1, h2⟩ := h
  exact ⟨.value v, w', by simp [h1], .inl ⟨v, rfl, h2⟩, fun h => by rw [hq] at h; cases h⟩
theorem comes_u {o : Oper} {s : Sem Unit} {K : KV} (hq : quiet P o = false) (h : ∃ w', s.run P w = .ok () w' ∧ K undef w') :
    Comes1 P o w K ((do s; pure Next.skip : Sem Next).run P w) := by
  obtain ⟨w', h1, h2⟩ := h
  exact ⟨.skip, w', by simp [h1], .inr ⟨rfl, h2, hq⟩, fun h => by rw [hq] at h; cases h⟩
theorem runV {s : Sem Value} {K : KV} (h : RunV P s w K) : ∃ v w', s.run P w = .ok v w' ∧ K v w' := by
  replace h := h.out; unfold RunVD at h
  split at h
  · exact ⟨_, _, by assumption, h⟩
  · exact h.elim
theorem runU {s : Sem Unit} {K : World → Prop} (h : RunU P s w K) : ∃ w', s.run P w = .ok () w' ∧ K w' := by
  replace h := h.out; unfold RunUD at h
  split at h
  · exact ⟨_, by assumption, h⟩
  · exact h.elim
theorem nw_run {t : TypeId} {v : Value} {K : KV} (h : Nw t v w K) : ∃ x w', (do pure (.pointer (some (← newVar t v))) : Sem Value).run P w = .ok x w' ∧ K x w' :=
  ⟨_, _, by simp [newVar, newRow], h.out⟩
theorem pk_run {c a b : Value} {K : Value → Prop} (h : Pk c a b K) : ∃ v, (do pure (Next.value (if ← asBool c then a else b)) : Sem Next).run P w = .ok (.value v) w ∧ K v := by
  replace h := h.out; unfold PkD at h
  split at h
  · exact ⟨_, by simp [asBool], h⟩
  · exact h.elim
theorem ex_run {x : Value} {i : Nat} {K : Value → Prop} (h : Ex x i K) : ∃ v, (Instr.extract x i).run P w = .ok v w ∧ K v := by
  replace h := h.out; unfold ExD at h
  split at h
  · split at h
    · rename_i vs _ v hv
      exact ⟨v, by simp [Instr.extract, hv], h⟩
    · exact h.elim
  · exact h.elim
theorem nt_run {x : Value} {K : Value → Prop} (h : Nt x K) : ∃ v, (Op.unary .not x).run P w = .ok v w ∧ K v := by
  replace h := h.out; unfold NtD at h
  split at h
  · exact ⟨_, by simp [Op.unary], h⟩
  · exact h.elim
theorem ng_run {x : Value} {K : Value → Prop} (h : Ng x K) : ∃ v, (Op.unary .neg x).run P w = .ok v w ∧ K v := by
  replace h := h.out; unfold NgD at h
  split at h
  · exact ⟨_, by simp [Op.unary, Op.intArith], h⟩
  · exact h.elim
theorem mkI_run {t : TypeId} {x : Value} (h : isIface P t = false) : (Instr.makeInterface t x).run P w = .ok (.iface t x) w := by
  unfold isIface at h
  cases hu : P.underlying t with
  | none => simp [hu] at h
  | some d => cases d <;> simp [hu] at h <;> simp [Instr.makeInterface, run_underlying hu]
theorem vop_run {o : Oper} {e : Operand → Value} {K : KV} (he : ∀ v, e (.const v) = v) (h : vop P o e w K) : Comes1 P o w K ((execOp e o).run P w) := by
  obtain ⟨dst, op, type, pos, after, guard⟩ := o
  cases op <;> simp only [vop] at h <;> simp only [execOp] <;> first | exact h.elim | skip
  case move x => exact comes_p h
  case assign x => exact comes_p h
  case pick c a b =>
    obtain ⟨v, h1, h2⟩ := pk_run (P := P) (w := w) h
    exact ⟨.value v, w, h1, .inl ⟨v, rfl, h2⟩, fun _ => rfl⟩
  case alloc t =>
    split at h
    · rename_i z hz
      rw [zv_of hz] at h
      obtain ⟨x, w', h1, h2⟩ := nw_run (P := P) h
      refine comes_v rfl ⟨x, w', ?_, h2⟩
      simpa [Instr.alloc, run_zeroValue hz] using h1
    · exact h.elim
  case box t x => exact comes_v rfl (nw_run h)
  case build t parts =>
    split at h
    · rename_i fs z hu hz
      cases ha : allInfo P fs.toList with
      | false => simp [ha] at h
      | true =>
        simp only [ha, cond_true] at h
        split at h
        · rename_i ps hps
          rw [zv_of hz] at h
          have := bu_run (P := P) (w := w) hu hz ha hps h
          rw [show (parts.toList.map fun p => (p.1, e p.2)).toArray = parts.map (fun p => (p.1, e p.2)) from Array.ext' (by simp)] at this
          exact comes_q this
        · exact h.elim
    · rename_i n el z hu hz
      refine comes_v ?_ (runV h)
      simp [quiet, hu]
    · exact h.elim
  case buildSlice t len parts =>
    split at h
    · rename_i size elem hs hu
      cases hc : okSlice P elem size len parts with
      | false => simp [hc] at h
      | true =>
        simp only [hc, cond_true] at h
        simp only [okSlice, Bool.and_eq_true, Option.isSome_iff_exists] at hc
        obtain ⟨⟨⟨⟨h1, h2⟩, h3⟩, h4⟩, z, hz⟩ := hc
        obtain ⟨el, i, hu', hi, rfl⟩ := und_slice hs
        rw [hu] at hu'
        cases hu'
        exact comes_v rfl (buS_run hu ⟨i, hi, rfl⟩ (Nat.eq_of_beq_eq_true h1) h2 (Nat.le_of_ble_eq_true h3) (Nat.le_of_ble_eq_true h4) hz h)
    · exact h.elim
  case load t a =>
    split at h
    · rename_i hk; exact comes_q (ld_run hk h)
    · rename_i n hk; exact comes_q (ldN_run hk h)
    · exact h.elim
  case store t a x =>
    split at h
    · rename_i hk; exact comes_u rfl (st_run hk h)
    · rename_i n hk; exact comes_u rfl (stN_run hk h)
    · exact h.elim
  case nilCheck x =>
    replace h := h.out; unfold NkD at h
    generalize e x = v at h ⊢
    cases v with
    | pointer a => cases a <;> first | exact h.elim | exact comes_p h
    | func fn first captured => cases fn <;> first | exact h.elim | exact comes_p h
    | nilIface => exact h.elim
    | nilFunc => exact h.elim
    | _ => exact comes_p h
  case binOp op t x y yt =>
    have raw : RunV P (do eqGuard op t x y (e x) (e y); binOp op t (e x) (e y)) w K → quiet P ⟨dst, .binOp op t x y yt, type, pos, after, guard⟩ = false →
        Comes1 P ⟨dst, .binOp op t x y yt, type, pos, after, guard⟩ w K ((do let a ← (do eqGuard op t x y (e x) (e y); binOp op t (e x) (e y)); pure (Next.value a) : Sem Next).run P w) := fun h hq => comes_v hq (runV h)
    have hconst : ∀ v, y = .const v → e y = v := fun v hv => by rw [hv]; exact he v
    by_cases hsh : op = .shl ∨ op = .shr
    · have h' : Sh op (e x) (e y) fun v => K v w := by rcases hsh with rfl | rfl <;> exact h
      exact comes_q (sh_run hsh h')
    · have hop : ∀ k, op ≠ .shl ∧ op ≠ .shr ∨ k := fun _ => .inl ⟨fun e => hsh (.inl e), fun e => hsh (.inr e)⟩
      by_cases heq : op = .eql ∨ op = .neq
      · have h' : (match und P t with
          | .int _ => Bi op (e x) (e y) fun v => K v w
          | .str => Bs op (e x) (e y) fun v => K v w
          | .bool => Eb (isNeq op) (e x) (e y) fun v => K v w
          | .nilable nk => bif isNilConst nk y then En nk (isNeq op) (e x) fun v => K v w
              else RunV P (do eqGuard op t x y (e x) (e y); binOp op t (e x) (e y)) w K
          | .slice _ => bif isNilConst .slc y then En .slc (isNeq op) (e x) fun v => K v w
              else RunV P (do eqGuard op t x y (e x) (e y); binOp op t (e x) (e y)) w K
          | _ => RunV P (do eqGuard op t x y (e x) (e y); binOp op t (e x) (e y)) w K) := by rcases heq with rfl | rfl <;> exact h
        cases hu : und P t with
        | int k => simp only [hu] at h'; exact comes_q (bi_run hop h')
        | str => simp only [hu] at h'; exact comes_q (bs_run h')
        | bool => simp only [hu] at h'; exact comes_q (eb_run heq hu h')
        | nilable nk =>
          simp only [hu] at h'
          cases hn : isNilConst nk y with
          | true => simp only [hn, cond_true] at h'; exact comes_q (en_run heq (.inl hu) hn hconst h')
          | false => simp only [hn, cond_false] at h'; exact raw h' (by rcases heq with rfl | rfl <;> simp [quiet, hu, hn])
        | slice n =>
          simp only [hu] at h'
          cases hn : isNilConst .slc y with
          | true => simp only [hn, cond_true] at h'; exact comes_q (en_run heq (.inr ⟨rfl, n, hu⟩) hn hconst h')
          | false => simp only [hn, cond_false] at h'; exact raw h' (by rcases heq with rfl | rfl <;> simp [quiet, hu, hn])
        | _ => simp only [hu] at h'; exact raw h' (by rcases heq with rfl | rfl <;> simp [quiet, hu])
      · have h' : (match und P t with
          | .int _ => Bi op (e x) (e y) fun v => K v w
          | .str => Bs op (e x) (e y) fun v => K v w
          | _ => RunV P (do eqGuard op t x y (e x) (e y); binOp op t (e x) (e y)) w K) := by
          cases op <;> first | exact h | exact absurd (.inl rfl) hsh | exact absurd (.inr rfl) hsh | exact absurd (.inl rfl) heq | exact absurd (.inr rfl) heq
        have hq : (∀ k, und P t ≠ .int k) → und P t ≠ .str → quiet P ⟨dst, .binOp op t x y yt, type, pos, after, guard⟩ = false := fun h1 h2 => by
          cases hu : und P t <;> cases op <;> simp_all [quiet]
        cases hu : und P t with
        | int k => simp only [hu] at h'; exact comes_q (bi_run hop h')
        | str => simp only [hu] at h'; exact comes_q (bs_run h')
        | _ => simp only [hu] at h'; exact raw h' (hq (by simp [hu]) (by simp [hu]))
  case unOp op t x =>
    cases op with
    | neg => exact comes_q (ng_run h)
    | not => exact comes_q (nt_run h)
    | xor => exact comes_v rfl (runV h)
    | plus => exact comes_v rfl (runV h)
  case convert src dst x =>
    split at h
    · rename_i k k' hs hd; exact comes_q (cv_run hs hd h)
    · rename_i hs hd; exact comes_q (cvS_run hs hd h)
    · rename_i n hs hd
      cases hb : isBytes P src with
      | true => simp only [hb, cond_true] at h; exact comes_q (cvB_run hb hd h)
      | false => simp only [hb, cond_false] at h; exact comes_v (by simp [quiet, hs, hd, hb]) (runV h)
    · rename_i h1 h2 h3
      exact comes_v (by simp only [quiet]; try (split <;> simp_all)) (runV h)
  case makeInterface t x =>
    cases hi : isIface P t with
    | true => simp [hi] at h
    | false => simp only [hi, cond_false] at h; exact comes_q ⟨_, mkI_run hi, h⟩
  case makeFunc fn first captured => exact comes_q ⟨_, rfl, h⟩
  case makeMap t r =>
    cases r with
    | none => exact comes_v rfl ⟨_, _, by simp [Instr.makeMap], Mm.out h⟩
    | some r => exact comes_v rfl (runV h)
  case makeSlice t l c => exact comes_v rfl (runV h)
  case slice t x lo hi mx =>
    cases hs : und P t with
    | str =>
      cases mx with
      | none => simp only [hs] at h; exact comes_q (slS_run hs h)
      | some m => simp only [hs] at h; exact comes_v (by simp [quiet, hs]) (runV h)
    | slice n =>
      cases mx with
      | none => simp only [hs] at h; exact comes_q (slL_run hs h)
      | some m => simp only [hs] at h; exact comes_v (by simp [quiet, hs]) (runV h)
    | _ => simp only [hs] at h; exact comes_v (by simp [quiet, hs]) (runV h)
  case fieldAddr s x f =>
    split at h
    · rename_i off hk; exact comes_q (fa_run hk h)
    · exact h.elim
  case field t x f => exact comes_v rfl (runV h)
  case indexAddr t x i =>
    split at h
    · rename_i n hs; exact comes_q (iaS_run hs h)
    · rename_i m n hs; exact comes_q (iaA_run hs h)
    · exact h.elim
  case index t x i =>
    split at h
    · rename_i hs; exact comes_q (ixS_run hs h)
    · rename_i hs
      exact comes_v (by simp only [quiet]; try (split <;> simp_all)) (runV h)
  case lookup t m k ok =>
    split at h
    · rename_i kind el hk
      split at h
      · rename_i z hz
        rw [zv_of hz] at h
        exact comes_q (lk_run hk hz h)
      · exact h.elim
    · rename_i hk
      exact comes_v (by simp [quiet, hk]) (runV h)
  case mapUpdate t m k x =>
    split at h
    · rename_i kind el hk; exact comes_u rfl (mu_run hk h)
    · exact comes_u rfl (runU h)
  case range t x => exact comes_v rfl (runV h)
  case next it s => exact comes_v rfl (runV h)
  case entry it => exact comes_v rfl (runV h)
  case typeAssert x xt t ok =>
    cases hi : isIface P t with
    | true => simp only [hi, cond_true] at h; exact comes_v (by simp [quiet, hi]) (runV h)
    | false =>
      simp only [hi, cond_false] at h
      split at h
      · rename_i z hz
        rw [zv_of hz] at h
        exact comes_q (ta_run hi hz h)
      · exact comes_q (ta1_run hi h)
      · exact h.elim
  case extract x i => exact comes_q (ex_run h)

/-! ### calls, and whatever else -/
theorem callN_upon {o : Oper} {a : Act} {s : Sem Next} {K : KV} {E : KE} {next : Act → World → Prop} {Q : Exit → Act → World → Prop}
    (h : CallN P s w E K) (hK : ∀ v w', K v w' → next (a.put o.dst v) w') (hE : ∀ ch w', E ch w' → Q (.panic ch) a w') :
    o.upon P a next Q (s.run P w) := by
  replace h := h.out; unfold CallND at h
  split at h
  · rename_i v w' hr; rw [hr]; exact hK _ _ h
  · rename_i w' hr; rw [hr]; exact hK _ _ h
  · rename_i f args w' hr
    rw [hr]
    refine Calls.mono h.out fun e w'' he => ?_
    cases e with
    | returned v => exact hK _ _ he
    | panicked ch => exact hE _ _ he
    | outgrown => exact he.elim
  · rename_i v w' hr; rw [hr]; exact hE _ _ h
  · exact h.elim
theorem comes_upon {o : Oper} {a : Act} {K : KV} {r : Result Next} {next : Act → World → Prop} {Q : Exit → Act → World → Prop}
    (h : Comes1 P o w K r) (hK : ∀ v w', K v w' → next (a.put o.dst v) w') : o.upon P a next Q r := by
  obtain ⟨nx, w', rfl, h, _⟩ := h
  rcases h with ⟨v, rfl, h⟩ | ⟨rfl, h, _⟩
  · exact hK _ _ h
  · exact hK _ _ h
theorem callFunc_plain {f : FuncId} (h : isPlain P f = true) (args : Array Value) : (callFunc f args).run P w = .ok (.enter f args) w := by
  unfold isPlain at h
  split at h
  · rename_i fn hf
    simp only [Bool.and_eq_true, bne_iff_ne, ne_eq] at h
    have hb : ¬ fn.body = none := by intro hh; simp [hh] at h
    simp [callFunc, hf, hb, h.2]
  · cases h
theorem lnS_run {c : Go.Call} {t ty : TypeId} {x : Operand} {e : Operand → Value} {K : Value → Prop} (ht : c.argTypes[0]? = some t) (hx : c.args[0]? = some x)
    (hu : und P t = .str) (h : Ln true (e x) K) : ∃ v, (Builtin.len_ c.argTypes ty (c.args.map e)).run P w = .ok v w ∧ K v := by
  have hx' : (c.args.map e)[0]? = some (e x) := by simp [hx]
  generalize e x = y at h hx'
  replace h := h.out
  cases y <;> simp only [LnD] at h
  exact ⟨_, by simp [Builtin.len_, ht, hx', run_underlying (und_str hu), goInt], h⟩
theorem lnL_run {c : Go.Call} {t ty n : TypeId} {x : Operand} {e : Operand → Value} {K : Value → Prop} (ht : c.argTypes[0]? = some t) (hx : c.args[0]? = some x)
    (hu : und P t = .slice n) (h : Ln false (e x) K) : ∃ v, (Builtin.len_ c.argTypes ty (c.args.map e)).run P w = .ok v w ∧ K v := by
  have hx' : (c.args.map e)[0]? = some (e x) := by simp [hx]
  obtain ⟨el, i, hd, _, _⟩ := und_slice hu
  generalize e x = y at h hx'
  replace h := h.out
  cases y <;> simp only [LnD] at h
  exact ⟨_, by simp [Builtin.len_, ht, hx', run_underlying hd, goInt], h⟩
theorem opW_sound {o : Oper} {e : Operand → Value} {K : KV} {E : KE} {a : Act} {next : Act → World → Prop} {Q : Exit → Act → World → Prop}
    (ha : a.eval = e) (he : ∀ v, e (.const v) = v) (hef : ∀ f, e (.func f) = .func (.func f) #[] #[]) (h : opW P o e w E K) (hK : ∀ v w', K v w' → next (a.put o.dst v) w') (hE : ∀ ch w', E ch w' → Q (.panic ch) a w') :
    o.wp P a w next Q := by
  unfold Oper.wp
  rw [ha]
  obtain ⟨dst, op, type, pos, after, guard⟩ := o
  have base : vop P ⟨dst, op, type, pos, after, guard⟩ e w K → Oper.upon P ⟨dst, op, type, pos, after, guard⟩ a next Q ((execOp e ⟨dst, op, type, pos, after, guard⟩).run P w) :=
    fun h => comes_upon (vop_run he h) hK
  cases op <;> try exact base h
  case call c =>
    have val : ∀ {s : Sem Value}, (∃ v w', s.run P w = .ok v w' ∧ K v w') → Oper.upon P ⟨dst, .call c, type, pos, after, guard⟩ a next Q ((do pure (Next.value (← s)) : Sem Next).run P w) := by
      rintro s ⟨v, w', h1, h2⟩
      simp only [Sem.run_bind, h1, Result.andThen_ok, Sem.run_pure]
      exact hK _ _ h2
    have qal : ∀ {s : Sem Value}, (∃ v, s.run P w = .ok v w ∧ K v w) → Oper.upon P ⟨dst, .call c, type, pos, after, guard⟩ a next Q ((do pure (Next.value (← s)) : Sem Next).run P w) :=
      fun ⟨v, h1, h2⟩ => val ⟨v, w, h1, h2⟩
    obtain ⟨callee, args, argTypes⟩ := c
    simp only [opW] at h
    cases callee with
    | builtin b =>
      have hb : execOp e ⟨dst, .call ⟨.builtin b, args, argTypes⟩, type, pos, after, guard⟩ =
          builtin b argTypes type (args.map fun | .const _ => true | _ => false) (args.map e) := rfl
      rw [hb]
      have dflt : CallN P (builtin b argTypes type (args.map fun | .const _ => true | _ => false) (args.map e)) w E K →
          Oper.upon P ⟨dst, .call ⟨.builtin b, args, argTypes⟩, type, pos, after, guard⟩ a next Q ((builtin b argTypes type (args.map fun | .const _ => true | _ => false) (args.map e)).run P w) :=
        fun h => callN_upon h hK hE
      cases b <;> try exact dflt h
      case len =>
        simp only at h
        split at h
        · rename_i t x ht hx
          split at h
          · rename_i hu; exact qal (lnS_run (c := ⟨.builtin .len, args, argTypes⟩) ht hx hu h)
          · rename_i n hu; exact qal (lnL_run (c := ⟨.builtin .len, args, argTypes⟩) ht hx hu h)
          · exact val (runV h)
        · exact h.elim
      case append =>
        simp only at h
        split at h
        · rename_i t u s x ht hx
          have e1 : argTypes = #[t, u] := by cases argTypes; simpa using ht
          have e2 : args = #[s, x] := by cases args; simpa using hx
          subst e1 e2
          have fin : ∀ el, P.underlying t = some (.slice el) → (∃ d, P.underlying u = some d ∧ ∀ k, d ≠ .int k) →
              (match P.info? el with
              | some i => (match i.zero with
                | some z => bif Nat.ble 1 i.bytes && Nat.beq z.cells.size i.size then Ap el i.size i.bytes (zv P el) (e s) (e x) w K else False
                | none => False)
              | none => False) → Oper.upon P ⟨dst, .call ⟨.builtin .append, #[s, x], #[t, u]⟩, type, pos, after, guard⟩ a next Q
                ((builtin .append #[t, u] type (#[s, x].map fun | .const _ => true | _ => false) (#[s, x].map e)).run P w) := by
            intro el hel hd h
            split at h
            · rename_i i hi
              split at h
              · rename_i z hz
                cases hc : Nat.ble 1 i.bytes && Nat.beq z.cells.size i.size with
                | false => simp [hc] at h
                | true =>
                  simp only [hc, cond_true] at h
                  simp only [Bool.and_eq_true] at hc
                  have hzo : zeroOf P el = some z := by simp [zeroOf, hi, hz]
                  rw [zv_of hzo] at h
                  rw [show (#[s, x] : Array Operand).map e = #[e s, e x] from by simp]
                  exact val (ap_run hel hd hi hz (Nat.le_of_ble_eq_true hc.1) h)
              · exact h.elim
            · exact h.elim
          split at h
          · rename_i el n hel hu
            obtain ⟨e', i', hd, _, _⟩ := und_slice hu
            exact fin el hel ⟨_, hd, fun k => by simp⟩ h
          · rename_i el hel hu
            exact fin el hel ⟨_, und_str hu, fun k => by simp⟩ h
          · exact h.elim
        · exact h.elim
    | invoke recv name =>
      replace h := h.out; unfold CallID at h
      refine callN_upon (s := execOp e ⟨dst, .call ⟨.invoke recv name, args, argTypes⟩, type, pos, after, guard⟩) ?_ hK hE
      have : execOp e ⟨dst, .call ⟨.invoke recv name, args, argTypes⟩, type, pos, after, guard⟩ = callMethod (e recv) name (args.map e) := by
        have h0 : (#[e recv] ++ args.map e)[0]? = some (e recv) := by simp [Array.getElem?_append]
        have h1 : (args.map e).extract 0 args.size = args.map e := by
          apply Array.ext'
          simp [List.take_of_length_le]
        simp [execOp, resolve, invoke, h0, h1]
      rw [this]
      exact h
    | value f =>
      have gen : CallV P (e f) (args.map e) w E K → Oper.upon P ⟨dst, .call ⟨.value f, args, argTypes⟩, type, pos, after, guard⟩ a next Q
          ((execOp e ⟨dst, .call ⟨.value f, args, argTypes⟩, type, pos, after, guard⟩).run P w) := fun h =>
        callN_upon (s := execOp e ⟨dst, .call ⟨.value f, args, argTypes⟩, type, pos, after, guard⟩) h.out hK hE
      cases f with
      | func f =>
        have hx : e (.func f) = .func (.func f) #[] #[] := hef f
        have hrun : (execOp e ⟨dst, .call ⟨.value (.func f), args, argTypes⟩, type, pos, after, guard⟩) = callFunc f (args.map e) := by
          simp [execOp, resolve, hx, Deferred.ofValue, invoke]
        cases hp : isPlain P f with
        | true =>
          simp only [hp, cond_true] at h
          rw [hrun, callFunc_plain hp]
          refine Calls.mono h.out fun e w'' he => ?_
          cases e with
          | returned v => exact hK _ _ he
          | panicked ch => exact hE _ _ he
          | outgrown => exact he.elim
        | false =>
          simp only [hp, cond_false] at h
          rw [hrun]
          exact callN_upon h hK hE
      | _ => exact gen h
  case panic x =>
    simp only [opW] at h
    replace h := h.out; unfold PnD at h
    split at h
    · rename_i t v hx
      simp [execOp, hx, Instr.panic]
      exact hE _ _ h
    · exact h.elim
end
end Go.W
