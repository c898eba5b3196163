/- Own framework, seventh part: pieces of code and whole functions. -/
import Derived.Test.YtaaepbggooiblaaFwX
set_option linter.unusedSimpArgs false
set_option linter.unusedVariables false
namespace Go.W
open Go
section
variable {P : Program} {n : Nat} {keep : List Nat} {ds : List Deferred} {E : KE}

/-- where a piece of code comes to -/
def Post (n : Nat) (ds : List Deferred) (E : KE) (W : List Nat) (ρ : Fr) (Q : Exit → Fr → World → Prop) : Exit → Act → World → Prop
  | .panic ch, a, w => a.defers = ds ∧ E ch w
  | .outgrown, _, _ => False
  | e, a, w => ∃ ρ', a = act n ρ' ds ∧ (∀ i, i ∉ W → ρ' i = ρ i) ∧ Q e ρ' w
theorem Post.mono {W W' : List Nat} {ρ ρ₁ : Fr} {Q Q₁ : Exit → Fr → World → Prop} (hW : ∀ i, i ∉ W' → i ∉ W) (hρ : ∀ i, i ∉ W' → ρ₁ i = ρ i)
    (hQ : ∀ e ρ' w, Q e ρ' w → Q₁ e ρ' w) (e : Exit) (a : Act) (w : World) (h : Post n ds E W ρ₁ Q e a w) : Post n ds E W' ρ Q₁ e a w := by
  cases e <;> simp only [Post] at h ⊢ <;> first
    | exact h
    | (obtain ⟨ρ', h1, h2, h3⟩ := h; exact ⟨ρ', h1, fun i hi => (h2 i (hW i hi)).trans (hρ i hi), hQ _ _ _ h3⟩)

theorem idx_spec : ∀ (l : List Nat) (k i m : Nat), idx l k i = some m → ∃ j, m = k + j ∧ l[j]? = some i := by
  intro l
  induction l with
  | nil => intro k i m h; simp [idx] at h
  | cons a l ih =>
    intro k i m h
    simp only [idx] at h
    cases hb : Nat.beq i a with
    | true =>
      simp only [hb, cond_true, Option.some.injEq] at h
      exact ⟨0, by omega, by simp [Nat.eq_of_beq_eq_true hb]⟩
    | false =>
      simp only [hb, cond_false] at h
      obtain ⟨j, h1, h2⟩ := ih (k + 1) i m h
      exact ⟨j + 1, by omega, by simpa using h2⟩
theorem overlay_self {ρ ρ' : Fr} {ws L : List Nat} (hag : ∀ i, i ∉ ws → ρ' i = ρ i) : overlay ρ ws L ρ' (L.map ρ') = ρ' := by
  funext i
  unfold overlay
  split
  · rename_i k hk
    obtain ⟨j, rfl, hj⟩ := idx_spec L 0 i k hk
    simp [hj]
  · by_cases hc : i ∈ ws
    · have : ws.contains i = true := by simpa using hc
      rw [this]; rfl
    · have : ws.contains i = false := by simpa using hc
      rw [this]; exact (hag i hc).symm
theorem handed_lt {ws : List Nat} {i : Nat} (h : i ∈ handed n keep ws) : i < n := by
  unfold handed at h
  rw [List.mem_filter] at h
  simp only [Bool.and_eq_true] at h
  exact Nat.le_of_ble_eq_true h.2.2
theorem act_tmps {ρ : Fr} {i : Nat} (h : i < n) : (act n ρ ds).tmps.getD i undef = ρ i := by simp [act, h]
theorem act_map {ρ : Fr} {ws : List Nat} : ((handed n keep ws).map fun i => (act n ρ ds).tmps.getD i undef) = (handed n keep ws).map ρ :=
  List.map_congr_left fun i hi => act_tmps (handed_lt hi)

theorem wpc_sound : ∀ (c : Code) (Q : Exit → Fr → World → Prop) (ρ : Fr) (w : World), wpc P n keep E c Q ρ w → c.wp P (Post n ds E (writes c) ρ Q) (act n ρ ds) w := by
  intro c
  induction c with
  | skip => intro Q ρ w h; exact wp_skip ⟨ρ, rfl, fun _ _ => rfl, h⟩
  | label l => intro Q ρ w h; exact wp_label ⟨ρ, rfl, fun _ _ => rfl, h⟩
  | exit i => intro Q ρ w h; exact wp_exit ⟨ρ, rfl, fun _ _ => rfl, h⟩
  | ret => intro Q ρ w h; exact wp_ret ⟨ρ, rfl, fun _ _ => rfl, h⟩
  | goto l => intro Q ρ w h; exact h.elim
  | scope b => intro Q ρ w h; exact h.elim
  | rangeFunc f ps as b => intro Q ρ w h; exact h.elim
  | refuse s => intro Q ρ w h; exact h.elim
  | region id ops draw =>
    intro Q ρ w h
    simp only [wpc] at h
    have hE : ∀ ch w' (ρ' : Fr), E ch w' → Post n ds E (writes (.region id ops draw)) ρ Q (.panic ch) (act n ρ' ds) w' := fun ch w' ρ' he => ⟨rfl, he⟩
    have hS : ∀ o ∈ ops.toList, ∀ d, o.dst = some d → d ∈ writes (.region id ops draw) := fun o ho d hd => by
      simp only [writes]
      exact List.mem_filterMap.2 ⟨o, ho, hd⟩
    cases draw with
    | false =>
      simp only [cond_false] at h
      refine wp_region_list (opsW_sound (S := writes (.region id ops false)) hE ops.toList (Q .normal) ρ w hS ?_ h)
      intro ρ' w' hag hq
      exact ⟨ρ', rfl, hag, hq⟩
    | true =>
      simp only [cond_true] at h
      cases hc : P.follows .mixedOrders && Region.noSelect ops with
      | false => simp [hc] at h
      | true =>
        simp only [hc, cond_true] at h
        rw [Bool.and_eq_true] at hc
        have := drawW_sound (P := P) (n := n) (ds := ds) (ops := ops) (E := E) (Q' := Post n ds E (writes (.region id ops true)) ρ Q) (S := writes (.region id ops true))
          (fun i o ho d hd => hS o (Array.mem_toList_iff.2 (Array.mem_of_getElem? ho)) d hd) hc.2 hE
          (fun c a w d v hp => ⟨by have := hp.1; cases d <;> exact this, hp.2⟩)
          ops.size (Array.replicate ops.size false) [] (Q .normal) ρ w.drew (fun ρ' w' hag hq => ⟨ρ', rfl, hag, hq⟩)
          (by intro k o hk; simp only [Array.getD_eq_getD_getElem?] at hk; exfalso; by_cases hlt : k < ops.size <;> simp [hlt] at hk) h
        exact wp_region_any hc.1 (anyF_any _ _ _ _ this)
  | seq a b iha ihb =>
    intro Q ρ w h
    simp only [wpc] at h
    cases hj : Nat.ble (ends a) 1 with
    | true =>
      simp only [hj, cond_true] at h
      refine wp_seq (wp_mono (iha _ ρ w h) ?_)
      intro e a' w' hp
      cases e with
      | normal =>
        obtain ⟨ρ', rfl, hag, hq⟩ := hp
        refine wp_mono (ihb Q ρ' w' hq) (Post.mono (fun i hi => ?_) (fun i hi => hag i ?_) (fun _ _ _ h => h))
        · simp only [writes, List.mem_append, not_or] at hi; exact hi.2
        · simp only [writes, List.mem_append, not_or] at hi; exact hi.1
      | panic ch => exact hp
      | outgrown => exact hp
      | exit i => obtain ⟨ρ', h1, h2, h3⟩ := hp; exact ⟨ρ', h1, fun i hi => h2 i (by simp only [writes, List.mem_append, not_or] at hi; exact hi.1), h3⟩
      | goto i => obtain ⟨ρ', h1, h2, h3⟩ := hp; exact ⟨ρ', h1, fun i hi => h2 i (by simp only [writes, List.mem_append, not_or] at hi; exact hi.1), h3⟩
      | ret => obtain ⟨ρ', h1, h2, h3⟩ := hp; exact ⟨ρ', h1, fun i hi => h2 i (by simp only [writes, List.mem_append, not_or] at hi; exact hi.1), h3⟩
    | false =>
      simp only [hj, cond_false] at h
      obtain ⟨J, hA, hB⟩ := h
      refine wp_seq (wp_mono (iha _ ρ w hA) ?_)
      intro e a' w' hp
      cases e with
      | normal =>
        obtain ⟨ρ', rfl, hag, hq⟩ := hp
        have hb : wpc P n keep E b Q (overlay ρ (writes a) (handed n keep (writes a)) ρ' ((handed n keep (writes a)).map ρ')) w' := hB _ _ ρ' hq
        rw [overlay_self hag] at hb
        refine wp_mono (ihb Q ρ' w' hb) (Post.mono (fun i hi => ?_) (fun i hi => hag i ?_) (fun _ _ _ h => h))
        · simp only [writes, List.mem_append, not_or] at hi; exact hi.2
        · simp only [writes, List.mem_append, not_or] at hi; exact hi.1
      | panic ch => exact hp
      | outgrown => exact hp
      | exit i => obtain ⟨ρ', h1, h2, h3⟩ := hp; exact ⟨ρ', h1, fun i hi => h2 i (by simp only [writes, List.mem_append, not_or] at hi; exact hi.1), h3⟩
      | goto i => obtain ⟨ρ', h1, h2, h3⟩ := hp; exact ⟨ρ', h1, fun i hi => h2 i (by simp only [writes, List.mem_append, not_or] at hi; exact hi.1), h3⟩
      | ret => obtain ⟨ρ', h1, h2, h3⟩ := hp; exact ⟨ρ', h1, fun i hi => h2 i (by simp only [writes, List.mem_append, not_or] at hi; exact hi.1), h3⟩
  | cond c a b iha ihb =>
    intro Q ρ w h
    simp only [wpc] at h
    replace h := h.out; unfold IfD at h
    split at h
    · rename_i t ht
      refine wp_cond (t := t) (by rw [act_eval]; exact ht) ?_
      cases t with
      | true =>
        simp only [if_true] at h ⊢
        exact wp_mono (iha Q ρ w h) (Post.mono (fun i hi => by simp only [writes, List.mem_append, not_or] at hi; exact hi.1) (fun _ _ => rfl) (fun _ _ _ h => h))
      | false =>
        simp only [Bool.false_eq_true, if_false] at h ⊢
        exact wp_mono (ihb Q ρ w h) (Post.mono (fun i hi => by simp only [writes, List.mem_append, not_or] at hi; exact hi.2) (fun _ _ => rfl) (fun _ _ _ h => h))
    · exact h.elim
  | block id b ihb =>
    intro Q ρ w h
    simp only [wpc] at h
    refine wp_block (wp_mono (ihb _ ρ w h) ?_)
    intro e a' w' hp
    cases e with
    | exit i =>
      obtain ⟨ρ', h1, h2, h3⟩ := hp
      simp only [Exit.inBlock]
      cases hb : Nat.beq i id with
      | true =>
        simp only [hb, cond_true] at h3
        rw [if_pos (Nat.eq_of_beq_eq_true hb)]
        exact ⟨ρ', h1, h2, h3⟩
      | false =>
        simp only [hb, cond_false] at h3
        rw [if_neg (fun he => by rw [he] at hb; simp at hb)]
        exact ⟨ρ', h1, h2, h3⟩
    | _ => exact hp
  | loop b ihb =>
    intro Q ρ w h
    simp only [wpc] at h
    obtain ⟨J, μ, h0, hstep⟩ := h
    refine wp_loop (fun a w => ∃ ρ', a = act n ρ' ds ∧ (∀ i, i ∉ writes b → ρ' i = ρ i) ∧ J ((handed n keep (writes b)).map ρ') w)
      (fun a w => μ ((handed n keep (writes b)).map fun i => a.tmps.getD i undef) w) ⟨ρ, rfl, fun _ _ => rfl, h0⟩ ?_
    rintro a₁ w₁ ⟨ρ₁, rfl, hag, hJ⟩
    have hb : wpc P n keep E b (fun e ρ' w'' => match e with
        | .normal => J ((handed n keep (writes b)).map ρ') w'' ∧ μ ((handed n keep (writes b)).map ρ') w'' < μ ((handed n keep (writes b)).map ρ₁) w₁
        | e => Q e ρ' w'') (overlay ρ (writes b) (handed n keep (writes b)) ρ₁ ((handed n keep (writes b)).map ρ₁)) w₁ := hstep _ _ ρ₁ hJ
    rw [overlay_self hag] at hb
    refine wp_mono (ihb _ ρ₁ w₁ hb) ?_
    intro e a' w' hp
    cases e with
    | normal =>
      obtain ⟨ρ', rfl, h2, h3, h4⟩ := hp
      refine ⟨⟨ρ', rfl, fun i hi => (h2 i hi).trans (hag i hi), h3⟩, ?_⟩
      simp only [act_map]
      exact h4
    | panic ch => exact hp
    | outgrown => exact hp
    | exit i => obtain ⟨ρ', h1, h2, h3⟩ := hp; exact ⟨ρ', h1, fun i hi => (h2 i hi).trans (hag i hi), h3⟩
    | goto i => obtain ⟨ρ', h1, h2, h3⟩ := hp; exact ⟨ρ', h1, fun i hi => (h2 i hi).trans (hag i hi), h3⟩
    | ret => obtain ⟨ρ', h1, h2, h3⟩ := hp; exact ⟨ρ', h1, fun i hi => (h2 i hi).trans (hag i hi), h3⟩

/-- one result -/
def res1 (tmps : Array Value) : ResultVar → Sem Value
  | .tmp t => pure (tmps.getD t undef)
  | .cell a t => do loadVar t (← asAddr (tmps.getD a undef))
theorem resW_sound {ρ : Fr} {w : World} : ∀ (l : List ResultVar) (K : List Value → Prop), resW P n ρ w l K →
    ∃ vs, (l.mapM (res1 (act n ρ ds).tmps)).run P w = .ok vs w ∧ K vs := by
  intro l
  induction l with
  | nil => intro K h; exact ⟨[], by simp, h⟩
  | cons r l ih =>
    intro K h
    have hev : ∀ t, (act n ρ ds).tmps.getD t undef = ev n ρ (.tmp t) := fun t => congrFun (act_eval n ρ ds) (.tmp t)
    cases r with
    | tmp t =>
      simp only [resW] at h
      obtain ⟨vs, h1, h2⟩ := ih _ h
      refine ⟨_, ?_, h2⟩
      simp only [List.mapM_cons, Sem.run_bind, res1, hev, Sem.run_pure, Result.andThen_ok, h1]
    | cell a t =>
      simp only [resW] at h
      have step : ∀ {v}, (Instr.loadAt t (ev n ρ (.tmp a))).run P w = .ok v w → (res1 (act n ρ ds).tmps (.cell a t)).run P w = .ok v w := by
        intro v hv
        simp only [res1]
        rw [hev]
        cases hx : ev n ρ (.tmp a) <;> simp [hx, Instr.loadAt, Instr.sureAddr] at hv
        rename_i p
        cases p with
        | none => simp at hv
        | some p => simpa [asAddr] using hv
      split at h
      · rename_i hk
        obtain ⟨x, h1, h2⟩ := ld_run (P := P) hk h
        obtain ⟨vs, h3, h4⟩ := ih _ h2
        refine ⟨_, ?_, h4⟩
        simp only [List.mapM_cons, Sem.run_bind, step h1, Result.andThen_ok, h3, Sem.run_pure]
      · rename_i m hk
        obtain ⟨x, h1, h2⟩ := ldN_run (P := P) hk h
        obtain ⟨vs, h3, h4⟩ := ih _ h2
        refine ⟨_, ?_, h4⟩
        simp only [List.mapM_cons, Sem.run_bind, step h1, Result.andThen_ok, h3, Sem.run_pure]
      · exact h.elim
theorem results_sound {fn : Func} {ρ : Fr} {w : World} {R : Value → Prop} (h : resW P n ρ w fn.results.toList fun l => R (tup l)) :
    ∃ v, (results fn (act n ρ ds).tmps).run P w = .ok v w ∧ R v := by
  obtain ⟨vs, h1, h2⟩ := resW_sound (ds := ds) _ _ h
  refine ⟨tup vs, ?_, h2⟩
  have h3 : (fn.results.mapM (res1 (act n ρ ds).tmps)).run P w = .ok vs.toArray w := by
    have : fn.results = fn.results.toList.toArray := by simp
    rw [this, List.mapM_toArray]
    simp [h1]
  have h4 : results fn (act n ρ ds).tmps = (do let vs ← fn.results.mapM (res1 (act n ρ ds).tmps); pure (if h : vs.size = 1 then vs[0] else .tuple vs)) := by
    unfold results
    congr 1
  rw [h4]
  simp only [Sem.run_bind, h3, Result.andThen_ok, Sem.run_pure]
  congr 1
  match vs with
  | [] => rfl
  | [v] => rfl
  | a :: b :: r => simp [tup]

theorem calls_of_fnB {f : FuncId} {fn : Func} {args : List Value} {w : World} {R : Ending → World → Prop} (hf : P.funcs[f]? = some fn) (hlen : Nat.ble args.length fn.ntmps = true)
    (h : fnB P fn keep args w R) : Calls P f args.toArray w R := by
  unfold fnB at h
  split at h
  · rename_i c hc
    refine calls_of_wp hf hc ?_
    have hact : ({ tmps := args.toArray ++ Array.replicate (fn.ntmps - args.toArray.size) undef, defers := [] } : Act) = act fn.ntmps (fun i => args.getD i undef) [] := by
      have hl := Nat.le_of_ble_eq_true hlen
      simp only [act, Act.mk.injEq, and_true]
      apply Array.ext'
      apply List.ext_getElem?
      intro i
      simp only [Array.toList_append, Array.toList_replicate, List.size_toArray, List.getElem?_append, List.getElem?_map, List.getElem?_replicate]
      by_cases h1 : i < args.length
      · simp [h1, show i < fn.ntmps by omega]
      · by_cases h2 : i < fn.ntmps
        · simp [h1, h2, show i - args.length < fn.ntmps - args.length by omega]
        · simp [h1, h2, show ¬ i - args.length < fn.ntmps - args.length by omega]
    rw [hact]
    refine wp_mono (wpc_sound (ds := []) c _ _ w h) ?_
    intro e a w' hp
    cases e with
    | panic ch => exact hp
    | outgrown => exact hp.elim
    | normal =>
      obtain ⟨ρ', rfl, _, hq⟩ := hp
      obtain ⟨v, h1, h2⟩ := results_sound (ds := []) (R := fun v => R (.returned v) w') hq
      exact ⟨rfl, v, h1, h2⟩
    | ret =>
      obtain ⟨ρ', rfl, _, hq⟩ := hp
      obtain ⟨v, h1, h2⟩ := results_sound (ds := []) (R := fun v => R (.returned v) w') hq
      exact ⟨rfl, v, h1, h2⟩
    | exit i => obtain ⟨_, _, _, hq⟩ := hp; exact hq.elim
    | goto i => obtain ⟨_, _, _, hq⟩ := hp; exact hq.elim
  · exact h.elim
end
#print axioms calls_of_fnB
end Go.W
