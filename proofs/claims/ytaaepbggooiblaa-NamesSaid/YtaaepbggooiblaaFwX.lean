/- Own framework, sixth part: a region that draws its order: one order serves all. -/
import Derived.Test.YtaaepbggooiblaaFwV
set_option linter.unusedSimpArgs false
set_option linter.unusedVariables false
namespace Go.W
open Go
section
variable {P : Program} {n : Nat} {ds : List Deferred} {ops : Array Oper} {E : KE} {Q' : Exit → Act → World → Prop}

/-- in this state and world operation 'o' puts 'v' -/
def Yv (P : Program) (ops : Array Oper) (o : Oper) (v : Value) (a : Act) (w : World) : Prop :=
  (Region.wanted o (yielded ops a.tmps) = true ∧ (execOp a.eval o).run P w = .ok (.value v) w) ∨
  (Region.wanted o (yielded ops a.tmps) = false ∧ v = undef)
theorem Yv.wpOp {i : Nat} {o : Oper} {v : Value} {a : Act} {w : World} (hi : ops[i]? = some o) (hy : Yv P ops o v a w)
    {K : Act → World → Prop} (h : K (a.put o.dst v) w) : wpOp P ops Q' i K a w := by
  unfold Go.wpOp
  simp only [hi]
  rcases hy with ⟨hw, hv⟩ | ⟨hw, rfl⟩
  · simp only [hw, if_true, Oper.wp, hv, Oper.upon]; exact .inl h
  · simp only [hw, Bool.false_eq_true, if_false]; exact h
theorem Yv.of_same {o : Oper} {v : Value} {a a' : Act} {w : World} (hy : Yv P ops o v a w) (he : execOp a'.eval o = execOp a.eval o)
    (hw : Region.wanted o (yielded ops a'.tmps) = Region.wanted o (yielded ops a.tmps)) : Yv P ops o v a' w := by
  unfold Yv at *
  rw [he, hw]
  exact hy
/-- another operation, apart from it, finds the same whether its value stands there or not -/
theorem wpOp_apart {j : Nat} {oi oj : Oper} {v : Value} (hj : ops[j]? = some oj) (hap : oi.apart ops oj = true)
    (hsi : ∀ cs b, oi.op ≠ .select cs b) (hsj : ∀ cs b, oj.op ≠ .select cs b)
    (hQ : ∀ c a w, Q' (.panic c) (a.put oi.dst v) w → Q' (.panic c) a w) {C : World → Prop} {K : Act → World → Prop} {a : Act} {w : World}
    (hy : ∀ u, C u → Yv P ops oi v a u) (h : wpOp P ops Q' j K (a.put oi.dst v) w) :
    wpOp P ops Q' j (fun a' w' => (∀ u, C u → Yv P ops oi v a' u) ∧ K (a'.put oi.dst v) w') a w := by
  obtain ⟨h1, h2, h3⟩ := Oper.apart_spec hap
  have keep : ∀ (a : Act), (∀ u, C u → Yv P ops oi v a u) → ∀ x u, C u → Yv P ops oi v (a.put oj.dst x) u := fun a hy x u hu =>
    (hy u hu).of_same (execOp_put oi hsi a oj.dst x h3) (wanted_put oi a oj.dst x h3)
  have keepD : ∀ d u, C u → Yv P ops oi v { a with defers := d :: a.defers } u := fun d u hu => (hy u hu).of_same rfl rfl
  unfold Go.wpOp at *
  simp only [hj] at *
  rw [wanted_put oj a oi.dst v h1] at h
  split
  · rename_i hw
    simp only [hw, if_true] at h
    rcases h with h | ⟨hasks, hlets⟩
    case inr => exact .inr ⟨by unfold Oper.asks at *; rw [execOp_put oj hsj a oi.dst v h1] at hasks; exact hasks, hlets⟩
    refine .inl ?_
    unfold Oper.wp at *
    rw [execOp_put oj hsj a oi.dst v h1] at h
    generalize (execOp a.eval oj).run P w = r at *
    cases r with
    | ok nx w' =>
      cases nx <;> simp only [Oper.upon] at h ⊢
      case value u => exact ⟨keep a hy u, by rw [← Act.put_comm a v u h2]; exact h⟩
      case skip => exact ⟨keep a hy _, by rw [← Act.put_comm a v undef h2]; exact h⟩
      case defer d =>
        refine ⟨keep _ (keepD d) _, ?_⟩
        rw [← Act.put_comm _ v undef h2, ← Act.put_defers]
        exact h
      case enter f args =>
        refine Calls.mono h fun e w'' he => ?_
        cases e with
        | returned u => exact ⟨keep a hy u, by rw [← Act.put_comm a v u h2]; exact he⟩
        | panicked c => exact hQ _ _ _ he
        | outgrown => exact he
      case row row args => exact Rows.mono h fun u w'' he => ⟨keep a hy u, by rw [← Act.put_comm a v u h2]; exact he⟩
    | halt x w' =>
      cases x <;> simp only [Oper.upon] at h ⊢
      case panic u => exact hQ _ _ _ h
  · rename_i hw
    simp only [hw] at h
    exact ⟨keep a hy _, by rw [← Act.put_comm a v undef h2]; exact h⟩

/-- whatever order, and behind each operation what must be said of it -/
def anyF (P : Program) (ops : Array Oper) (Q' : Exit → Act → World → Prop) (F : Nat → World → World → Prop) : Nat → Array Bool → Act → World → Prop
  | 0, listed, a, w => Region.ready .any ops listed = [] ∧ Q' .normal a w
  | fuel + 1, listed, a, w =>
    (Region.ready .any ops listed = [] → Q' .normal a w) ∧
    ∀ i ∈ Region.ready .any ops listed, wpOp P ops Q' i (fun a' w' => F i w w' ∧ anyF P ops Q' F fuel (listed.setIfInBounds i true) a' w') a w
theorem anyF_any {F : Nat → World → World → Prop} : ∀ (fuel : Nat) (listed : Array Bool) (a : Act) (w : World), anyF P ops Q' F fuel listed a w → wpAny P .any ops Q' fuel listed a w
  | 0, _, _, _, h => h
  | fuel + 1, _, _, _, h => ⟨h.1, fun i hi => wpOp_mono (fun a' w' h' => anyF_any fuel _ a' w' h'.2) (h.2 i hi)⟩

def closed (ops : Array Oper) (listed : Array Bool) : Prop :=
  ∀ k o, listed.getD k false = true → ops[k]? = some o → ∀ e ∈ o.after, Region.binds .any e = true → listed.getD e.on false = true
theorem closed_set {listed : Array Bool} {i : Nat} (h : closed ops listed) (hi : i ∈ Region.ready .any ops listed) : closed ops (listed.setIfInBounds i true) := by
  intro k o hk ho e he hb
  by_cases hki : i = k
  · subst hki
    obtain ⟨_, o', ho', hall⟩ := mem_ready.1 hi
    rw [ho] at ho'; cases ho'
    exact getD_set_true (hall e he hb)
  · rw [getD_set_ne false hki] at hk
    exact getD_set_true (h k o hk ho e he hb)
theorem waits_false {listed : Array Bool} {i : Nat} (hc : closed ops listed) (hi : listed.getD i false = false) : ∀ (fuel k : Nat),
    (∀ o, ops[k]? = some o → ∀ e ∈ o.after, Region.binds .any e = true → listed.getD e.on false = true) → waitsOn ops fuel k i = false := by
  intro fuel
  induction fuel with
  | zero => intro k _; rfl
  | succ fuel ih =>
    intro k hk
    simp only [waitsOn]
    cases ho : ops[k]? with
    | none => rfl
    | some o =>
      simp only
      rw [List.any_eq_false]
      intro e he hh
      simp only [Bool.and_eq_true, Bool.or_eq_true] at hh
      have hl := hk o ho e (Array.mem_toList_iff.1 he) hh.1
      rcases hh.2 with h2 | h2
      · have := Nat.eq_of_beq_eq_true h2
        rw [this, hi] at hl; cases hl
      · rw [ih e.on (fun o' ho' e' he' hb' => hc e.on o' hl ho' e' he' hb')] at h2
        cases h2

theorem anyF_first {F F' : Nat → World → World → Prop} {C : World → Prop} {i : Nat} {oi : Oper} {v : Value} (hi : ops[i]? = some oi)
    (hsel : ∀ (j : Nat) (o : Oper) cs b, ops[j]? = some o → o.op ≠ .select cs b)
    (hQ : ∀ c a w, Q' (.panic c) (a.put oi.dst v) w → Q' (.panic c) a w)
    (hF : ∀ j w w', F' j w w' → F j w w') (hFi : ∀ w, F i w w) (hC : ∀ j w w', waitsOn ops ops.size j i = false → F' j w w' → C w → C w') :
    ∀ (fuel : Nat) (listed : Array Bool) (a : Act) (w : World), closed ops listed →
      (∀ j oj, ops[j]? = some oj → j ≠ i → listed.getD j true = false → (∀ e ∈ oj.after, Region.binds .any e = true → e.on ≠ i) → oi.apart ops oj = true) →
      i ∈ Region.ready .any ops listed → (∀ u, C u → Yv P ops oi v a u) → C w →
      anyF P ops Q' F' fuel (listed.setIfInBounds i true) (a.put oi.dst v) w → anyF P ops Q' F (fuel + 1) listed a w := by
  intro fuel
  induction fuel with
  | zero =>
    intro listed a w _ _ hr hy hw H
    refine ⟨fun h => (by rw [h] at hr; cases hr), fun j hj => ?_⟩
    by_cases hji : j = i
    · subst hji; exact (hy w hw).wpOp hi ⟨hFi w, H⟩
    · have := ready_mono hj hji
      rw [H.1] at this
      cases this
  | succ fuel ih =>
    intro listed a w hcl hfree hr hy hw H
    refine ⟨fun h => (by rw [h] at hr; cases hr), fun j hj => ?_⟩
    by_cases hji : j = i
    · subst hji
      refine (hy w hw).wpOp hi ⟨hFi w, ?_⟩
      -- the rest under the weaker demand
      have mono : ∀ (fuel : Nat) (listed : Array Bool) (a : Act) (w : World), anyF P ops Q' F' fuel listed a w → anyF P ops Q' F fuel listed a w := by
        intro fuel
        induction fuel with
        | zero => intro listed a w h; exact h
        | succ fuel ih => intro listed a w h; exact ⟨h.1, fun k hk => wpOp_mono (fun a' w' h' => ⟨hF _ _ _ h'.1, ih _ _ _ h'.2⟩) (h.2 k hk)⟩
      exact mono _ _ _ _ H
    · have h1 := H.2 j (ready_mono hj hji)
      obtain ⟨hjun, oj, hoj, hall⟩ := mem_ready.1 hj
      have hiun : listed.getD i false = false := by
        have h0 := (mem_ready.1 hr).1
        rcases Nat.lt_or_ge i listed.size with h' | h'
        · simp [h'] at h0 ⊢; exact h0
        · simp [Array.getElem?_eq_none h'] at h0
      have hnot : ∀ e ∈ oj.after, Region.binds .any e = true → e.on ≠ i := fun e he hb heq => by
        have h1 := hall e he hb
        rw [heq, hiun] at h1
        cases h1
      have hwt : waitsOn ops ops.size j i = false := waits_false hcl hiun _ j fun o ho e he hb => by
        rw [hoj] at ho; cases ho
        exact hall e he hb
      have h2 := wpOp_apart hoj (hfree j oj hoj hji hjun hnot) (fun cs b => hsel i oi cs b hi) (fun cs b => hsel j oj cs b hoj) hQ hy h1
      have hfree' : ∀ k ok, ops[k]? = some ok → k ≠ i → (listed.setIfInBounds j true).getD k true = false →
          (∀ e ∈ ok.after, Region.binds .any e = true → e.on ≠ i) → oi.apart ops ok = true := fun k ok hk hki hun hno => by
        refine hfree k ok hk hki ?_ hno
        by_cases hjk : j = k
        · subst hjk; exact hjun
        · rw [getD_set_ne true hjk] at hun; exact hun
      refine wpOp_mono (fun a' w' h3 => ⟨hF _ _ _ h3.2.1, ih (listed.setIfInBounds j true) a' w' (closed_set hcl hj) hfree' (ready_mono hr (Ne.symm hji)) h3.1 (hC j w w' hwt h3.2.1 hw) ?_⟩) h2
      rw [Array.setIfInBounds_comm _ _ hji]
      exact h3.2.2

/-- what is said behind operation j: nothing has changed, or all that must be kept reads as it did -/
def Fof (ops : Array Oper) (G : List (Nat × (World → Prop))) (j : Nat) (w w' : World) : Prop :=
  w' = w ∨ ∀ p ∈ G, waitsOn ops ops.size j p.1 = false → p.2 w'
theorem kept_spec {waits : Nat → Bool} {w : World} {k : Prop} : ∀ (G : List (Nat × (World → Prop))), kept ops waits w G k → (∀ p ∈ G, waits p.1 = false → p.2 w) ∧ k := by
  intro G
  induction G with
  | nil => intro h; exact ⟨by simp, h⟩
  | cons p r ih =>
    intro h
    obtain ⟨i, f⟩ := p
    simp only [kept] at h
    cases hw : waits i with
    | true =>
      simp only [hw, cond_true] at h
      obtain ⟨h1, h2⟩ := ih h
      exact ⟨fun p hp hpw => by
        rcases List.mem_cons.1 hp with rfl | hp
        · rw [hw] at hpw; cases hpw
        · exact h1 p hp hpw, h2⟩
    | false =>
      simp only [hw, cond_false] at h
      obtain ⟨h1, h2⟩ := ih h.2
      exact ⟨fun p hp hpw => by
        rcases List.mem_cons.1 hp with rfl | hp
        · exact h.1
        · exact h1 p hp hpw, h2⟩
theorem allOf_spec {α : Type} {f : α → Prop} : ∀ (l : List α), allOf l f → ∀ x ∈ l, f x := by
  intro l
  induction l with
  | nil => intro _ x hx; cases hx
  | cons a r ih =>
    intro h x hx
    cases r with
    | nil => simp at hx; subst hx; exact h
    | cons b r =>
      simp only [allOf] at h
      rcases List.mem_cons.1 hx with rfl | hx
      · exact h.1
      · exact ih h.2 x hx

theorem opQ_run {o : Oper} {e : Operand → Value} {w : World} {K : KV} (he : ∀ v, e (.const v) = v) (hq : quiet P o = true) (h : opW P o e w E K) :
    ∃ v, (execOp e o).run P w = .ok (.value v) w ∧ K v w := by
  obtain ⟨dst, op, type, pos, after, guard⟩ := o
  have base : vop P ⟨dst, op, type, pos, after, guard⟩ e w K → ∃ v, (execOp e ⟨dst, op, type, pos, after, guard⟩).run P w = .ok (.value v) w ∧ K v w := by
    intro h
    obtain ⟨nx, w', h1, h2, h3⟩ := vop_run he h
    have := h3 hq
    subst this
    rcases h2 with ⟨v, rfl, hv⟩ | ⟨_, _, hn⟩
    · exact ⟨v, h1, hv⟩
    · rw [hq] at hn; cases hn
  cases op <;> try exact base h
  case call c =>
    obtain ⟨callee, args, argTypes⟩ := c
    cases callee with
    | builtin b =>
      cases b <;> try (simp [quiet] at hq; done)
      simp only [quiet] at hq
      simp only [opW] at h
      have fin : ∀ {v}, (Builtin.len_ argTypes type (args.map e)).run P w = .ok v w → (execOp e ⟨dst, .call ⟨.builtin .len, args, argTypes⟩, type, pos, after, guard⟩).run P w = .ok (.value v) w := by
        intro v hv
        have : execOp e ⟨dst, .call ⟨.builtin .len, args, argTypes⟩, type, pos, after, guard⟩ = (do pure (Next.value (← Builtin.len_ argTypes type (args.map e)))) := rfl
        rw [this]
        simp [hv]
      split at h
      · rename_i t x ht hx
        simp only [ht] at hq
        split at h
        · rename_i hu
          obtain ⟨v, h1, h2⟩ := lnS_run (P := P) (w := w) (ty := type) (c := ⟨.builtin .len, args, argTypes⟩) ht hx hu h
          exact ⟨v, fin h1, h2⟩
        · rename_i m hu
          obtain ⟨v, h1, h2⟩ := lnL_run (P := P) (w := w) (ty := type) (c := ⟨.builtin .len, args, argTypes⟩) ht hx hu h
          exact ⟨v, fin h1, h2⟩
        · exfalso
          first | (cases hq; done) | (split at hq <;> simp_all)
      · exact h.elim
    | _ => simp [quiet] at hq
  case panic x => simp [quiet] at hq

/-- the value of a guarded operation that changes nothing -/
theorem guarded_val {o : Oper} {ρ : Fr} {w : World} {K : KV} (hq : quiet P o = true) (h : guarded n ops o ρ w (opW P o (ev n ρ) w E) K) :
    ∃ v, K v w ∧ guarded n ops o ρ w (opW P o (ev n ρ) w E) (fun x _ => x = v) ∧
      ∀ u, looks o.op = false ∨ guarded n ops o ρ u (opW P o (ev n ρ) u E) (fun x _ => x = v) → Yv P ops o v (act n ρ ds) u := by
  have yv : ∀ v u, opW P o (ev n ρ) u E (fun x _ => x = v) → (execOp (act n ρ ds).eval o).run P u = .ok (.value v) u := by
    intro v u h
    rw [act_eval]
    obtain ⟨x, h1, h2⟩ := opQ_run (ev_const n ρ) hq h
    rw [h1, h2]
  unfold guarded at h ⊢
  cases hg : o.guard with
  | none =>
    simp only [hg] at h ⊢
    obtain ⟨v, hv, hall⟩ := opW_val hq h
    refine ⟨v, hv, hall w (.inr rfl), fun u hu => .inl ⟨by simp [Region.wanted, hg], yv v u ?_⟩⟩
    rcases hu with hu | hu
    · exact hall u (.inl hu)
    · exact hu
  | some g =>
    obtain ⟨j, want⟩ := g
    simp only [hg] at h ⊢
    replace h := h.out
    unfold GdD at h
    have hwanted : ∀ b, (match gval n ρ ops j with | .bool b => some b | _ => none) = b → Region.wanted o (yielded ops (act n ρ ds).tmps) = (b == some want) := by
      intro b hb
      simp only [Region.wanted, hg]
      rw [gval_yielded]
      exact congrArg (fun z => z == some want) hb
    generalize gval n ρ ops j = gv at h hwanted ⊢
    cases gv with
    | bool b =>
      simp only at h hwanted ⊢
      by_cases hbw : b = want
      · subst hbw
        simp only [if_true] at h ⊢
        obtain ⟨v, hv, hall⟩ := opW_val hq h
        refine ⟨v, hv, ⟨by unfold GdD; simp only [if_true]; exact hall w (.inr rfl)⟩, fun u hu => .inl ⟨by rw [hwanted _ rfl]; simp, yv v u ?_⟩⟩
        rcases hu with hu | hu
        · exact hall u (.inl hu)
        · have := hu.out; unfold GdD at this; simpa only [if_true] using this
      · simp only [if_neg hbw] at h ⊢
        exact ⟨undef, h, ⟨by unfold GdD; simp only [if_neg hbw]⟩, fun u _ => .inr ⟨by rw [hwanted _ rfl]; simp [hbw], rfl⟩⟩
    | _ => exact ⟨undef, h, ⟨rfl⟩, fun u _ => .inr ⟨by rw [hwanted _ rfl]; rfl, rfl⟩⟩

theorem drawW_sound {S : List Nat} (hSd : ∀ (i : Nat) (o : Oper), ops[i]? = some o → ∀ d, o.dst = some d → d ∈ S) (hs : Region.noSelect ops = true) (hE : ∀ ch w' ρ', E ch w' → Q' (.panic ch) (act n ρ' ds) w')
    (hQp : ∀ c a w d v, Q' (.panic c) (a.put d v) w → Q' (.panic c) a w) :
    ∀ (fuel : Nat) (listed : Array Bool) (G : List (Nat × (World → Prop))) (Q : Fr → World → Prop) (ρ : Fr) (w : World),
      (∀ ρ' w', (∀ i, i ∉ S → ρ' i = ρ i) → Q ρ' w' → Q' .normal (act n ρ' ds) w') → closed ops listed →
      drawW P n ops E Q fuel listed G ρ w → anyF P ops Q' (Fof ops G) fuel listed (act n ρ ds) w := by
  intro fuel
  induction fuel with
  | zero =>
    intro listed G Q ρ w hQ _ h
    simp only [drawW] at h
    split at h
    · rename_i hr; exact ⟨hr, hQ _ _ (fun _ _ => rfl) h⟩
    · exact h.elim
  | succ fuel ih =>
    intro listed G Q ρ w hQ hcl h
    simp only [drawW] at h
    have hQ1 : ∀ (i : Nat) (o : Oper) (v : Value), ops[i]? = some o → ∀ ρ' w', (∀ j, j ∉ S → ρ' j = upd ρ o.dst v j) → Q ρ' w' → Q' .normal (act n ρ' ds) w' := by
      intro i o v ho ρ' w' hag hq
      refine hQ ρ' w' (fun j hj => ?_) hq
      rw [hag j hj]
      exact upd_other (fun d hd => by rintro rfl; exact hj (hSd i o ho _ hd))
    split at h
    · rename_i i hp
      split at h
      · rename_i o ho
        have hfind := List.find?_some hp
        have hmem := List.mem_of_find?_eq_some hp
        simp only [ho, Bool.and_eq_true] at hfind
        obtain ⟨hq, hfree⟩ := hfind
        obtain ⟨v, hv, hg0, hyv⟩ := guarded_val (ds := ds) hq h
        have hsel := Region.noSelect_spec hs
        cases hl : looks o.op with
        | true =>
          simp only [hl, cond_true] at hv
          have hv' := ih _ _ Q _ w (hQ1 i o v ho) (closed_set hcl hmem) hv
          rw [← act_put n ρ ds o.dst v] at hv'
          refine anyF_first (F' := Fof ops (G ++ [(i, fun u => guarded n ops o ρ u (opW P o (ev n ρ) u E) fun v' _ => v' = v)]))
            (C := fun u => guarded n ops o ρ u (opW P o (ev n ρ) u E) fun v' _ => v' = v) ho hsel (fun c a w h => hQp c a w _ _ h) ?_ ?_ ?_ fuel listed _ w hcl (Region.free_spec ho hfree) hmem (fun u hu => hyv u (.inr hu)) hg0 hv'
          · intro j w1 w2 hf
            rcases hf with rfl | hf
            · exact .inl rfl
            · exact .inr fun p hp => hf p (List.mem_append_left _ hp)
          · exact fun w => .inl rfl
          · intro j w1 w2 hw hf hc
            rcases hf with rfl | hf
            · exact hc
            · exact hf _ (List.mem_append_right _ (List.mem_singleton.2 rfl)) hw
        | false =>
          simp only [hl, cond_false] at hv
          have hv' := ih _ _ Q _ w (hQ1 i o v ho) (closed_set hcl hmem) hv
          rw [← act_put n ρ ds o.dst v] at hv'
          exact anyF_first (F' := Fof ops G) (C := fun _ => True) ho hsel (fun c a w h => hQp c a w _ _ h) (fun _ _ _ h => h) (fun _ => .inl rfl) (fun _ _ _ _ _ _ => trivial) fuel listed _ w hcl (Region.free_spec ho hfree) hmem
            (fun u _ => hyv u (.inl hl)) trivial hv'
      · exact h.elim
    · rename_i hp
      split at h
      · exact h.elim
      · rename_i hne
        have hall := allOf_spec _ h
        refine ⟨fun h0 => absurd h0 hne, fun i hi => ?_⟩
        have hi' := hall i hi
        split at hi'
        · rename_i o ho
          unfold Go.wpOp
          simp only [ho]
          have key := guarded_sound (P := P) (n := n) (ds := ds) (ops := ops) (Q' := Q') (next := fun a' w' => Fof ops G i w w' ∧ anyF P ops Q' (Fof ops G) fuel (listed.setIfInBounds i true) a' w') hi'
            (fun K' hA hK' => op_sound hE hA hK') (fun v w' hk => by
              obtain ⟨h1, h2⟩ := kept_spec _ hk
              exact ⟨.inr h1, ih _ _ Q _ w' (hQ1 i o v ho) (closed_set hcl hi) h2⟩)
          split
          · rename_i hw; rw [if_pos hw] at key; exact .inl key
          · rename_i hw; rw [if_neg hw] at key; exact key
        · exact hi'.elim
end
end Go.W
