/- Own framework, third part: the operations that make values of parts, maps, appends; then one operation of whatever kind. -/
import Derived.Test.YtaaepbggooiblaaFwS
import Derived.Laws.AppendOwn
import Derived.Laws.OwnMore
set_option linter.unusedSimpArgs false
set_option linter.unusedVariables false
namespace Go.W
open Go
section
variable {P : Program} {w : World}

/-! ### parts -/
theorem foldl_put : ∀ (l : List Value) (cs : Array Value) (off k : Nat),
    ((l.zipIdx k).foldl (fun (cs : Array Value) (p : Value × Nat) => cs.setIfInBounds (off + p.2) p.1) cs).toList = putCells cs.toList (off + k) l := by
  intro l
  induction l with
  | nil => intro cs off k; simp [putCells]
  | cons v r ih =>
    intro cs off k
    simp only [List.zipIdx_cons, List.foldl_cons, putCells]
    rw [ih]
    simp [Nat.add_assoc]
theorem putCells_length : ∀ (l : List Value) (cs : List Value) (off : Nat), (putCells cs off l).length = cs.length := by
  intro l
  induction l with
  | nil => intro cs off; rfl
  | cons v r ih => intro cs off; simp [putCells, ih]
theorem fill_all (place : Nat → Option (Nat × Nat)) : ∀ (ps : List (Nat × Value)) (qs : List (Nat × Nat × Value)) (cells : Array Value) (r : List Value),
    ps.length = qs.length → (∀ (k : Nat) (p : Nat × Value) (q : Nat × Nat × Value), ps[k]? = some p → qs[k]? = some q → place p.1 = some (q.1, q.2.1) ∧ p.2 = q.2.2) →
    fillAll cells.toList qs = some r → Instr.fill place cells ps = some r.toArray := by
  intro ps
  induction ps with
  | nil =>
    intro qs cells r hl hk h
    cases qs with
    | nil => simp [fillAll] at h; simp [Instr.fill, ← h]
    | cons q qs => simp at hl
  | cons p ps ih =>
    intro qs cells r hl hk h
    cases qs with
    | nil => simp at hl
    | cons q qs =>
      obtain ⟨off, size, v⟩ := q
      obtain ⟨i, v'⟩ := p
      obtain ⟨hp, rfl⟩ := hk 0 (i, v') (off, size, v) rfl rfl
      simp only [fillAll] at h
      split at h
      · rename_i hc
        simp only [Instr.fill, hp]
        have h1 : (v'.cells.size ≠ size || off + v'.cells.size > cells.size) = false := by
          simp only [Array.length_toList] at hc
          simp [hc.1, hc.2]
        simp only [h1, Bool.false_eq_true, if_false]
        have hf := foldl_put v'.cells.toList cells off 0
        refine ih qs _ r (by simpa using hl) (fun k p q h1 h2 => hk (k + 1) p q (by simpa using h1) (by simpa using h2)) ?_
        rw [← Array.foldl_toList, Array.toList_zipIdx, hf, Nat.add_zero]
        exact h
      · cases h
theorem run_places {fs : Array Field} (h : allInfo P fs.toList = true) :
    (fs.mapM fun f => (do pure (f.offset, ← sizeOf f.type) : Sem (Nat × Nat))).run P w = .ok (fs.map fun f => (f.offset, P.cellsOf f.type)) w := by
  obtain ⟨l⟩ := fs
  simp only [List.mapM_toArray, Sem.run_map]
  have key : ∀ l : List Field, allInfo P l = true → (l.mapM fun f => (do pure (f.offset, ← sizeOf f.type) : Sem (Nat × Nat))).run P w = .ok (l.map fun f => (f.offset, P.cellsOf f.type)) w := by
    intro l
    induction l with
    | nil => intro _; simp
    | cons f r ih =>
      intro h
      simp only [allInfo, Bool.and_eq_true] at h
      cases hi : P.info? f.type with
      | none => simp [hi] at h
      | some i =>
        have := ih h.2
        simp only [bind_pure_comp] at this
        simp [List.mapM_cons, run_sizeOf hi, this, Program.cellsOf, hi]
  rw [key l h]
  simp
theorem structPlaces_spec (fs : Array Field) : ∀ (ps : List (Nat × Value)) (qs : List (Nat × Nat × Value)), structPlaces P fs ps = some qs →
    ps.length = qs.length ∧ ∀ (k : Nat) (p : Nat × Value) (q : Nat × Nat × Value), ps[k]? = some p → qs[k]? = some q → ((fs.map fun f => (f.offset, P.cellsOf f.type))[p.1]? = some (q.1, q.2.1)) ∧ p.2 = q.2.2 := by
  intro ps
  induction ps with
  | nil => intro qs h; simp [structPlaces] at h; subst h; simp
  | cons p ps ih =>
    intro qs h
    obtain ⟨i, v⟩ := p
    simp only [structPlaces] at h
    split at h
    · rename_i fl l hf hl
      simp only [Option.some.injEq] at h
      subst h
      obtain ⟨h1, h2⟩ := ih l hl
      refine ⟨by simp [h1], fun k p q hp hq => ?_⟩
      cases k with
      | zero => simp at hp hq; subst hp hq; simp [hf]
      | succ k => exact h2 k p q (by simpa using hp) (by simpa using hq)
    · cases h
theorem bu_run {t : TypeId} {fs : Array Field} {zero : Value} {ps : List (Nat × Value)} {qs : List (Nat × Nat × Value)} {K : Value → Prop}
    (hu : P.underlying t = some (.struct fs)) (hz : zeroOf P t = some zero) (ha : allInfo P fs.toList = true) (hs : structPlaces P fs ps = some qs) (h : Bu zero qs K) :
    ∃ v, (Instr.build t ps.toArray).run P w = .ok v w ∧ K v := by
  obtain ⟨h1, h2⟩ := structPlaces_spec fs ps qs hs
  replace h := h.out; unfold BuD at h
  split at h
  · rename_i cells hc
    refine ⟨_, ?_, h⟩
    have hf := fill_all (fun i => (fs.map fun f => (f.offset, P.cellsOf f.type))[i]?) ps qs zero.cells cells h1 h2 hc
    simp only [Instr.build, Sem.run_bind, run_zeroValue hz, Result.andThen_ok, run_underlying hu, run_places ha]
    rw [hf]
    simp
  · exact h.elim
theorem putCells_eq : ∀ (l : List Value) (cs : List Value) (off : Nat), off + l.length ≤ cs.length → putCells cs off l = cs.take off ++ l ++ cs.drop (off + l.length) := by
  intro l
  induction l with
  | nil => intro cs off h; simp [putCells]
  | cons v r ih =>
    intro cs off h
    simp only [List.length_cons] at h
    simp only [putCells]
    rw [ih _ _ (by simp; omega)]
    apply List.ext_getElem?
    intro j
    simp only [List.getElem?_append, List.length_append, List.length_take, List.length_set, List.length_cons, List.getElem?_drop, List.getElem?_take, List.getElem?_cons]
    by_cases h1 : j < off
    · have e1 : j < min (off + 1) cs.length := by omega
      have e2 : j < min (off + 1) cs.length + r.length := by omega
      have e3 : j < min off cs.length := by omega
      have e4 : j < min off cs.length + (r.length + 1) := by omega
      simp only [e1, e2, e3, e4, h1, show j < off + 1 by omega, if_true]
      rw [List.getElem?_set_ne (by omega)]
    · by_cases h2 : j = off
      · subst h2
        have e1 : j < min (j + 1) cs.length := by omega
        have e2 : j < min (j + 1) cs.length + r.length := by omega
        have e3 : ¬ j < min j cs.length := by omega
        have e4 : j < min j cs.length + (r.length + 1) := by omega
        have e5 : j - min j cs.length = 0 := by omega
        simp only [e1, e2, e3, e4, e5, show j < j + 1 by omega, if_true, if_false]
        rw [List.getElem?_set_self (by omega)]
      · by_cases h3 : j < off + 1 + r.length
        · have e1 : ¬ j < min (off + 1) cs.length := by omega
          have e2 : j < min (off + 1) cs.length + r.length := by omega
          have e3 : ¬ j < min off cs.length := by omega
          have e4 : j < min off cs.length + (r.length + 1) := by omega
          have e5 : j - min off cs.length ≠ 0 := by omega
          simp only [e1, e2, e3, e4, e5, if_true, if_false]
          congr 1
          omega
        · have e2 : ¬ j < min (off + 1) cs.length + r.length := by omega
          have e4 : ¬ j < min off cs.length + (r.length + 1) := by omega
          simp only [e2, e4, if_false]
          rw [List.getElem?_set_ne (by omega)]
          congr 1
          omega
theorem fillAll_run (size : Nat) : ∀ (vals : List Value) (k : Nat) (cs : List Value), (∀ v ∈ vals, v.cells.size = size) → (k + vals.length) * size ≤ cs.length →
    fillAll cs ((vals.zipIdx k).map fun p => (p.2 * size, size, p.1)) = some (cs.take (k * size) ++ vals.flatMap (·.cells.toList) ++ cs.drop ((k + vals.length) * size)) := by
  intro vals
  induction vals with
  | nil => intro k cs hv hl; simp [fillAll]
  | cons v r ih =>
    intro k cs hv hl
    have hs : v.cells.size = size := hv v (by simp)
    simp only [List.length_cons] at hl
    have hl' : (k + 1) * size ≤ cs.length := Nat.le_trans (Nat.mul_le_mul_right _ (by omega)) hl
    rw [Nat.add_mul, Nat.one_mul] at hl'
    simp only [List.zipIdx_cons, List.map_cons, fillAll]
    rw [if_pos ⟨hs, hl'⟩, ih (k + 1) _ (fun u hu => hv u (by simp [hu])) (by rw [putCells_length]; rw [show k + 1 + r.length = k + (r.length + 1) by omega]; exact hl)]
    rw [putCells_eq _ _ _ (by rw [Array.length_toList, hs]; exact hl')]
    simp only [List.flatMap_cons, List.length_cons, Option.some.injEq, Array.length_toList, hs]
    have e1 : (k + 1) * size = k * size + size := by rw [Nat.add_mul, Nat.one_mul]
    rw [e1, show k + 1 + r.length = k + (r.length + 1) by omega]
    have hlen : (List.take (k * size) cs ++ v.cells.toList).length = k * size + size := by simp [hs]; omega
    rw [List.take_append_of_le_length (by omega), List.take_of_length_le (by omega)]
    rw [List.drop_append, List.drop_of_length_le (by rw [hlen]; have : (k + (r.length + 1)) * size = k * size + size + r.length * size := by rw [show k + (r.length + 1) = k + 1 + r.length by omega, Nat.add_mul, Nat.add_mul, Nat.one_mul]
                                                     omega), hlen, List.drop_drop]
    have e2 : k * size + size + ((k + (r.length + 1)) * size - (k * size + size)) = (k + (r.length + 1)) * size := by
      have : (k + (r.length + 1)) * size = k * size + size + r.length * size := by rw [show k + (r.length + 1) = k + 1 + r.length by omega, Nat.add_mul, Nat.add_mul, Nat.one_mul]
      omega
    rw [e2]
    simp [List.append_assoc]
theorem covers_spec (e : Operand → Value) : ∀ (ps : List (Nat × Operand)) (k : Nat), covers k ps = true → (ps.map fun p => (p.1, e p.2)) = (((ps.map fun p => e p.2).zipIdx k).map fun p => (p.2, p.1)) := by
  intro ps
  induction ps with
  | nil => intro k h; rfl
  | cons p r ih =>
    intro k h
    obtain ⟨j, x⟩ := p
    simp only [covers, Bool.and_eq_true] at h
    have := Nat.eq_of_beq_eq_true h.1
    subst this
    simp [ih _ h.2]
theorem buS_run {t elem size len : Nat} {parts : Array (Nat × Operand)} {e : Operand → Value} {zero : Value} {K : KV} (hu : P.underlying t = some (.slice elem))
    (hsz : ∃ i, P.info? elem = some i ∧ i.size = size) (hlen : parts.toList.length = len) (hc : covers 0 parts.toList = true) (h1 : 1 ≤ size) (hb : len * size ≤ 16777216)
    (hz : zeroOf P elem = some zero) (h : BuS elem size (parts.toList.map fun p => e p.2) w K) :
    ∃ v w', (Instr.buildSlice t len (parts.map fun p => (p.1, e p.2))).run P w = .ok v w' ∧ K v w' := by
  obtain ⟨i, hi, rfl⟩ := hsz
  obtain ⟨hv, hK⟩ := h
  have hb' : ¬ 16777216 < len * i.size := by omega
  have hl2 : (parts.toList.map fun p => e p.2).length = len := by simpa using hlen
  have hfill : ∀ z : Array Value, Instr.fill (fun j => some (j * i.size, i.size)) ((Array.range (len * i.size)).map fun j => z[j % z.size]!) (parts.map fun p => (p.1, e p.2)).toList
      = some ((parts.toList.map fun p => e p.2).flatMap (·.cells.toList)).toArray := by
    intro z
    have hr := fillAll_run i.size (parts.toList.map fun p => e p.2) 0 ((Array.range (len * i.size)).map fun j => z[j % z.size]!).toList hv (by simp [hl2])
    refine fill_all _ _ _ _ _ ?_ ?_ (hr.trans ?_)
    · simp
    · intro k p q hp hq
      rw [Array.toList_map, covers_spec e _ 0 hc, List.getElem?_map] at hp
      rw [List.getElem?_map] at hq
      cases hx : ((parts.toList.map fun p => e p.2).zipIdx 0)[k]? with
      | none => simp [hx] at hp
      | some y => simp [hx] at hp hq; subst hp hq; simp
    · simp only [Nat.zero_mul, List.take_zero, List.nil_append, Nat.zero_add, hl2]
      rw [List.drop_of_length_le (by simp)]
      simp
  refine ⟨_, _, ?_, hK⟩
  have h24 : (2 : Nat) ^ 24 = 16777216 := by decide
  simp only [Instr.buildSlice, Sem.run_bind, run_underlying hu, Result.andThen_ok, run_sizeOf hi, h24]
  by_cases h0 : len * i.size = 0
  · have := hfill #[]
    simp only [h0] at this
    simp only [h0, show ¬ (0 : Nat) > 16777216 by omega, if_false, if_true, Sem.run_pure, Result.andThen_ok, Sem.run_bind]
    rw [this]
    simp [newRow, hl2]
  · simp only [hb', h0, if_false, Sem.run_pure, Result.andThen_ok, Sem.run_bind, run_zeroValue hz]
    rw [hfill]
    simp [newRow, hl2]

/-! ### maps -/
theorem checkKey_ok {kind : TypeDesc} {kt : TypeId} {e : Bool} {k : Value} (hk : P.underlying kt = some kind) (hkind : (∃ i, kind = .int i) ∨ kind = .string) :
    (Instr.checkKey e 10000 kt k).run P w = .ok () w := by
  rw [show (10000 : Nat) = 9999 + 1 from rfl]
  generalize 9999 = n
  rcases hkind with ⟨i, rfl⟩ | rfl <;> cases k <;> simp [Instr.checkKey, run_underlying hk]
theorem keyKind_spec {t : TypeId} {kind : TypeDesc} {el : TypeId} (h : keyKind P t = some (kind, el)) :
    ∃ kt, P.underlying t = some (.map kt el) ∧ P.underlying kt = some kind ∧ ((∃ i, kind = .int i) ∨ kind = .string) := by
  unfold keyKind at h
  split at h
  · rename_i k e hu
    split at h
    · rename_i i hk
      simp only [Option.some.injEq, Prod.mk.injEq] at h
      obtain ⟨rfl, rfl⟩ := h
      exact ⟨k, hu, hk, .inl ⟨i, rfl⟩⟩
    · rename_i hk
      simp only [Option.some.injEq, Prod.mk.injEq] at h
      obtain ⟨rfl, rfl⟩ := h
      exact ⟨k, hu, hk, .inr rfl⟩
    · cases h
  · cases h
theorem lk_run {t : TypeId} {kind : TypeDesc} {el : TypeId} {zero m k : Value} {ok : Bool} {K : Value → Prop} (ht : keyKind P t = some (kind, el))
    (hz : zeroOf P el = some zero) (h : Lk kind zero m k ok w K) : ∃ v, (Instr.lookup t m k ok).run P w = .ok v w ∧ K v := by
  obtain ⟨kt, hu, hk, hkind⟩ := keyKind_spec ht
  replace h := h.out; unfold LkD at h
  split at h
  · refine ⟨_, ?_, h⟩
    cases ok <;> simp [Instr.lookup, run_underlying hu, checkKey_ok hk hkind, Instr.findKey, run_underlying hk, Instr.findNow, run_zeroValue hz]
  · rename_i r
    split at h
    · rename_i es clock hr
      have hg : (getObj r).run P w = .ok (.map es clock) w := by simp [getObj, Sem.run, hr]
      split at h
      · rename_i i v hf
        refine ⟨_, ?_, h⟩
        cases ok <;> simp [Instr.lookup, run_underlying hu, hg, checkKey_ok hk hkind, Instr.findKey, run_underlying hk, hf]
      · rename_i hf
        refine ⟨_, ?_, h⟩
        cases ok <;> simp [Instr.lookup, run_underlying hu, hg, checkKey_ok hk hkind, Instr.findKey, run_underlying hk, hf, run_zeroValue hz]
      · exact h.elim
    · exact h.elim
  · exact h.elim
theorem findNow_key {kind : TypeDesc} {k : Value} : ∀ (es : List MapEntry) (n i : Nat) (v : Value), Instr.findNow kind k es n = some (some (i, v)) →
    ∃ e, es[i - n]? = some e ∧ n ≤ i ∧ e.val = v ∧ Instr.sameNow kind k e.key = some true := by
  intro es
  induction es with
  | nil => intro n i v h; simp [Instr.findNow] at h
  | cons e r ih =>
    intro n i v h
    simp only [Instr.findNow] at h
    split at h
    · rename_i hs
      simp only [Option.some.injEq, Prod.mk.injEq] at h
      obtain ⟨rfl, rfl⟩ := h
      exact ⟨e, by simp, Nat.le_refl _, rfl, hs⟩
    · obtain ⟨e', h1, h2, h3, h4⟩ := ih (n + 1) i v h
      refine ⟨e', ?_, by omega, h3, h4⟩
      rw [show i - n = (i - (n + 1)) + 1 by omega]
      simpa using h1
    · cases h
theorem sameBits_of {kind : TypeDesc} {k k' : Value} (hkind : (∃ i, kind = .int i) ∨ kind = .string) (h : Instr.sameNow kind k k' = some true) : Instr.sameBits 10000 k' k = true := by
  rw [show (10000 : Nat) = 9999 + 1 from rfl]
  generalize 9999 = n
  rcases hkind with ⟨i, rfl⟩ | rfl
  · cases k <;> cases k' <;> simp [Instr.sameNow] at h
    simp [Instr.sameBits, h.1, h.2]
  · cases k <;> cases k' <;> simp only [Instr.sameNow, Option.some.injEq, reduceCtorEq] at h
    rename_i a b
    have h2 : a.data = b.data := eq_of_beq h
    have : a = b := by cases a; cases b; simp_all
    subst this
    simpa [Instr.sameBits] using h
theorem mu_run {t : TypeId} {kind : TypeDesc} {el : TypeId} {m k v : Value} {K : World → Prop} (ht : keyKind P t = some (kind, el))
    (h : Mu kind m k v w K) : ∃ w', (Instr.mapUpdate t m k v).run P w = .ok () w' ∧ K w' := by
  obtain ⟨kt, hu, hk, hkind⟩ := keyKind_spec ht
  replace h := h.out; unfold MuD at h
  split at h
  · rename_i r
    split at h
    · rename_i es clock hr
      have hg : (getObj r).run P w = .ok (.map es clock) w := by simp [getObj, Sem.run, hr]
      have hset : ∀ o, (setObj r o).run P w = .ok () (setObjW w r o) := fun o => by simp [setObj, Sem.run, hr, setObjW]
      split at h
      · rename_i i v' hf
        refine ⟨_, ?_, h⟩
        obtain ⟨e, he, _, _, hs⟩ := findNow_key _ _ _ _ hf
        have he' : es[i]? = some e := by simpa using he
        simp [Instr.mapUpdate, run_underlying hu, hg, checkKey_ok hk hkind, Instr.findKey, run_underlying hk, hf, Instr.keyThatStays, he', sameBits_of hkind hs, hset]
      · rename_i hf
        refine ⟨_, ?_, h⟩
        simp [Instr.mapUpdate, run_underlying hu, hg, checkKey_ok hk hkind, Instr.findKey, run_underlying hk, hf, hset]
      · exact h.elim
    · exact h.elim
  · exact h.elim

/-! ### append -/
theorem src_run {size : Nat} {x : Value} {n : Nat} {l : List Value} (h : srcCells size x w = some (n, l)) :
    Builtin.lenOf x = pure n ∧ (Builtin.firstCells size n x).run P w = .ok l.toArray w := by
  unfold srcCells at h
  split at h
  · rename_i a m c
    cases hc : cellsAt w a 0 (m * size) with
    | none => simp [hc] at h
    | some r =>
      simp [hc] at h
      obtain ⟨rfl, rfl⟩ := h
      exact ⟨rfl, run_loadCells' hc⟩
  · simp only [Option.some.injEq, Prod.mk.injEq] at h
    obtain ⟨rfl, rfl⟩ := h
    exact ⟨rfl, rfl⟩
  · rename_i s
    simp only [Option.some.injEq, Prod.mk.injEq] at h
    obtain ⟨rfl, rfl⟩ := h
    refine ⟨rfl, ?_⟩
    have : s.extract 0 s.size = s := by simp
    simp only [Builtin.firstCells, this, Sem.run_pure]
    congr 1
    apply Array.ext'
    simp
  · cases h
theorem cellsAt_congr {w w' : World} (h : ∀ a, w'.cell? a = w.cell? a) (a : Addr) : ∀ n i, cellsAt w' a i n = cellsAt w a i n := by
  intro n
  induction n with
  | zero => intro i; rfl
  | succ n ih => intro i; simp [cellsAt, h, ih]
theorem src_drew {size : Nat} {x : Value} : srcCells size x w.drew = srcCells size x w := by
  unfold srcCells
  split <;> first | rfl | (rw [cellsAt_congr (w := w) (w' := w.drew) (fun _ => rfl)])
theorem ap_run {t u ty el : TypeId} {i : TypeInfo} {zero s x : Value} {K : KV} (ht : P.underlying t = some (.slice el)) (hux : ∃ d, P.underlying u = some d ∧ ∀ k, d ≠ .int k)
    (hi : P.info? el = some i) (hz : i.zero = some zero) (hb : 1 ≤ i.bytes) (h : Ap el i.size i.bytes zero s x w K) :
    ∃ v w', (Builtin.append_ #[t, u] ty #[s, x]).run P w = .ok v w' ∧ K v w' := by
  obtain ⟨d, hd, hnd⟩ := hux
  have hzero : (match d with | .int _ => true | _ => false) = false := by cases d <;> first | rfl | exact absurd rfl (hnd _)
  have hzv : (zeroValue el).run P w = .ok zero w := run_zeroValue (by simp [zeroOf, hi, hz])
  replace h := h.out; unfold ApD at h
  split at h
  · rename_i base len cap
    obtain ⟨n, news, hsrc, h⟩ := h
    obtain ⟨hl, hf⟩ := src_run (P := P) hsrc
    by_cases hfit : len + n ≤ cap
    · rw [if_pos hfit] at h
      split at h
      · rename_i a
        split at h
        · rename_i w' hw'
          refine ⟨_, _, ?_, h⟩
          have hst := run_storeCells' (P := P) _ news 0 w w' hw'
          simp [Builtin.append_, run_underlying ht, run_sizeOf hi, run_underlying hd, hl, hfit, hf, hst]
        · exact h.elim
      · refine ⟨_, _, ?_, h⟩
        simp [Builtin.append_, run_underlying ht, run_sizeOf hi, run_underlying hd, hl, hfit, hf]
    · rw [if_neg hfit] at h
      obtain ⟨hbound, olds, m, ho, hK⟩ := h
      have ho' : srcCells i.size (.slice base len cap) w.drew = some (m, olds) := by rw [src_drew]; exact ho
      have hn' : srcCells i.size x w.drew = some (n, news) := by rw [src_drew]; exact hsrc
      obtain ⟨ho1, ho2⟩ := src_run (P := P) ho'
      obtain ⟨hn1, hn2⟩ := src_run (P := P) hn'
      have hm : m = len := by
        cases base with
        | none => simp [srcCells] at ho; exact ho.1.symm
        | some a =>
          simp only [srcCells] at ho
          cases hc : cellsAt w a 0 (len * i.size) with
          | none => simp [hc] at ho
          | some r => simp [hc] at ho; exact ho.1.symm
      subst hm
      have h48 : ¬ 281474976710656 < Builtin.nextslicecap (m + n) cap * i.bytes := by
        have := growslice_fits (need := m + n) (old := cap) (bytes := i.bytes) (by omega) hbound
        omega
      have hq : (Question.appendCap (m + n) cap el).forced = false := rfl
      have hb0 : i.bytes ≠ 0 := by omega
      have hzv' : (zeroValue el).run P w.drew = .ok zero w.drew := run_zeroValue (by simp [zeroOf, hi, hz])
      refine ⟨_, _, ?_, hK ((Question.appendCap (m + n) cap el).cut (w.tape w.drawn (.appendCap (m + n) cap el))) (by simp [Question.cut])⟩
      simp [Builtin.append_, run_underlying ht, run_sizeOf hi, run_underlying hd, hl, hfit, run_typeInfo hi, hb0, h48, hq, ho2, hn2, hzv', newRow]
      refine congrArg _ (congrArg (fun c => Obj.cells c el) ?_)
      apply Array.ext'
      simp
  · exact h.elim
end
end Go.W
