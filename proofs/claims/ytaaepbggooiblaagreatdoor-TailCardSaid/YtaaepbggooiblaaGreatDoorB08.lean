/- Texts of mine, one behind the other; nothing is assumed. -/
import Derived.Test.YtaaepbggooiblaaGreatDoorB07
set_option linter.unusedSimpArgs false
set_option linter.unusedVariables false
namespace Go.M
section
variable {defs : List (By × Def)} {lim wl : Lim} {t : Ty} {b : By}
theorem decT_ok {v : List Nd} (h : decT defs lim t b = .ok v) : ∃ d,semT (zRead lim) (sem (zRead lim) defs lim.depth.toNat) t ⟨b,0,[]⟩ = .ok d ∧ b.length ≤ d.pos ∧ v = d.l := by
 unfold decT at h
 obtain ⟨d,h1,h2⟩ := Res.then_ok h
 split at h2
 ·cases h2
 ·cases h2; exact ⟨d,h1,by omega,rfl⟩
theorem decT_far {v : List Nd} (ho : okDefs defs) (ht : okT t = true) (h : decT defs lim t b = .ok v) : ∃ d,semT (zRead lim) (sem (zRead lim) defs lim.depth.toNat) t ⟨b,0,[]⟩ = .ok d ∧ d = ⟨b,b.length,v⟩ ∧ Far ⟨b,0,[]⟩ d := by
 obtain ⟨d,h1,h2,rfl⟩ := decT_ok h
 have hf := (each_far lim).ty ((each_far lim).sem ho _) t ht h1
 have h3 := hf.in_ (Nat.zero_le _)
 have h4 := hf.b
 refine ⟨d,h1,?_,hf⟩
 obtain ⟨x,y,z⟩ := d
 simp only at h2 h3 h4 ⊢
 subst h4
 rw [Nat.le_antisymm h3 h2]
theorem extT {v : List Nd} (ho : okDefs defs) (ht : okT t = true) (h : decT defs lim t b = .ok v) (more : By) (hf : lim.fuel ≤ wl.fuel) (hd : lim.depth ≤ wl.depth) :
  semT (zRead wl) (sem (zRead wl) defs wl.depth.toNat) t ⟨b ++ more,0,[]⟩ = .ok ⟨b ++ more,b.length,v⟩ := by
 obtain ⟨d,h1,rfl,_⟩ := decT_far ho ht h
 have hb := ext_beside (lim := lim) (wl := wl) hf more
 obtain ⟨e,h2,h3⟩ := hb.ty (hb.sem ho _ wl.depth.toNat (by omega)) t ht (e := ⟨b ++ more,0,[]⟩) h1 trivial ⟨rfl,rfl,rfl⟩
 rw [h2]
 obtain ⟨x,y,z⟩ := e
 have e1 := h3.b
 have e2 := h3.pos
 have e3 := h3.l
 simp only at e1 e2 e3
 rw [e1,e2,e3]
theorem tailT {v : List Nd} (ho : okDefs defs) (ht : okT t = true) (h : decT defs lim t b = .ok v) {more : By} (hm : more ≠ []) : decT defs lim t (b ++ more) = .no 20 b.length := by
 have := extT (wl := lim) ho ht h more (Int.le_refl _) (Int.le_refl _)
 unfold decT
 rw [this,Res.ok_then,if_pos (by have := List.length_pos_iff.mpr hm; simp only [List.length_append]; omega)]
theorem shortT {v : List Nd} (ho : okDefs defs) (ht : okT t = true) (h : decT defs lim t b = .ok v) {k : Nat} (hk : k < b.length) : ∃ e a,decT defs lim t (b.take k) = .no e a := by
 cases h2 : decT defs lim t (b.take k) with
 | no e a => exact ⟨e,a,rfl⟩
 | ok u =>
  have h3 := extT (wl := lim) ho ht h2 (b.drop k) (Int.le_refl _) (Int.le_refl _)
  rw [List.take_append_drop] at h3
  obtain ⟨d,h1,rfl,_⟩ := decT_far ho ht h
  rw [h1] at h3
  injection h3 with h3
  injection h3 with _ h3 _
  rw [List.length_take] at h3
  omega
theorem bigT {v : List Nd} (ho : okDefs defs) (ht : okT t = true) (hv : t ≠ .void) (h : decT defs lim t b = .ok v) : 4 ∣ b.length ∧ 4 ≤ b.length ∧ v ≠ [] ∧ Ord b 0 v b.length ∧ 4 * (texts v).length ≤ b.length := by
 obtain ⟨d,h1,rfl,hf⟩ := decT_far ho ht h
 have hb := big_ty ((each_far lim).sem ho _) (big_sem ho _) t ht hv h1
 obtain ⟨ns,e1,e2,e3⟩ := hf.ex
 have hd := hf.dvd
 have h4 := hb.1
 have h5 := hb.2
 simp only [List.nil_append] at e1
 subst e1
 refine ⟨by simpa using hd,by simpa using h4,fun h => ?_,e2,by simpa using e3⟩
 rw [h] at h5
 simp at h5
end
end Go.M
