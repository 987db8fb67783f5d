/-
  Plain facts on acts: what is sound stays sound; a slot that is booted keeps what it has.
-/
import Derived.Test.YtkidiijpbfgnnaaAct
set_option linter.unusedVariables false
set_option linter.unusedSimpArgs false
namespace Go.Proofs.Ytkidiijpbfgnnaa
open Sx
theorem sSound_iff (s : Slot) (c : Content) : sSound s c = true ↔ (s.full = true ↔ 0 < c.id) ∧ (s.full = true → s.ver = c.ver ∧ s.roll = c.roll) := by
  unfold sSound
  cases hf : s.full <;> simp <;> omega
theorem sound_iff (a : Abs) : a.sound = true ↔ sSound a.m.s0 a.c0 = true ∧ sSound a.m.s1 a.c1 = true := by simp [Abs.sound]
/-- what soundness asks of a slot -/
def Like (s s' : Slot) : Prop := s'.full = s.full ∧ s'.ver = s.ver ∧ s'.roll = s.roll
theorem Like.sound {s s' : Slot} {c : Content} (h : Like s s') (hs : sSound s c = true) : sSound s' c = true := by
  rw [sSound_iff] at hs ⊢
  rw [h.1, h.2.1, h.2.2]; exact hs
theorem Like.refl (s : Slot) : Like s s := ⟨rfl, rfl, rfl⟩
theorem like_try (s : Slot) : Like s s.try := by unfold Slot.try; split <;> exact ⟨rfl, rfl, rfl⟩
theorem like_good (s : Slot) : Like s s.good := by unfold Slot.good; split <;> exact ⟨rfl, rfl, rfl⟩
theorem like_yield (s : Slot) : Like s s.yield := by unfold Slot.yield; split <;> exact ⟨rfl, rfl, rfl⟩
theorem zero_sound : sSound ⟨false, 0, 0, false, 0, 0⟩ Content.none = true := by rw [sSound_iff]; simp [Content.none]
theorem upd_like (m : Meta) (k : Int) {f : Slot → Slot} (hf : ∀ s, Like s (f s)) : Like m.s0 (m.upd k f).s0 ∧ Like m.s1 (m.upd k f).s1 := by
  unfold Meta.upd
  repeat' split
  · exact ⟨hf _, .refl _⟩
  · exact ⟨.refl _, hf _⟩
  · exact ⟨.refl _, .refl _⟩
  · exact ⟨.refl _, .refl _⟩
theorem round_sound {next : Abs → Abs} (hn : ∀ a, a.sound = true → (next a).sound = true) (a : Abs) (h : a.sound = true) : (Abs.round next a).sound = true := by
  rw [sound_iff] at h
  unfold Abs.round
  repeat' split
  · rw [sound_iff]; simp only [Abs.at0, try0]; exact ⟨(like_try _).sound h.1, h.2⟩
  · exact hn _ ((sound_iff _).2 ⟨zero_sound, h.2⟩)
  · rw [sound_iff]; simp only [Abs.at1, try1]; exact ⟨h.1, (like_try _).sound h.2⟩
  · exact hn _ ((sound_iff _).2 ⟨h.1, zero_sound⟩)
  · exact (sound_iff _).2 h
theorem boot_sound (a : Abs) (h : a.sound = true) : a.boot.sound = true := by
  unfold Abs.boot
  split
  · have hl : ∀ a : Abs, a.sound = true → a.lost.sound = true := fun a h => (sound_iff _).2 ((sound_iff a).1 h)
    exact round_sound (fun a h => round_sound hl a h) a h
  · exact h
theorem freshAt0 (m : Meta) (t v n : Int) : m.fresh 0 t v n = ⟨⟨true, m.s1.first, clampT t, false, v, n⟩, m.s1.yield, m.roll⟩ := by
  simp [Meta.fresh, Meta.upd, Meta.first, wrap0]
theorem freshAt1 (m : Meta) (t v n : Int) : m.fresh 1 t v n = ⟨m.s0.yield, ⟨true, m.s0.first, clampT t, false, v, n⟩, m.roll⟩ := by
  simp [Meta.fresh, Meta.upd, Meta.first, wrap1]
theorem act_sound (a : Abs) (x : Act) (h : a.sound = true) (hx : x.kind ≠ 6 ∨ 0 < x.c.id) : (a.act x).sound = true := by
  have h' := (sound_iff a).1 h
  have off_like : ∀ s : Slot, Like s { s with prio := 0, ok := false } := fun s => ⟨rfl, rfl, rfl⟩
  unfold Abs.act
  split
  · exact boot_sound a h
  · split
    · repeat' split
      · obtain ⟨l0, l1⟩ := upd_like a.m 0 like_good
        exact (sound_iff _).2 ⟨l0.sound h'.1, l1.sound h'.2⟩
      · obtain ⟨l0, l1⟩ := upd_like a.m 1 like_good
        exact (sound_iff _).2 ⟨l0.sound h'.1, l1.sound h'.2⟩
      · exact h
    · split
      · repeat' split
        · obtain ⟨l0, l1⟩ := upd_like a.m 0 off_like
          exact (sound_iff _).2 ⟨l0.sound h'.1, l1.sound h'.2⟩
        · obtain ⟨l0, l1⟩ := upd_like a.m 1 off_like
          exact (sound_iff _).2 ⟨l0.sound h'.1, l1.sound h'.2⟩
        · exact h
      · split
        · exact (sound_iff _).2 h'
        · split
          · repeat' split
            · exact h
            · exact (sound_iff _).2 ⟨zero_sound, h'.2⟩
            · exact (sound_iff _).2 ⟨h'.1, zero_sound⟩
          · split
            · rename_i h6
              have hid : 0 < x.c.id := hx.resolve_left (fun e => e h6)
              have hs : ∀ p t : Int, sSound ⟨true, p, t, false, x.c.ver, x.c.roll⟩ x.c = true := fun p t => by rw [sSound_iff]; simp [hid]
              repeat' split
              · exact h
              · rw [sound_iff]; simp only [freshAt0]; exact ⟨hs _ _, (like_yield _).sound h'.2⟩
              · rw [sound_iff]; simp only [freshAt1]; exact ⟨(like_yield _).sound h'.1, hs _ _⟩
            · exact h
theorem act_keeps0 (a : Abs) (x : Act) (hb : a.booted = 0) : (a.act x).c0 = a.c0 ∧ (x.kind ≠ 4 → (a.act x).booted = 0) := by
  have ht : a.m.target 0 = 1 := by simp [Meta.target]
  unfold Abs.act
  rw [hb, ht]
  have hbt : a.boot = a := by unfold Abs.boot; rw [if_neg (by rw [hb]; omega)]
  rw [hbt]
  refine ⟨?_, fun h4 => ?_⟩
  · repeat' split
    all_goals first | rfl | contradiction | (simp_all; done) | (simp [Abs.empty1]; done)
  · repeat' split
    all_goals first | exact hb | contradiction | (simp_all [Abs.empty1]; done)
theorem act_keeps1 (a : Abs) (x : Act) (hb : a.booted = 1) : (a.act x).c1 = a.c1 ∧ (x.kind ≠ 4 → (a.act x).booted = 1) := by
  have ht : a.m.target 1 = 0 := by simp [Meta.target]
  unfold Abs.act
  rw [hb, ht]
  have hbt : a.boot = a := by unfold Abs.boot; rw [if_neg (by rw [hb]; omega)]
  rw [hbt]
  refine ⟨?_, fun h4 => ?_⟩
  · repeat' split
    all_goals first | rfl | contradiction | (simp_all; done) | (simp [Abs.empty0]; done)
  · repeat' split
    all_goals first | exact hb | contradiction | (simp_all [Abs.empty0]; done)
end Go.Proofs.Ytkidiijpbfgnnaa
