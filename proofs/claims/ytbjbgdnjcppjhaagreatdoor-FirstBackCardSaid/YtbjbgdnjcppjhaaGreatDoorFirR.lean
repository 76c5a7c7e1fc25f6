/-
  PLAIN: what is right and of level 1 has no old text; a message of level 1 has entries of level 1 alone. No program is imported but by name. No condition. By an AI agent.
-/
import Derived.Test.YtbjbgdnjcppjhaaGreatDoorFirQ
namespace Go.Proofs.YtbjbgdnjcppjhaaGreatDoor
open Go.RowKit
set_option linter.unusedSimpArgs false
set_option linter.unusedVariables false

theorem entL_old (k : Int) (h : k ≠ 11) : (entL k).contains 111 = false := by
  unfold entL
  repeat' split
  all_goals first | rfl | exact absurd ‹k = 11› h
theorem level_one {k : Int} (h : levelI k = 1) : k ≠ 11 := by
  intro h0
  subst h0
  cases h
theorem old_none (e : Ent) (hr : rightB e = true) (hl : levelI e.kind = 1) : e.old = ⟨#[]⟩ := by
  have hc := entL_old e.kind (level_one hl)
  unfold rightB at hr
  simp only [Bool.and_eq_true] at hr
  have hf := hr.2
  unfold fitB at hf
  have h1 := List.all_eq_true.1 hf (111, !decide (e.old.size = 0), decide (e.old.size ≤ 64)) (by simp [Ent.flds])
  unfold fldOk at h1
  rw [if_neg (by rw [hc]; decide)] at h1
  have hs : e.old.size = 0 := by simpa using h1
  have : e.old.data = #[] := Array.eq_empty_of_size_eq_zero hs
  exact ByteArray.ext this
theorem level_ents (m : Msg) (h : msgLevelI m = 1) : ∀ e ∈ m.entries, levelI e.kind = 1 := by
  intro e he
  unfold msgLevelI at h
  split at h
  · cases h
  · rename_i hc
    simp only [not_or] at hc
    unfold levelI
    rw [if_neg (fun h0 => hc.2.2 (List.any_eq_true.2 ⟨e, he, by simpa using h0⟩))]
theorem level_own (m : Msg) (h : SmallM m) (hl : msgLevelI m = 1) : ∀ e ∈ m.entries, levelI e.kind = 1 ∧ e.old = ⟨#[]⟩ := fun e he =>
  ⟨level_ents m hl e he, old_none e (h.each e he).2 (level_ents m hl e he)⟩
theorem level_two (m : Msg) : msgLevelI m = 1 ∨ msgLevelI m = 2 := by
  unfold msgLevelI
  split
  · exact .inr rfl
  · exact .inl rfl
theorem levelE_two (k : Int) : levelI k = 1 ∨ levelI k = 2 := by
  unfold levelI
  split
  · exact .inr rfl
  · exact .inl rfl

end Go.Proofs.YtbjbgdnjcppjhaaGreatDoor
