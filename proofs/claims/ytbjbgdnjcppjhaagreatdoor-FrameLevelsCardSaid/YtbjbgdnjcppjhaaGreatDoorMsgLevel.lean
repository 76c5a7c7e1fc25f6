/-
  entry.MsgLevel over this translation. Condition: the entries' numbers are of their kinds; at most 2^20 entries. By an AI agent.
-/
import Derived.Test.YtbjbgdnjcppjhaaGreatDoorFuncs
namespace Go.Proofs.YtbjbgdnjcppjhaaGreatDoor
open Go.RowKit Go.Sort
set_option linter.unusedVariables false
set_option linter.unusedSimpArgs false

set_option maxRecDepth 100000 in
set_option maxHeartbeats 4000000 in
theorem msgLevel_any (m : Msg) (s : Value) (hn : m.entries.length ≤ 1048576) (w : World) (hs : EntsAt w s m.entries) :
    Calls Tryz.prog 25 #[.agg (m.cells s)] w fun x w' => x = .returned (.int .i64 (msgLevelI m)) ∧ Below w.heap.size w w' := by
  have hc := fun W hW => containsEnt_any 58 (fun e => decide (e.kind = 11)) m.entries s high_enters (fun e _ W => high_any e W) hn W hW
  have hdef : msgLevelI m = if m.kind = 9 ∨ m.kind = 10 ∨ m.entries.any (fun e => decide (e.kind = 11)) = true then 2 else 1 := rfl
  generalize m.entries.any (fun e => decide (e.kind = 11)) = a at *
  have hsl : ∃ sa n sc, s = .slice sa n sc := by obtain ⟨sa, sc, h, _⟩ := hs; exact ⟨sa, _, sc, h⟩
  have HC := Lib.hid hc
  have HS := Lib.hid hs
  have HD := Lib.hid hdef
  clear hc hs hdef
  simp only [Msg.cells]
  by_cases h9 : m.kind = 9
  · have k9 : (m.kind == 9) = true := by rw [h9]; rfl
    have hr := Lib.hid (show msgLevelI m = 2 by rw [HD.out, if_pos (.inl h9)])
    clear h9
    go_enter Tryz.func25, Tryz.ntmps25
    go_wp2_with fail
    go_ret
    exact ⟨by rw [hr.out]; rfl, (Below.refl _ _).alloc (Nat.le_refl _) _⟩
  · have k9 : (m.kind == 9) = false := by simpa using h9
    by_cases h10 : m.kind = 10
    · have k10 : (m.kind == 10) = true := by rw [h10]; rfl
      have hr := Lib.hid (show msgLevelI m = 2 by rw [HD.out, if_pos (.inr (.inl h10))])
      clear h9 h10
      go_enter Tryz.func25, Tryz.ntmps25
      go_wp2_with fail
      go_ret
      exact ⟨by rw [hr.out]; rfl, (Below.refl _ _).alloc (Nat.le_refl _) _⟩
    · have k10 : (m.kind == 10) = false := by simpa using h10
      have hr : msgLevelI m = if a = true then 2 else 1 := by rw [HD.out]; simp [h9, h10]
      have HR := Lib.hid hr
      clear hr h9 h10
      go_enter Tryz.func25, Tryz.ntmps25
      go_wp2_with fail
      refine (HC.out _ (HS.out.below ((Below.refl _ _).alloc (Nat.le_refl _) _))).mono ?_
      rintro x w1 ⟨rfl, hb⟩
      cases a
      · go_wp2_with fail
        go_ret
        exact ⟨by rw [HR.out]; rfl, ((Below.refl _ _).alloc (Nat.le_refl _) _).trans (hb.mono (by simp))⟩
      · go_wp2_with fail
        go_ret
        exact ⟨by rw [HR.out]; rfl, ((Below.refl _ _).alloc (Nat.le_refl _) _).trans (hb.mono (by simp))⟩

end Go.Proofs.YtbjbgdnjcppjhaaGreatDoor
