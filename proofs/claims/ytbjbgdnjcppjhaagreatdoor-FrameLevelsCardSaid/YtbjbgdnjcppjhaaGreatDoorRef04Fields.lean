/-
  pintleref04's Fields and MsgFields over this translation. No condition. By an AI agent.
-/
import Derived.Test.YtbjbgdnjcppjhaaGreatDoorLeaf
namespace Go.Proofs.YtbjbgdnjcppjhaaGreatDoor
open Go.RowKit
set_option linter.unusedVariables false
set_option linter.unusedSimpArgs false

set_option maxRecDepth 100000 in
set_option maxHeartbeats 4000000 in
theorem refFields_any (k : Int) (w : World) :
    Calls Tryz.prog 38 #[.int .i64 k] w fun e w' => e = .returned (.tuple #[.string ⟨(entL k).toArray⟩, .bool (entOk k)]) ∧ Below w.heap.size w w' := by
  by_cases h : 0 ≤ k ∧ k ≤ 11
  · have : k = 0 ∨ k = 1 ∨ k = 2 ∨ k = 3 ∨ k = 4 ∨ k = 5 ∨ k = 6 ∨ k = 7 ∨ k = 8 ∨ k = 9 ∨ k = 10 ∨ k = 11 := by omega
    rcases this with rfl | rfl | rfl | rfl | rfl | rfl | rfl | rfl | rfl | rfl | rfl | rfl
    all_goals
      go_enter Tryz.func38, Tryz.ntmps38
      go_wp2
      go_ret2
      exact ⟨rfl, (Below.refl _ _).alloc (Nat.le_refl _) _⟩
  · have e1 : entL k = [] := by
      unfold entL
      repeat (rw [if_neg (by omega)])
    have e2 : entOk k = false := by unfold entOk; simp; omega
    rw [e1, e2]
    clear e1 e2
    rcases (show k < 0 ∨ 11 < k by omega) with h' | h'
    · clear h
      go_enter Tryz.func38, Tryz.ntmps38
      go_wp2
      go_ret2
      exact ⟨rfl, Below.refl _ _⟩
    · have h2 : decide (k < 0) = false := decide_eq_false (by omega)
      have h3 : 0 ≤ k := by omega
      clear h
      go_enter Tryz.func38, Tryz.ntmps38
      go_wp2
      go_ret2
      exact ⟨rfl, Below.refl _ _⟩

set_option maxRecDepth 100000 in
set_option maxHeartbeats 4000000 in
theorem refMsgFields_any (k : Int) (w : World) :
    Calls Tryz.prog 41 #[.int .i64 k] w fun e w' => e = .returned (.tuple #[.string ⟨(msgL k).toArray⟩, .bool (msgOk k)]) ∧ Below w.heap.size w w' := by
  by_cases h : 1 ≤ k ∧ k ≤ 10
  · have : k = 1 ∨ k = 2 ∨ k = 3 ∨ k = 4 ∨ k = 5 ∨ k = 6 ∨ k = 7 ∨ k = 8 ∨ k = 9 ∨ k = 10 := by omega
    rcases this with rfl | rfl | rfl | rfl | rfl | rfl | rfl | rfl | rfl | rfl
    all_goals
      go_enter Tryz.func41, Tryz.ntmps41
      go_wp2
      go_ret2
      exact ⟨rfl, (Below.refl _ _).alloc (Nat.le_refl _) _⟩
  · have e1 : msgL k = [] := by
      unfold msgL
      repeat (rw [if_neg (by omega)])
    have e2 : msgOk k = false := by unfold msgOk; simp; omega
    rw [e1, e2]
    clear e1 e2
    rcases (show k < 1 ∨ 10 < k by omega) with h' | h'
    · clear h
      go_enter Tryz.func41, Tryz.ntmps41
      go_wp2
      go_ret2
      exact ⟨rfl, Below.refl _ _⟩
    · have h2 : decide (k < 1) = false := decide_eq_false (by omega)
      have h3 : 1 ≤ k := by omega
      clear h
      go_enter Tryz.func41, Tryz.ntmps41
      go_wp2
      go_ret2
      exact ⟨rfl, Below.refl _ _⟩

end Go.Proofs.YtbjbgdnjcppjhaaGreatDoor
