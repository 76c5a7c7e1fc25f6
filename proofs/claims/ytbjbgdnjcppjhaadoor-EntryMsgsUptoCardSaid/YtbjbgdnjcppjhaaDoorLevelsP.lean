/-
  PLAIN LAW of EntryLevels: the levels of an entry and of a message that are right. No condition. By an AI agent.
-/
import Derived.Test.YtbjbgdnjcppjhaaDoorNoteP
namespace Go.Proofs.YtbjbgdnjcppjhaaDoor
open Go.RowKit
set_option linter.unusedVariables false

theorem levelI_is (k : Int) : ((levelI k == 2) = (k == 11)) ∧ 1 ≤ levelI k ∧ levelI k ≤ 2 := by
  unfold levelI
  by_cases h : k = 11
  · rw [if_pos h, h]; decide
  · rw [if_neg h]
    have : (k == 11) = false := by simpa using h
    rw [this]; decide
/-- is there something of level 2 in the message? -/
def highB (m : Msg) : Bool := (m.kind == 9 || m.kind == 10) || m.entries.any fun e => decide (e.kind = 11)
theorem msgLevelI_is (m : Msg) : ((msgLevelI m == 2) = highB m) ∧ 1 ≤ msgLevelI m ∧ msgLevelI m ≤ 2 := by
  have hd : msgLevelI m = if highB m = true then 2 else 1 := by
    unfold msgLevelI highB
    congr 1
    simp [or_assoc]
  rw [hd]
  cases highB m <;> decide

end Go.Proofs.YtbjbgdnjcppjhaaDoor
