/-
  Entries compared. No condition. By an AI agent.
-/
import Derived.Test.YtbjbgdnjcppjhaaDoorText
import Derived.Laws.StructEq
namespace Go.Proofs.YtbjbgdnjcppjhaaDoor
open Go.RowKit
set_option linter.unusedVariables false
set_option linter.unusedSimpArgs false

/-- two entries are the same -/
def sameB (a b : Ent) : Bool :=
  decide (a.term = b.term ∧ a.index = b.index ∧ a.kind = b.kind ∧ a.client = b.client ∧ a.seq = b.seq ∧ a.block = b.block ∧ a.many = b.many ∧ a.node = b.node ∧ a.level = b.level ∧ a.data = b.data ∧ a.old = b.old)
theorem sameB_iff (a b : Ent) : sameB a b = true ↔ a = b := by
  obtain ⟨a1, a2, a3, a4, a5, a6, a7, a8, a9, a10, a11⟩ := a
  obtain ⟨b1, b2, b3, b4, b5, b6, b7, b8, b9, b10, b11⟩ := b
  simp [sameB]
theorem bytes_ext (a b : ByteArray) : a.toList = b.toList ↔ a = b := by
  rw [ByteArray.toList_eq, ByteArray.toList_eq]
  constructor
  · intro h
    cases a; cases b
    simp at h
    rw [h]
  · intro h; rw [h]

set_option maxRecDepth 100000 in
set_option maxHeartbeats 4000000 in
/-- entries compared, in any world -/
theorem ent_eq_run (a b : Ent) (W : World) : (binOp .eql 26 a.val b.val).run Tryd.prog W = .ok (.bool (sameB a b)) W := by
  obtain ⟨a1, a2, a3, a4, a5, a6, a7, a8, a9, a10, a11⟩ := a
  obtain ⟨b1, b2, b3, b4, b5, b6, b7, b8, b9, b10, b11⟩ := b
  simp only [Ent.val, Ent.cells]
  go_simp
  simp only [sameB, bytes_ext]
  by_cases h1 : a1 = b1
  · by_cases h2 : a2 = b2
    · by_cases h3 : a3 = b3
      · by_cases h4 : a4 = b4
        · by_cases h5 : a5 = b5
          · by_cases h6 : a6 = b6
            · by_cases h7 : a7 = b7
              · by_cases h8 : a8 = b8
                · by_cases h9 : a9 = b9
                  · by_cases h10 : a10 = b10
                    · by_cases h11 : a11 = b11 <;> simp [h1, h2, h3, h4, h5, h6, h7, h8, h9, h10, h11]
                    · simp [h1, h2, h3, h4, h5, h6, h7, h8, h9, h10, bytes_ext]
                  · simp [h1, h2, h3, h4, h5, h6, h7, h8, h9]
                · simp [h1, h2, h3, h4, h5, h6, h7, h8]
              · simp [h1, h2, h3, h4, h5, h6, h7]
            · simp [h1, h2, h3, h4, h5, h6]
          · simp [h1, h2, h3, h4, h5]
        · simp [h1, h2, h3, h4]
      · simp [h1, h2, h3]
    · simp [h1, h2]
  · simp [h1]

end Go.Proofs.YtbjbgdnjcppjhaaDoor
