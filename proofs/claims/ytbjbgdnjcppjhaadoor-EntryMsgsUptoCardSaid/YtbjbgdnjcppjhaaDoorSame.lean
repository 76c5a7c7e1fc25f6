/-
  entry.Same over this translation. No condition. By an AI agent.
-/
import Derived.Test.YtbjbgdnjcppjhaaDoorSameE
namespace Go.Proofs.YtbjbgdnjcppjhaaDoor
open Go.RowKit
set_option linter.unusedVariables false
set_option linter.unusedSimpArgs false

set_option maxRecDepth 100000 in
set_option maxHeartbeats 4000000 in
theorem same_any (a b : Ent) (w : World) :
    Calls Tryd.prog 19 #[a.val, b.val] w fun x w' => x = .returned (.bool (sameB a b)) ∧ Below w.heap.size w w' := by
  have hq := ent_eq_run a b
  generalize hs : sameB a b = r at *
  obtain ⟨a1, a2, a3, a4, a5, a6, a7, a8, a9, a10, a11⟩ := a
  obtain ⟨b1, b2, b3, b4, b5, b6, b7, b8, b9, b10, b11⟩ := b
  simp only [Ent.val, Ent.cells] at *
  clear hs
  go_enter Tryd.func19, Tryd.ntmps19
  go_wp2_with fail
  go_ret
  exact ⟨rfl, ((Below.refl _ _).alloc (Nat.le_refl _) _).alloc (by simp) _⟩

end Go.Proofs.YtbjbgdnjcppjhaaDoor
