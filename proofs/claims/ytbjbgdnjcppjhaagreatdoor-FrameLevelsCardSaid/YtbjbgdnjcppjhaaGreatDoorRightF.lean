/-
  CLOSED FACTS on the one great region of entry.Right: which stretches of it may be walked in the order of the text. No condition. By an AI agent.
-/
import Derived.Test.YtbjbgdnjcppjhaaGreatDoorRows
import Derived.Test.YtbjbgdnjcppjhaaGreatDoorRegion
import Derived.KernelRfl
namespace Go.Proofs.YtbjbgdnjcppjhaaGreatDoor

noncomputable def rightOps : Array Oper := regionOf Tryz.f35 2
theorem rightSeg1 : (segOk .any rightOps (Array.replicate 78 false) (List.range' 0 12) 11 && decide (0 + 12 ≤ rightOps.size)) = true := by kernel_rfl
theorem rightSeg2 : (segOk .any rightOps ((setAll (Array.replicate 78 false) (List.range' 0 12)).setIfInBounds 12 true) (List.range' 13 61) 74 && decide (13 + 61 ≤ rightOps.size)) = true := by kernel_rfl
theorem rightSeg3 : (segOk .any rightOps (Array.replicate 78 false) (List.range' 0 78) 77 && decide (0 + 78 ≤ rightOps.size)) = true := by kernel_rfl

end Go.Proofs.YtbjbgdnjcppjhaaGreatDoor
