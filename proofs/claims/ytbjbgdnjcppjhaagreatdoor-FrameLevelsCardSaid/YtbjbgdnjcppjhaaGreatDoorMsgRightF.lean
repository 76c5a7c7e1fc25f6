/-
  CLOSED FACTS on the one great region of entry.MsgRight: which stretches of it may be walked in the order of the text. No condition. By an AI agent.
-/
import Derived.Test.YtbjbgdnjcppjhaaGreatDoorRows
import Derived.Test.YtbjbgdnjcppjhaaGreatDoorRegion
import Derived.KernelRfl
namespace Go.Proofs.YtbjbgdnjcppjhaaGreatDoor

noncomputable def msgRightOps : Array Oper := regionOf Tryz.f13 2
theorem msgRightSeg1 : (segOk .any msgRightOps (Array.replicate 59 false) (List.range' 0 12) 11 && decide (0 + 12 ≤ msgRightOps.size)) = true := by kernel_rfl
theorem msgRightSeg2 : (segOk .any msgRightOps ((setAll (Array.replicate 59 false) (List.range' 0 12)).setIfInBounds 12 true) (List.range' 13 42) 55 && decide (13 + 42 ≤ msgRightOps.size)) = true := by kernel_rfl
theorem msgRightSeg3 : (segOk .any msgRightOps (Array.replicate 59 false) (List.range' 0 59) 58 && decide (0 + 59 ≤ msgRightOps.size)) = true := by kernel_rfl

end Go.Proofs.YtbjbgdnjcppjhaaGreatDoor
