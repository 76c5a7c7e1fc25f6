/-
  DERIVED. GIVEN WITH THE SEED: THE CARDS: each row of YtbjbgdnjcppjhaaGreatDoorRows.lean that lists a variable, with what it lists TIED to the program's text (the seventh form; the later family's looks); each row that meets fmt, with fmt's text TOLD by the authors' own Lean function (tested against real Go, not proved from fmt's source: count such statements apart). THE CARD IS WHAT COUNTS. Prove the row's statement (the work); the ties are given (YtbjbgdnjcppjhaaGreatDoorTie.lean); close each card by the builder's one call (the guide's Derived/Test/ToyasCard.lean, 'card_holds'). Laid BY PROGRAM, IN A SANDBOX (cutbox-door.mjs). By AI agents, Wed Nov 11 2026. No macro, syntax, notation, axiom, sorry.
-/
import Derived.Test.YtbjbgdnjcppjhaaGreatDoorRows
import GoSem.ClaimSeven
namespace Go.Proofs.YtbjbgdnjcppjhaaGreatDoor
namespace Rows

/-- THE TIED CARD OF 'pintlelaw06.SecondBack'. -/
def secondBackCard : Claim7 := { stood := { row := secondBackRow, standIns := [], harness := (true, "fe785ed7f71835590bdf97ed0a4bb700a2d596fce83dc1aa067d986123f71652"), looks := false }, kinds := [], alts := [], laidByText := true, laidKinds := [.data, .data, .data], laidTests := true, laidLooks := .later }
def SecondBackCardSaid : Prop := Claim7.holds Tryz.pinned (.plain (OpenSpec.ofChange secondBackSpec)) secondBackCard

/-- THE TIED CARD OF 'pintlelaw05.FirstBack'. -/
def firstBackCard : Claim7 := { stood := { row := firstBackRow, standIns := [], harness := (true, "fe785ed7f71835590bdf97ed0a4bb700a2d596fce83dc1aa067d986123f71652"), looks := false }, kinds := [], alts := [], laidByText := true, laidKinds := [.data, .data, .data, .data, .pinned], laidTests := true, laidLooks := .later }
def FirstBackCardSaid : Prop := Claim7.holds Tryz.pinned (.plain (OpenSpec.ofChange firstBackSpec)) firstBackCard

/-- THE TIED CARD OF 'pintlelaw07.FrameLevels'. -/
def frameLevelsCard : Claim7 := { stood := { row := frameLevelsRow, standIns := [], harness := (true, "fe785ed7f71835590bdf97ed0a4bb700a2d596fce83dc1aa067d986123f71652"), looks := false }, kinds := [], alts := [], laidByText := true, laidKinds := [.data, .data, .data, .data, .pinned], laidTests := true, laidLooks := .later }
def FrameLevelsCardSaid : Prop := Claim7.holds Tryz.pinned (.plain (OpenSpec.ofChange frameLevelsSpec)) frameLevelsCard

/-- THE SECOND FORM's CARD OF 'pintlelaw06.SecondBack'. -/
def secondBackUptoCard : Claim7 := { stood := { row := secondBackUptoRow, standIns := [], harness := (true, "fe785ed7f71835590bdf97ed0a4bb700a2d596fce83dc1aa067d986123f71652"), looks := false }, kinds := [], alts := [], laidByText := true, laidKinds := [.data, .data, .data], laidTests := true, laidLooks := .later }
def SecondBackUptoCardSaid : Prop := Claim7.holds Tryz.pinned (.plain (OpenSpec.upto secondBackSpec)) secondBackUptoCard

/-- THE SECOND FORM's CARD OF 'pintlelaw05.FirstBack'. -/
def firstBackUptoCard : Claim7 := { stood := { row := firstBackUptoRow, standIns := [], harness := (true, "fe785ed7f71835590bdf97ed0a4bb700a2d596fce83dc1aa067d986123f71652"), looks := false }, kinds := [], alts := [], laidByText := true, laidKinds := [.data, .data, .data, .data, .pinned], laidTests := true, laidLooks := .later }
def FirstBackUptoCardSaid : Prop := Claim7.holds Tryz.pinned (.plain (OpenSpec.upto firstBackSpec)) firstBackUptoCard

/-- THE SECOND FORM's CARD OF 'pintlelaw07.FrameLevels'. -/
def frameLevelsUptoCard : Claim7 := { stood := { row := frameLevelsUptoRow, standIns := [], harness := (true, "fe785ed7f71835590bdf97ed0a4bb700a2d596fce83dc1aa067d986123f71652"), looks := false }, kinds := [], alts := [], laidByText := true, laidKinds := [.data, .data, .data, .data, .pinned], laidTests := true, laidLooks := .later }
def FrameLevelsUptoCardSaid : Prop := Claim7.holds Tryz.pinned (.plain (OpenSpec.upto frameLevelsSpec)) frameLevelsUptoCard
end Rows
end Go.Proofs.YtbjbgdnjcppjhaaGreatDoor
