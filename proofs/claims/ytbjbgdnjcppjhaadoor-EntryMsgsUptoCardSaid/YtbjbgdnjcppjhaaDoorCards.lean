/-
  DERIVED. GIVEN WITH THE SEED: THE CARDS: each row of YtbjbgdnjcppjhaaDoorRows.lean that lists a variable, with what it lists TIED to the program's text (the seventh form; the later family's looks); each row that meets fmt, with fmt's text TOLD by the authors' own Lean function (tested against real Go, not proved from fmt's source: count such statements apart). THE CARD IS WHAT COUNTS. Prove the row's statement (the work); the ties are given (YtbjbgdnjcppjhaaDoorTie.lean); close each card by the builder's one call (the guide's Derived/Test/ToyasCard.lean, 'card_holds'). Laid BY PROGRAM, IN A SANDBOX (cutbox-door.mjs). By AI agents, Wed Nov 11 2026. No macro, syntax, notation, axiom, sorry.
-/
import Derived.Test.YtbjbgdnjcppjhaaDoorRows
import GoSem.ClaimSeven
namespace Go.Proofs.YtbjbgdnjcppjhaaDoor
namespace Rows

/-- THE TIED CARD OF 'pintlelaw04.EntryBounds'. -/
def entryBoundsCard : Claim7 := { stood := { row := entryBoundsRow, standIns := [], harness := (true, "b2144574da2c25f7a087190aaae38b4fcedc451abfdc563d95427990b4d6a4a7"), looks := false }, kinds := [], alts := [], laidByText := true, laidKinds := [.data, .data, .data], laidTests := true, laidLooks := .later }
def EntryBoundsCardSaid : Prop := Claim7.holds Tryd.pinned (.plain (OpenSpec.ofChange entryBoundsSpec)) entryBoundsCard

/-- THE TIED CARD OF 'pintlelaw04.EntryRight'. -/
def entryRightCard : Claim7 := { stood := { row := entryRightRow, standIns := [], harness := (true, "b2144574da2c25f7a087190aaae38b4fcedc451abfdc563d95427990b4d6a4a7"), looks := false }, kinds := [], alts := [], laidByText := true, laidKinds := [.data, .data, .data], laidTests := true, laidLooks := .later }
def EntryRightCardSaid : Prop := Claim7.holds Tryd.pinned (.plain (OpenSpec.ofChange entryRightSpec)) entryRightCard

/-- THE TIED CARD OF 'pintlelaw04.EntryTexts'. -/
def entryTextsCard : Claim7 := { stood := { row := entryTextsRow, standIns := [], harness := (true, "b2144574da2c25f7a087190aaae38b4fcedc451abfdc563d95427990b4d6a4a7"), looks := false }, kinds := [], alts := [], laidByText := true, laidKinds := [.data, .data, .data], laidTests := true, laidLooks := .later }
def EntryTextsCardSaid : Prop := Claim7.holds Tryd.pinned (.plain (OpenSpec.ofChange entryTextsSpec)) entryTextsCard

/-- THE TIED CARD OF 'pintlelaw04.EntryKinds'. -/
def entryKindsCard : Claim7 := { stood := { row := entryKindsRow, standIns := [], harness := (true, "b2144574da2c25f7a087190aaae38b4fcedc451abfdc563d95427990b4d6a4a7"), looks := false }, kinds := [], alts := [], laidByText := true, laidKinds := [.data, .data, .data], laidTests := true, laidLooks := .later }
def EntryKindsCardSaid : Prop := Claim7.holds Tryd.pinned (.plain (OpenSpec.ofChange entryKindsSpec)) entryKindsCard

/-- THE TIED CARD OF 'pintlelaw04.EntryLevels'. -/
def entryLevelsCard : Claim7 := { stood := { row := entryLevelsRow, standIns := [], harness := (true, "b2144574da2c25f7a087190aaae38b4fcedc451abfdc563d95427990b4d6a4a7"), looks := false }, kinds := [], alts := [], laidByText := true, laidKinds := [.data, .data, .data], laidTests := true, laidLooks := .later }
def EntryLevelsCardSaid : Prop := Claim7.holds Tryd.pinned (.plain (OpenSpec.ofChange entryLevelsSpec)) entryLevelsCard

/-- THE TIED CARD OF 'pintlelaw04.EntryMsgs'. -/
def entryMsgsCard : Claim7 := { stood := { row := entryMsgsRow, standIns := [], harness := (true, "b2144574da2c25f7a087190aaae38b4fcedc451abfdc563d95427990b4d6a4a7"), looks := false }, kinds := [], alts := [], laidByText := true, laidKinds := [.data, .data, .data], laidTests := true, laidLooks := .later }
def EntryMsgsCardSaid : Prop := Claim7.holds Tryd.pinned (.plain (OpenSpec.ofChange entryMsgsSpec)) entryMsgsCard

/-- THE SECOND FORM's CARD OF 'pintlelaw04.EntryBounds'. -/
def entryBoundsUptoCard : Claim7 := { stood := { row := entryBoundsUptoRow, standIns := [], harness := (true, "b2144574da2c25f7a087190aaae38b4fcedc451abfdc563d95427990b4d6a4a7"), looks := false }, kinds := [], alts := [], laidByText := true, laidKinds := [.data, .data, .data], laidTests := true, laidLooks := .later }
def EntryBoundsUptoCardSaid : Prop := Claim7.holds Tryd.pinned (.plain (OpenSpec.upto entryBoundsSpec)) entryBoundsUptoCard

/-- THE SECOND FORM's CARD OF 'pintlelaw04.EntryRight'. -/
def entryRightUptoCard : Claim7 := { stood := { row := entryRightUptoRow, standIns := [], harness := (true, "b2144574da2c25f7a087190aaae38b4fcedc451abfdc563d95427990b4d6a4a7"), looks := false }, kinds := [], alts := [], laidByText := true, laidKinds := [.data, .data, .data], laidTests := true, laidLooks := .later }
def EntryRightUptoCardSaid : Prop := Claim7.holds Tryd.pinned (.plain (OpenSpec.upto entryRightSpec)) entryRightUptoCard

/-- THE SECOND FORM's CARD OF 'pintlelaw04.EntryTexts'. -/
def entryTextsUptoCard : Claim7 := { stood := { row := entryTextsUptoRow, standIns := [], harness := (true, "b2144574da2c25f7a087190aaae38b4fcedc451abfdc563d95427990b4d6a4a7"), looks := false }, kinds := [], alts := [], laidByText := true, laidKinds := [.data, .data, .data], laidTests := true, laidLooks := .later }
def EntryTextsUptoCardSaid : Prop := Claim7.holds Tryd.pinned (.plain (OpenSpec.upto entryTextsSpec)) entryTextsUptoCard

/-- THE SECOND FORM's CARD OF 'pintlelaw04.EntryKinds'. -/
def entryKindsUptoCard : Claim7 := { stood := { row := entryKindsUptoRow, standIns := [], harness := (true, "b2144574da2c25f7a087190aaae38b4fcedc451abfdc563d95427990b4d6a4a7"), looks := false }, kinds := [], alts := [], laidByText := true, laidKinds := [.data, .data, .data], laidTests := true, laidLooks := .later }
def EntryKindsUptoCardSaid : Prop := Claim7.holds Tryd.pinned (.plain (OpenSpec.upto entryKindsSpec)) entryKindsUptoCard

/-- THE SECOND FORM's CARD OF 'pintlelaw04.EntryLevels'. -/
def entryLevelsUptoCard : Claim7 := { stood := { row := entryLevelsUptoRow, standIns := [], harness := (true, "b2144574da2c25f7a087190aaae38b4fcedc451abfdc563d95427990b4d6a4a7"), looks := false }, kinds := [], alts := [], laidByText := true, laidKinds := [.data, .data, .data], laidTests := true, laidLooks := .later }
def EntryLevelsUptoCardSaid : Prop := Claim7.holds Tryd.pinned (.plain (OpenSpec.upto entryLevelsSpec)) entryLevelsUptoCard

/-- THE SECOND FORM's CARD OF 'pintlelaw04.EntryMsgs'. -/
def entryMsgsUptoCard : Claim7 := { stood := { row := entryMsgsUptoRow, standIns := [], harness := (true, "b2144574da2c25f7a087190aaae38b4fcedc451abfdc563d95427990b4d6a4a7"), looks := false }, kinds := [], alts := [], laidByText := true, laidKinds := [.data, .data, .data], laidTests := true, laidLooks := .later }
def EntryMsgsUptoCardSaid : Prop := Claim7.holds Tryd.pinned (.plain (OpenSpec.upto entryMsgsSpec)) entryMsgsUptoCard
end Rows
end Go.Proofs.YtbjbgdnjcppjhaaDoor
