/-
  DERIVED. GIVEN WITH THE SEED: THE CARDS: each row of YtmahfkimeclcbaaGreatDoorRows.lean that lists a variable, with what it lists TIED to the program's text (the seventh form; the later family's looks); each row that meets fmt, with fmt's text TOLD by the authors' own Lean function (tested against real Go, not proved from fmt's source: count such statements apart). THE CARD IS WHAT COUNTS. Prove the row's statement (the work); the ties are given (YtmahfkimeclcbaaGreatDoorTie.lean); close each card by the builder's one call (the guide's Derived/Test/ToyasCard.lean, 'card_holds'). Laid BY PROGRAM, IN A SANDBOX (cutbox-door.mjs). By AI agents, Wed Nov 11 2026. No macro, syntax, notation, axiom, sorry.
-/
import Derived.Test.YtmahfkimeclcbaaGreatDoorRows
import GoSem.ClaimSeven
namespace Go.Proofs.YtmahfkimeclcbaaGreatDoor
namespace Rows

/-- THE TIED CARD OF 'laws.FnCorrectionTexts'. -/
def fnCorrectionTextsCard : Claim7 := { stood := { row := fnCorrectionTextsRow, standIns := [], harness := (true, "102e0fd979319ffd8b0371c48aef72c24568c95332bf9a4e63720ac39fc95a8e"), looks := true }, kinds := [], alts := [], laidByText := true, laidKinds := [.data, .data, .data, .data, .sentinel, .sentinel, .pinned], laidTests := true, laidLooks := .later }
def FnCorrectionTextsCardSaid : Prop := Claim7.holds Tryz.pinned (.plain (OpenSpec.ofChange fnCorrectionTextsSpec)) fnCorrectionTextsCard

/-- THE SECOND FORM's CARD OF 'laws.FnCorrectionTexts'. -/
def fnCorrectionTextsUptoCard : Claim7 := { stood := { row := fnCorrectionTextsUptoRow, standIns := [], harness := (true, "102e0fd979319ffd8b0371c48aef72c24568c95332bf9a4e63720ac39fc95a8e"), looks := true }, kinds := [], alts := [], laidByText := true, laidKinds := [.data, .data, .data, .data, .sentinel, .sentinel, .pinned], laidTests := true, laidLooks := .later }
def FnCorrectionTextsUptoCardSaid : Prop := Claim7.holds Tryz.pinned (.plain (OpenSpec.upto fnCorrectionTextsSpec)) fnCorrectionTextsUptoCard
end Rows
end Go.Proofs.YtmahfkimeclcbaaGreatDoor
