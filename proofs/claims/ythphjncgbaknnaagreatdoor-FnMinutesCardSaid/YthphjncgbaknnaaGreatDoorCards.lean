/-
  DERIVED. GIVEN WITH THE SEED: THE CARDS: each row of YthphjncgbaknnaaGreatDoorRows.lean that lists a variable, with what it lists TIED to the program's text (the seventh form; the later family's looks); each row that meets fmt, with fmt's text TOLD by the authors' own Lean function (tested against real Go, not proved from fmt's source: count such statements apart). THE CARD IS WHAT COUNTS. Prove the row's statement (the work); the ties are given (YthphjncgbaknnaaGreatDoorTie.lean); close each card by the builder's one call (the guide's Derived/Test/ToyasCard.lean, 'card_holds'). Laid BY PROGRAM, IN A SANDBOX (cutbox-door.mjs). By AI agents, Wed Nov 11 2026. No macro, syntax, notation, axiom, sorry.
-/
import Derived.Test.YthphjncgbaknnaaGreatDoorRows
import GoSem.ClaimSeven
namespace Go.Proofs.YthphjncgbaknnaaGreatDoor
namespace Rows

/-- THE TIED CARD OF 'laws.FnMinutes'. -/
def fnMinutesCard : Claim7 := { stood := { row := fnMinutesRow, standIns := [], harness := (true, "fb44d323a7bd89cc062066737506edfd31b28dc5905a6a54bfa01f680246a66b"), looks := true }, kinds := [], alts := [], laidByText := true, laidKinds := [.data, .data, .data, .data, .sentinel, .sentinel, .pinned], laidTests := true, laidLooks := .later }
def FnMinutesCardSaid : Prop := Claim7.holds Tryz.pinned (.plain (OpenSpec.ofChange fnMinutesSpec)) fnMinutesCard

/-- THE SECOND FORM's CARD OF 'laws.FnMinutes'. -/
def fnMinutesUptoCard : Claim7 := { stood := { row := fnMinutesUptoRow, standIns := [], harness := (true, "fb44d323a7bd89cc062066737506edfd31b28dc5905a6a54bfa01f680246a66b"), looks := true }, kinds := [], alts := [], laidByText := true, laidKinds := [.data, .data, .data, .data, .sentinel, .sentinel, .pinned], laidTests := true, laidLooks := .later }
def FnMinutesUptoCardSaid : Prop := Claim7.holds Tryz.pinned (.plain (OpenSpec.upto fnMinutesSpec)) fnMinutesUptoCard
end Rows
end Go.Proofs.YthphjncgbaknnaaGreatDoor
