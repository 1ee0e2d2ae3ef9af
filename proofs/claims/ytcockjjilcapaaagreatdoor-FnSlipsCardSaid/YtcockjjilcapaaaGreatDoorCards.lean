/-
  DERIVED. GIVEN WITH THE SEED: THE CARDS: each row of YtcockjjilcapaaaGreatDoorRows.lean that lists a variable, with what it lists TIED to the program's text (the seventh form; the later family's looks); each row that meets fmt, with fmt's text TOLD by the authors' own Lean function (tested against real Go, not proved from fmt's source: count such statements apart). THE CARD IS WHAT COUNTS. Prove the row's statement (the work); the ties are given (YtcockjjilcapaaaGreatDoorTie.lean); close each card by the builder's one call (the guide's Derived/Test/ToyasCard.lean, 'card_holds'). Laid BY PROGRAM, IN A SANDBOX (cutbox-door.mjs). By AI agents, Wed Nov 11 2026. No macro, syntax, notation, axiom, sorry.
-/
import Derived.Test.YtcockjjilcapaaaGreatDoorRows
import GoSem.ClaimSeven
namespace Go.Proofs.YtcockjjilcapaaaGreatDoor
namespace Rows

/-- THE TIED CARD OF 'laws.FnSlips'. -/
def fnSlipsCard : Claim7 := { stood := { row := fnSlipsRow, standIns := [], harness := (true, "1b586c653ec923d527ebcbd5e3faa60ab2491d3dff85f0d988c68e0436888849"), looks := true }, kinds := [], alts := [], laidByText := true, laidKinds := [.data, .data, .data, .sentinel, .sentinel], laidTests := true, laidLooks := .later }
def FnSlipsCardSaid : Prop := Claim7.holds Tryz.pinned (.plain (OpenSpec.ofChange fnSlipsSpec)) fnSlipsCard

/-- THE SECOND FORM's CARD OF 'laws.FnSlips'. -/
def fnSlipsUptoCard : Claim7 := { stood := { row := fnSlipsUptoRow, standIns := [], harness := (true, "1b586c653ec923d527ebcbd5e3faa60ab2491d3dff85f0d988c68e0436888849"), looks := true }, kinds := [], alts := [], laidByText := true, laidKinds := [.data, .data, .data, .sentinel, .sentinel], laidTests := true, laidLooks := .later }
def FnSlipsUptoCardSaid : Prop := Claim7.holds Tryz.pinned (.plain (OpenSpec.upto fnSlipsSpec)) fnSlipsUptoCard
end Rows
end Go.Proofs.YtcockjjilcapaaaGreatDoor
