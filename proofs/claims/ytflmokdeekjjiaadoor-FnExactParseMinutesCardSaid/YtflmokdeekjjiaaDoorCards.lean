/-
  DERIVED. GIVEN WITH THE SEED: THE CARDS: each row of YtflmokdeekjjiaaDoorRows.lean that lists a variable, with what it lists TIED to the program's text (the seventh form; the later family's looks); each row that meets fmt, with fmt's text TOLD by the authors' own Lean function (tested against real Go, not proved from fmt's source: count such statements apart). THE CARD IS WHAT COUNTS. Prove the row's statement (the work); the ties are given (YtflmokdeekjjiaaDoorTie.lean); close each card by the builder's one call (the guide's Derived/Test/ToyasCard.lean, 'card_holds'). Laid BY PROGRAM, IN A SANDBOX (cutbox-door.mjs). By AI agents, Wed Nov 11 2026. No macro, syntax, notation, axiom, sorry.
-/
import Derived.Test.YtflmokdeekjjiaaDoorRows
import GoSem.ClaimSeven
namespace Go.Proofs.YtflmokdeekjjiaaDoor
namespace Rows

/-- THE TIED CARD OF 'laws.FnExactParseMinutes'. -/
def fnExactParseMinutesCard : Claim7 := { stood := { row := fnExactParseMinutesRow, standIns := [], harness := (true, "0e8828522731ce099e3f8f4ecf53ca1d61b0378c63e48a9536d4fb81e8b1e9bf"), looks := true }, kinds := [], alts := [], laidByText := true, laidKinds := [.data, .data, .data, .data, .sentinel, .sentinel, .pinned], laidTests := true, laidLooks := .later }
def FnExactParseMinutesCardSaid : Prop := Claim7.holds Tryd.pinned (.plain (OpenSpec.ofChange fnExactParseMinutesSpec)) fnExactParseMinutesCard

/-- THE TIED CARD OF 'laws.FnExactEntryText'. -/
def fnExactEntryTextCard : Claim7 := { stood := { row := fnExactEntryTextRow, standIns := [], harness := (true, "0e8828522731ce099e3f8f4ecf53ca1d61b0378c63e48a9536d4fb81e8b1e9bf"), looks := true }, kinds := [], alts := [], laidByText := true, laidKinds := [.data, .data, .data], laidTests := true, laidLooks := .later }
def FnExactEntryTextCardSaid : Prop := Claim7.holds Tryd.pinned (.plain (OpenSpec.ofChange fnExactEntryTextSpec)) fnExactEntryTextCard

/-- THE TIED CARD OF 'laws.FnExactMinutesText'. -/
def fnExactMinutesTextCard : Claim7 := { stood := { row := fnExactMinutesTextRow, standIns := [], harness := (true, "0e8828522731ce099e3f8f4ecf53ca1d61b0378c63e48a9536d4fb81e8b1e9bf"), looks := true }, kinds := [], alts := [], laidByText := true, laidKinds := [.data, .data, .data], laidTests := true, laidLooks := .later }
def FnExactMinutesTextCardSaid : Prop := Claim7.holds Tryd.pinned (.plain (OpenSpec.ofChange fnExactMinutesTextSpec)) fnExactMinutesTextCard

/-- THE TIED CARD OF 'laws.FnExactParseEntry'. -/
def fnExactParseEntryCard : Claim7 := { stood := { row := fnExactParseEntryRow, standIns := [], harness := (true, "0e8828522731ce099e3f8f4ecf53ca1d61b0378c63e48a9536d4fb81e8b1e9bf"), looks := true }, kinds := [], alts := [], laidByText := true, laidKinds := [.data, .data, .data, .data, .sentinel, .sentinel, .pinned], laidTests := true, laidLooks := .later }
def FnExactParseEntryCardSaid : Prop := Claim7.holds Tryd.pinned (.plain (OpenSpec.ofChange fnExactParseEntrySpec)) fnExactParseEntryCard

/-- THE SECOND FORM's CARD OF 'laws.FnExactParseMinutes'. -/
def fnExactParseMinutesUptoCard : Claim7 := { stood := { row := fnExactParseMinutesUptoRow, standIns := [], harness := (true, "0e8828522731ce099e3f8f4ecf53ca1d61b0378c63e48a9536d4fb81e8b1e9bf"), looks := true }, kinds := [], alts := [], laidByText := true, laidKinds := [.data, .data, .data, .data, .sentinel, .sentinel, .pinned], laidTests := true, laidLooks := .later }
def FnExactParseMinutesUptoCardSaid : Prop := Claim7.holds Tryd.pinned (.plain (OpenSpec.upto fnExactParseMinutesSpec)) fnExactParseMinutesUptoCard

/-- THE SECOND FORM's CARD OF 'laws.FnExactEntryText'. -/
def fnExactEntryTextUptoCard : Claim7 := { stood := { row := fnExactEntryTextUptoRow, standIns := [], harness := (true, "0e8828522731ce099e3f8f4ecf53ca1d61b0378c63e48a9536d4fb81e8b1e9bf"), looks := true }, kinds := [], alts := [], laidByText := true, laidKinds := [.data, .data, .data], laidTests := true, laidLooks := .later }
def FnExactEntryTextUptoCardSaid : Prop := Claim7.holds Tryd.pinned (.plain (OpenSpec.upto fnExactEntryTextSpec)) fnExactEntryTextUptoCard

/-- THE SECOND FORM's CARD OF 'laws.FnExactMinutesText'. -/
def fnExactMinutesTextUptoCard : Claim7 := { stood := { row := fnExactMinutesTextUptoRow, standIns := [], harness := (true, "0e8828522731ce099e3f8f4ecf53ca1d61b0378c63e48a9536d4fb81e8b1e9bf"), looks := true }, kinds := [], alts := [], laidByText := true, laidKinds := [.data, .data, .data], laidTests := true, laidLooks := .later }
def FnExactMinutesTextUptoCardSaid : Prop := Claim7.holds Tryd.pinned (.plain (OpenSpec.upto fnExactMinutesTextSpec)) fnExactMinutesTextUptoCard

/-- THE SECOND FORM's CARD OF 'laws.FnExactParseEntry'. -/
def fnExactParseEntryUptoCard : Claim7 := { stood := { row := fnExactParseEntryUptoRow, standIns := [], harness := (true, "0e8828522731ce099e3f8f4ecf53ca1d61b0378c63e48a9536d4fb81e8b1e9bf"), looks := true }, kinds := [], alts := [], laidByText := true, laidKinds := [.data, .data, .data, .data, .sentinel, .sentinel, .pinned], laidTests := true, laidLooks := .later }
def FnExactParseEntryUptoCardSaid : Prop := Claim7.holds Tryd.pinned (.plain (OpenSpec.upto fnExactParseEntrySpec)) fnExactParseEntryUptoCard
end Rows
end Go.Proofs.YtflmokdeekjjiaaDoor
