/-
  DERIVED. GIVEN WITH THE SEED: THE CARDS: each row of YtgoaoalfljnmlaaDoorRows.lean that lists a variable, with what it lists TIED to the program's text (the seventh form; the later family's looks); each row that meets fmt, with fmt's text TOLD by the authors' own Lean function (tested against real Go, not proved from fmt's source: count such statements apart). THE CARD IS WHAT COUNTS. Prove the row's statement (the work); the ties are given (YtgoaoalfljnmlaaDoorTie.lean); close each card by the builder's one call (the guide's Derived/Test/ToyasCard.lean, 'card_holds'). Laid BY PROGRAM, IN A SANDBOX (cutbox-door.mjs). By AI agents, Wed Nov 11 2026. No macro, syntax, notation, axiom, sorry.
-/
import Derived.Test.YtgoaoalfljnmlaaDoorRows
import GoSem.ClaimSeven
namespace Go.Proofs.YtgoaoalfljnmlaaDoor
namespace Rows

/-- THE TIED CARD OF 'laws.FnExactSlipText'. -/
def fnExactSlipTextCard : Claim7 := { stood := { row := fnExactSlipTextRow, standIns := [], harness := (true, "8f57fda624a3b4eae6348de781d1cf8390965158173b767ebf60e9c44a0082c7"), looks := true }, kinds := [], alts := [], laidByText := true, laidKinds := [.data, .data, .data], laidTests := true, laidLooks := .later }
def FnExactSlipTextCardSaid : Prop := Claim7.holds Tryd.pinned (.plain (OpenSpec.ofChange fnExactSlipTextSpec)) fnExactSlipTextCard

/-- THE TIED CARD OF 'laws.FnExactParseSlip'. -/
def fnExactParseSlipCard : Claim7 := { stood := { row := fnExactParseSlipRow, standIns := [], harness := (true, "8f57fda624a3b4eae6348de781d1cf8390965158173b767ebf60e9c44a0082c7"), looks := true }, kinds := [], alts := [], laidByText := true, laidKinds := [.data, .data, .data, .sentinel, .sentinel], laidTests := true, laidLooks := .later }
def FnExactParseSlipCardSaid : Prop := Claim7.holds Tryd.pinned (.plain (OpenSpec.ofChange fnExactParseSlipSpec)) fnExactParseSlipCard

/-- THE SECOND FORM's CARD OF 'laws.FnExactSlipText'. -/
def fnExactSlipTextUptoCard : Claim7 := { stood := { row := fnExactSlipTextUptoRow, standIns := [], harness := (true, "8f57fda624a3b4eae6348de781d1cf8390965158173b767ebf60e9c44a0082c7"), looks := true }, kinds := [], alts := [], laidByText := true, laidKinds := [.data, .data, .data], laidTests := true, laidLooks := .later }
def FnExactSlipTextUptoCardSaid : Prop := Claim7.holds Tryd.pinned (.plain (OpenSpec.upto fnExactSlipTextSpec)) fnExactSlipTextUptoCard

/-- THE SECOND FORM's CARD OF 'laws.FnExactParseSlip'. -/
def fnExactParseSlipUptoCard : Claim7 := { stood := { row := fnExactParseSlipUptoRow, standIns := [], harness := (true, "8f57fda624a3b4eae6348de781d1cf8390965158173b767ebf60e9c44a0082c7"), looks := true }, kinds := [], alts := [], laidByText := true, laidKinds := [.data, .data, .data, .sentinel, .sentinel], laidTests := true, laidLooks := .later }
def FnExactParseSlipUptoCardSaid : Prop := Claim7.holds Tryd.pinned (.plain (OpenSpec.upto fnExactParseSlipSpec)) fnExactParseSlipUptoCard
end Rows
end Go.Proofs.YtgoaoalfljnmlaaDoor
