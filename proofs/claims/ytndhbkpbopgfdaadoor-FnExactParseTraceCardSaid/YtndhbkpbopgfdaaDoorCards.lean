/-
  DERIVED. GIVEN WITH THE SEED: THE CARDS: each row of YtndhbkpbopgfdaaDoorRows.lean that lists a variable, with what it lists TIED to the program's text (the seventh form; the later family's looks); each row that meets fmt, with fmt's text TOLD by the authors' own Lean function (tested against real Go, not proved from fmt's source: count such statements apart). THE CARD IS WHAT COUNTS. Prove the row's statement (the work); the ties are given (YtndhbkpbopgfdaaDoorTie.lean); close each card by the builder's one call (the guide's Derived/Test/ToyasCard.lean, 'card_holds'). Laid BY PROGRAM, IN A SANDBOX (cutbox-door.mjs). By AI agents, Wed Nov 11 2026. No macro, syntax, notation, axiom, sorry.
-/
import Derived.Test.YtndhbkpbopgfdaaDoorRows
import GoSem.ClaimSeven
namespace Go.Proofs.YtndhbkpbopgfdaaDoor
namespace Rows

/-- THE TIED CARD OF 'laws.FnExactTraceText'. -/
def fnExactTraceTextCard : Claim7 := { stood := { row := fnExactTraceTextRow, standIns := [], harness := (true, "2a9461f793c07ae2a07c2a09dc7fc33a64355e716c2b751d859154b656fb3e0a"), looks := true }, kinds := [], alts := [], laidByText := true, laidKinds := [.data, .data, .data], laidTests := true, laidLooks := .later }
def FnExactTraceTextCardSaid : Prop := Claim7.holds Tryd.pinned (.plain (OpenSpec.ofChange fnExactTraceTextSpec)) fnExactTraceTextCard

/-- THE TIED CARD OF 'laws.FnExactParseTrace'. -/
def fnExactParseTraceCard : Claim7 := { stood := { row := fnExactParseTraceRow, standIns := [], harness := (true, "2a9461f793c07ae2a07c2a09dc7fc33a64355e716c2b751d859154b656fb3e0a"), looks := true }, kinds := [], alts := [], laidByText := true, laidKinds := [.data, .data, .data, .data, .sentinel, .sentinel, .pinned], laidTests := true, laidLooks := .later }
def FnExactParseTraceCardSaid : Prop := Claim7.holds Tryd.pinned (.plain (OpenSpec.ofChange fnExactParseTraceSpec)) fnExactParseTraceCard

/-- THE SECOND FORM's CARD OF 'laws.FnExactTraceText'. -/
def fnExactTraceTextUptoCard : Claim7 := { stood := { row := fnExactTraceTextUptoRow, standIns := [], harness := (true, "2a9461f793c07ae2a07c2a09dc7fc33a64355e716c2b751d859154b656fb3e0a"), looks := true }, kinds := [], alts := [], laidByText := true, laidKinds := [.data, .data, .data], laidTests := true, laidLooks := .later }
def FnExactTraceTextUptoCardSaid : Prop := Claim7.holds Tryd.pinned (.plain (OpenSpec.upto fnExactTraceTextSpec)) fnExactTraceTextUptoCard

/-- THE SECOND FORM's CARD OF 'laws.FnExactParseTrace'. -/
def fnExactParseTraceUptoCard : Claim7 := { stood := { row := fnExactParseTraceUptoRow, standIns := [], harness := (true, "2a9461f793c07ae2a07c2a09dc7fc33a64355e716c2b751d859154b656fb3e0a"), looks := true }, kinds := [], alts := [], laidByText := true, laidKinds := [.data, .data, .data, .data, .sentinel, .sentinel, .pinned], laidTests := true, laidLooks := .later }
def FnExactParseTraceUptoCardSaid : Prop := Claim7.holds Tryd.pinned (.plain (OpenSpec.upto fnExactParseTraceSpec)) fnExactParseTraceUptoCard
end Rows
end Go.Proofs.YtndhbkpbopgfdaaDoor
