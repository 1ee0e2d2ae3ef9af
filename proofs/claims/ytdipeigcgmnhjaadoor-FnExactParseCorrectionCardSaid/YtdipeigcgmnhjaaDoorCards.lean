/-
  DERIVED. GIVEN WITH THE SEED: THE CARDS: each row of YtdipeigcgmnhjaaDoorRows.lean that lists a variable, with what it lists TIED to the program's text (the seventh form; the later family's looks); each row that meets fmt, with fmt's text TOLD by the authors' own Lean function (tested against real Go, not proved from fmt's source: count such statements apart). THE CARD IS WHAT COUNTS. Prove the row's statement (the work); the ties are given (YtdipeigcgmnhjaaDoorTie.lean); close each card by the builder's one call (the guide's Derived/Test/ToyasCard.lean, 'card_holds'). Laid BY PROGRAM, IN A SANDBOX (cutbox-door.mjs). By AI agents, Wed Nov 11 2026. No macro, syntax, notation, axiom, sorry.
-/
import Derived.Test.YtdipeigcgmnhjaaDoorRows
import GoSem.ClaimSeven
namespace Go.Proofs.YtdipeigcgmnhjaaDoor
namespace Rows

/-- THE TIED CARD OF 'laws.FnExactCorrectionText'. -/
def fnExactCorrectionTextCard : Claim7 := { stood := { row := fnExactCorrectionTextRow, standIns := [], harness := (true, "1240584a1b174fe80da29c0ccc63e3d323fead41ae67ea643c820d81c7964803"), looks := true }, kinds := [], alts := [], laidByText := true, laidKinds := [.data, .data, .data], laidTests := true, laidLooks := .later }
def FnExactCorrectionTextCardSaid : Prop := Claim7.holds Tryd.pinned (.plain (OpenSpec.ofChange fnExactCorrectionTextSpec)) fnExactCorrectionTextCard

/-- THE TIED CARD OF 'laws.FnExactParseCorrection'. -/
def fnExactParseCorrectionCard : Claim7 := { stood := { row := fnExactParseCorrectionRow, standIns := [], harness := (true, "1240584a1b174fe80da29c0ccc63e3d323fead41ae67ea643c820d81c7964803"), looks := true }, kinds := [], alts := [], laidByText := true, laidKinds := [.data, .data, .data, .data, .sentinel, .sentinel, .pinned], laidTests := true, laidLooks := .later }
def FnExactParseCorrectionCardSaid : Prop := Claim7.holds Tryd.pinned (.plain (OpenSpec.ofChange fnExactParseCorrectionSpec)) fnExactParseCorrectionCard

/-- THE SECOND FORM's CARD OF 'laws.FnExactCorrectionText'. -/
def fnExactCorrectionTextUptoCard : Claim7 := { stood := { row := fnExactCorrectionTextUptoRow, standIns := [], harness := (true, "1240584a1b174fe80da29c0ccc63e3d323fead41ae67ea643c820d81c7964803"), looks := true }, kinds := [], alts := [], laidByText := true, laidKinds := [.data, .data, .data], laidTests := true, laidLooks := .later }
def FnExactCorrectionTextUptoCardSaid : Prop := Claim7.holds Tryd.pinned (.plain (OpenSpec.upto fnExactCorrectionTextSpec)) fnExactCorrectionTextUptoCard

/-- THE SECOND FORM's CARD OF 'laws.FnExactParseCorrection'. -/
def fnExactParseCorrectionUptoCard : Claim7 := { stood := { row := fnExactParseCorrectionUptoRow, standIns := [], harness := (true, "1240584a1b174fe80da29c0ccc63e3d323fead41ae67ea643c820d81c7964803"), looks := true }, kinds := [], alts := [], laidByText := true, laidKinds := [.data, .data, .data, .data, .sentinel, .sentinel, .pinned], laidTests := true, laidLooks := .later }
def FnExactParseCorrectionUptoCardSaid : Prop := Claim7.holds Tryd.pinned (.plain (OpenSpec.upto fnExactParseCorrectionSpec)) fnExactParseCorrectionUptoCard
end Rows
end Go.Proofs.YtdipeigcgmnhjaaDoor
