/-
  No cell of these rows narrows 'for every input' (looked for: loops, veiled, ifaces, maps, wideKeys, modest, calm, conditions, laid).
  DERIVED. THE GIVEN ROWS OF THIS SEAT. 8 by the template 'for every input the law returns true; each argument reads behind the call as it read before'; 0 by the template 'total and deterministic' (their statements: YtdipeigcgmnhjaaTotals.lean).
  GIVEN WITH THE SEED: the statements are not yours to turn. If you find one false, say at which input.
  Laid BY PROGRAM, IN A SANDBOX (cutbox-rows.mjs): the forced cells as the released guide's own fill.sh prints them over the translation 1249bd61dd6f036d… (all of the seat's roots in one cut). By AI agents, Wed Nov 11 2026. No macro, syntax, notation, axiom, sorry.
-/
import Derived.Test.YtdipeigcgmnhjaaChecked
import GoSem.Claim
import GoSem.ClaimJoined
import GoSem.ClaimMapViews
import Derived.JoinedTies
import Derived.KernelRfl
namespace Go.Proofs.Ytdipeigcgmnhjaa
/- THE CELL 'sum', in the pinned program and in every row, IS THE sha256 OF THE DUMP (.gsa) THAT YtdipeigcgmnhjaaProg.lean LOADS. Nothing in Lean hashes anything: it is a label: what it is worth is what the hold of that sum in a sandbox is worth. -/
noncomputable def Try.pinned : Pinned := { name := "ytdipeigcgmnhjaa", sum := "1249bd61dd6f036d95daaa5682d96e193ffbc3fc7f0215bf96f0cc2cc0e97b8a", checked := Try.checked }
namespace Rows
def none {H : Type} : Left H := { results := [], args := [] }

/-- 'laws.FnExactIsSheet': WHATEVER THE INPUT: true; the input reads as it did. -/
def fnExactIsSheetSpec : ChangeSpec := { name := "fnExactIsSheet", fn := fun _ => fun
  | [d] => { results := [.lit (.bool true)], args := [d] }
  | _ => none }
def fnExactIsSheetRow : OpenClaim := { program := "ytdipeigcgmnhjaa", sum := "1249bd61dd6f036d95daaa5682d96e193ffbc3fc7f0215bf96f0cc2cc0e97b8a", func := "loop.example/g00909/laws.FnExactIsSheet", spec := "fnExactIsSheet", unfollowed := true, recurses := true, apart := false }
def FnExactIsSheetSaid : Prop := fnExactIsSheetRow.holds Try.pinned (OpenSpec.ofChange fnExactIsSheetSpec)

/-- ITS FALSE NEIGHBOUR: 'it returns false'. Refute it at one input. -/
def fnExactIsSheetWrong : ChangeSpec := { name := "fnExactIsSheet", fn := fun _ => fun
  | [d] => { results := [.lit (.bool false)], args := [d] }
  | _ => none }
def FnExactIsSheetWrongFalsely : Prop := fnExactIsSheetRow.holds Try.pinned (OpenSpec.ofChange fnExactIsSheetWrong)

/-- 'laws.FnExactShortCorrection': WHATEVER THE INPUT: true; the input reads as it did. -/
def fnExactShortCorrectionSpec : ChangeSpec := { name := "fnExactShortCorrection", fn := fun _ => fun
  | [d1, d2] => { results := [.lit (.bool true)], args := [d1, d2] }
  | _ => none }
def fnExactShortCorrectionRow : OpenClaim := { program := "ytdipeigcgmnhjaa", sum := "1249bd61dd6f036d95daaa5682d96e193ffbc3fc7f0215bf96f0cc2cc0e97b8a", func := "loop.example/g00909/laws.FnExactShortCorrection", spec := "fnExactShortCorrection", inPlace := ["internal/bytealg.IndexByteString", "internal/bytealg.IndexString"], named := ["internal/bytealg.MaxLen"], apart := false }
def FnExactShortCorrectionSaid : Prop := fnExactShortCorrectionRow.holds Try.pinned (OpenSpec.ofChange fnExactShortCorrectionSpec)

/-- ITS FALSE NEIGHBOUR: 'it returns false'. Refute it at one input. -/
def fnExactShortCorrectionWrong : ChangeSpec := { name := "fnExactShortCorrection", fn := fun _ => fun
  | [d1, d2] => { results := [.lit (.bool false)], args := [d1, d2] }
  | _ => none }
def FnExactShortCorrectionWrongFalsely : Prop := fnExactShortCorrectionRow.holds Try.pinned (OpenSpec.ofChange fnExactShortCorrectionWrong)

/-- 'laws.FnExactCorrectSheet': WHATEVER THE INPUT: true; the input reads as it did. -/
def fnExactCorrectSheetSpec : ChangeSpec := { name := "fnExactCorrectSheet", fn := fun _ => fun
  | [d1, d2] => { results := [.lit (.bool true)], args := [d1, d2] }
  | _ => none }
def fnExactCorrectSheetRow : OpenClaim := { program := "ytdipeigcgmnhjaa", sum := "1249bd61dd6f036d95daaa5682d96e193ffbc3fc7f0215bf96f0cc2cc0e97b8a", func := "loop.example/g00909/laws.FnExactCorrectSheet", spec := "fnExactCorrectSheet", inPlace := ["internal/bytealg.IndexByteString", "internal/bytealg.IndexString"], unfollowed := true, recurses := true, named := ["internal/bytealg.MaxLen"], apart := false }
def FnExactCorrectSheetSaid : Prop := fnExactCorrectSheetRow.holds Try.pinned (OpenSpec.ofChange fnExactCorrectSheetSpec)

/-- ITS FALSE NEIGHBOUR: 'it returns false'. Refute it at one input. -/
def fnExactCorrectSheetWrong : ChangeSpec := { name := "fnExactCorrectSheet", fn := fun _ => fun
  | [d1, d2] => { results := [.lit (.bool false)], args := [d1, d2] }
  | _ => none }
def FnExactCorrectSheetWrongFalsely : Prop := fnExactCorrectSheetRow.holds Try.pinned (OpenSpec.ofChange fnExactCorrectSheetWrong)

/-- 'laws.FnExactUndoCorrection': WHATEVER THE INPUT: true; the input reads as it did. -/
def fnExactUndoCorrectionSpec : ChangeSpec := { name := "fnExactUndoCorrection", fn := fun _ => fun
  | [d1, d2] => { results := [.lit (.bool true)], args := [d1, d2] }
  | _ => none }
def fnExactUndoCorrectionRow : OpenClaim := { program := "ytdipeigcgmnhjaa", sum := "1249bd61dd6f036d95daaa5682d96e193ffbc3fc7f0215bf96f0cc2cc0e97b8a", func := "loop.example/g00909/laws.FnExactUndoCorrection", spec := "fnExactUndoCorrection", inPlace := ["internal/bytealg.IndexByteString", "internal/bytealg.IndexString"], unfollowed := true, recurses := true, named := ["internal/bytealg.MaxLen"], apart := false }
def FnExactUndoCorrectionSaid : Prop := fnExactUndoCorrectionRow.holds Try.pinned (OpenSpec.ofChange fnExactUndoCorrectionSpec)

/-- ITS FALSE NEIGHBOUR: 'it returns false'. Refute it at one input. -/
def fnExactUndoCorrectionWrong : ChangeSpec := { name := "fnExactUndoCorrection", fn := fun _ => fun
  | [d1, d2] => { results := [.lit (.bool false)], args := [d1, d2] }
  | _ => none }
def FnExactUndoCorrectionWrongFalsely : Prop := fnExactUndoCorrectionRow.holds Try.pinned (OpenSpec.ofChange fnExactUndoCorrectionWrong)

/-- 'laws.FnExactDoCommute': WHATEVER THE INPUT: true; the input reads as it did. -/
def fnExactDoCommuteSpec : ChangeSpec := { name := "fnExactDoCommute", fn := fun _ => fun
  | [d1, d2, d3] => { results := [.lit (.bool true)], args := [d1, d2, d3] }
  | _ => none }
def fnExactDoCommuteRow : OpenClaim := { program := "ytdipeigcgmnhjaa", sum := "1249bd61dd6f036d95daaa5682d96e193ffbc3fc7f0215bf96f0cc2cc0e97b8a", func := "loop.example/g00909/laws.FnExactDoCommute", spec := "fnExactDoCommute", inPlace := ["internal/bytealg.IndexByteString", "internal/bytealg.IndexString"], unfollowed := true, recurses := true, named := ["internal/bytealg.MaxLen"], apart := false }
def FnExactDoCommuteSaid : Prop := fnExactDoCommuteRow.holds Try.pinned (OpenSpec.ofChange fnExactDoCommuteSpec)

/-- ITS FALSE NEIGHBOUR: 'it returns false'. Refute it at one input. -/
def fnExactDoCommuteWrong : ChangeSpec := { name := "fnExactDoCommute", fn := fun _ => fun
  | [d1, d2, d3] => { results := [.lit (.bool false)], args := [d1, d2, d3] }
  | _ => none }
def FnExactDoCommuteWrongFalsely : Prop := fnExactDoCommuteRow.holds Try.pinned (OpenSpec.ofChange fnExactDoCommuteWrong)

/-- 'laws.FnExactCorrectAll': WHATEVER THE INPUT: true; the input reads as it did. -/
def fnExactCorrectAllSpec : ChangeSpec := { name := "fnExactCorrectAll", fn := fun _ => fun
  | [d1, d2] => { results := [.lit (.bool true)], args := [d1, d2] }
  | _ => none }
def fnExactCorrectAllRow : OpenClaim := { program := "ytdipeigcgmnhjaa", sum := "1249bd61dd6f036d95daaa5682d96e193ffbc3fc7f0215bf96f0cc2cc0e97b8a", func := "loop.example/g00909/laws.FnExactCorrectAll", spec := "fnExactCorrectAll", inPlace := ["internal/bytealg.IndexByteString", "internal/bytealg.IndexString"], unfollowed := true, recurses := true, named := ["internal/bytealg.MaxLen"], apart := false }
def FnExactCorrectAllSaid : Prop := fnExactCorrectAllRow.holds Try.pinned (OpenSpec.ofChange fnExactCorrectAllSpec)

/-- ITS FALSE NEIGHBOUR: 'it returns false'. Refute it at one input. -/
def fnExactCorrectAllWrong : ChangeSpec := { name := "fnExactCorrectAll", fn := fun _ => fun
  | [d1, d2] => { results := [.lit (.bool false)], args := [d1, d2] }
  | _ => none }
def FnExactCorrectAllWrongFalsely : Prop := fnExactCorrectAllRow.holds Try.pinned (OpenSpec.ofChange fnExactCorrectAllWrong)

/-- 'laws.FnExactChangedLines': WHATEVER THE INPUT: true; the input reads as it did. -/
def fnExactChangedLinesSpec : ChangeSpec := { name := "fnExactChangedLines", fn := fun _ => fun
  | [d1, d2] => { results := [.lit (.bool true)], args := [d1, d2] }
  | _ => none }
def fnExactChangedLinesRow : OpenClaim := { program := "ytdipeigcgmnhjaa", sum := "1249bd61dd6f036d95daaa5682d96e193ffbc3fc7f0215bf96f0cc2cc0e97b8a", func := "loop.example/g00909/laws.FnExactChangedLines", spec := "fnExactChangedLines", inPlace := ["internal/bytealg.IndexByteString", "internal/bytealg.IndexString"], unfollowed := true, recurses := true, named := ["internal/bytealg.MaxLen"], apart := false }
def FnExactChangedLinesSaid : Prop := fnExactChangedLinesRow.holds Try.pinned (OpenSpec.ofChange fnExactChangedLinesSpec)

/-- ITS FALSE NEIGHBOUR: 'it returns false'. Refute it at one input. -/
def fnExactChangedLinesWrong : ChangeSpec := { name := "fnExactChangedLines", fn := fun _ => fun
  | [d1, d2] => { results := [.lit (.bool false)], args := [d1, d2] }
  | _ => none }
def FnExactChangedLinesWrongFalsely : Prop := fnExactChangedLinesRow.holds Try.pinned (OpenSpec.ofChange fnExactChangedLinesWrong)

/-- 'laws.FnCorrections': WHATEVER THE INPUT: true; the input reads as it did. -/
def fnCorrectionsSpec : ChangeSpec := { name := "fnCorrections", fn := fun _ => fun
  | [d] => { results := [.lit (.bool true)], args := [d] }
  | _ => none }
def fnCorrectionsRow : OpenClaim := { program := "ytdipeigcgmnhjaa", sum := "1249bd61dd6f036d95daaa5682d96e193ffbc3fc7f0215bf96f0cc2cc0e97b8a", func := "loop.example/g00909/laws.FnCorrections", spec := "fnCorrections", inPlace := ["internal/bytealg.IndexByteString", "internal/bytealg.IndexString"], unfollowed := true, recurses := true, named := ["internal/bytealg.MaxLen"], apart := false }
def FnCorrectionsSaid : Prop := fnCorrectionsRow.holds Try.pinned (OpenSpec.ofChange fnCorrectionsSpec)

/-- ITS FALSE NEIGHBOUR: 'it returns false'. Refute it at one input. -/
def fnCorrectionsWrong : ChangeSpec := { name := "fnCorrections", fn := fun _ => fun
  | [d] => { results := [.lit (.bool false)], args := [d] }
  | _ => none }
def FnCorrectionsWrongFalsely : Prop := fnCorrectionsRow.holds Try.pinned (OpenSpec.ofChange fnCorrectionsWrong)

/- THE SECOND FORM. 'bulk': how many values and letters a reading holds, each counted each time it is reached (what is shared counts as often as it is met; a slice's spare places count too). A statement '..UptoSaid' is the law's where the arguments, and the package variables that the reading takes, are together of bulk at most 1048576: NARROWER than '..Said'. Prove '..Said' where nothing that the law and all that it calls make is longer than what came in: it says more and counts as full. Else prove '..UptoSaid'. A law counts once. -/
mutual
def uptoBulk {H : Type} : DataW H → Nat
  | .lit (.string bytes) => bytes.length + 1
  | .lit _ => 1
  | .nil => 1
  | .ptr d => uptoBulk d + 1
  | .slice elems spare => uptoBulkAll elems + uptoBulkAll spare + 1
  | .agg parts => uptoBulkAll parts + 1
  | .iface _ d => uptoBulk d + 1
  | .map entries => uptoBulkEntries entries + 1
  | .held _ => 1
def uptoBulkAll {H : Type} : List (DataW H) → Nat
  | [] => 0
  | d :: r => uptoBulk d + uptoBulkAll r
def uptoBulkEntries {H : Type} : List (Lit × DataW H) → Nat
  | [] => 0
  | x :: r => uptoBulkEntry x + uptoBulkEntries r
def uptoBulkEntry {H : Type} : Lit × DataW H → Nat
  | (.string bytes, d) => bytes.length + uptoBulk d + 1
  | (_, d) => uptoBulk d + 1
 end
def uptoSmall : (H : Type) → List (DataW H) → Bool := fun _ ds => decide (uptoBulkAll ds ≤ 1048576)
def OpenSpec.upto (s : _root_.Go.ChangeSpec) : _root_.Go.OpenSpec := { _root_.Go.OpenSpec.ofChange s with cond := some uptoSmall }

/-- 'laws.FnExactIsSheet', WHERE WHAT IT READS IS OF BULK AT MOST 1048576: true; the input reads as it did. -/
def fnExactIsSheetUptoRow : OpenClaim := { program := "ytdipeigcgmnhjaa", sum := "1249bd61dd6f036d95daaa5682d96e193ffbc3fc7f0215bf96f0cc2cc0e97b8a", func := "loop.example/g00909/laws.FnExactIsSheet", spec := "fnExactIsSheet", unfollowed := true, recurses := true, apart := false, narrowed := true }
def FnExactIsSheetUptoSaid : Prop := fnExactIsSheetUptoRow.holds Try.pinned (OpenSpec.upto fnExactIsSheetSpec)

/-- 'laws.FnExactShortCorrection', WHERE WHAT IT READS IS OF BULK AT MOST 1048576: true; the input reads as it did. -/
def fnExactShortCorrectionUptoRow : OpenClaim := { program := "ytdipeigcgmnhjaa", sum := "1249bd61dd6f036d95daaa5682d96e193ffbc3fc7f0215bf96f0cc2cc0e97b8a", func := "loop.example/g00909/laws.FnExactShortCorrection", spec := "fnExactShortCorrection", inPlace := ["internal/bytealg.IndexByteString", "internal/bytealg.IndexString"], named := ["internal/bytealg.MaxLen"], apart := false, narrowed := true }
def FnExactShortCorrectionUptoSaid : Prop := fnExactShortCorrectionUptoRow.holds Try.pinned (OpenSpec.upto fnExactShortCorrectionSpec)

/-- 'laws.FnExactCorrectSheet', WHERE WHAT IT READS IS OF BULK AT MOST 1048576: true; the input reads as it did. -/
def fnExactCorrectSheetUptoRow : OpenClaim := { program := "ytdipeigcgmnhjaa", sum := "1249bd61dd6f036d95daaa5682d96e193ffbc3fc7f0215bf96f0cc2cc0e97b8a", func := "loop.example/g00909/laws.FnExactCorrectSheet", spec := "fnExactCorrectSheet", inPlace := ["internal/bytealg.IndexByteString", "internal/bytealg.IndexString"], unfollowed := true, recurses := true, named := ["internal/bytealg.MaxLen"], apart := false, narrowed := true }
def FnExactCorrectSheetUptoSaid : Prop := fnExactCorrectSheetUptoRow.holds Try.pinned (OpenSpec.upto fnExactCorrectSheetSpec)

/-- 'laws.FnExactUndoCorrection', WHERE WHAT IT READS IS OF BULK AT MOST 1048576: true; the input reads as it did. -/
def fnExactUndoCorrectionUptoRow : OpenClaim := { program := "ytdipeigcgmnhjaa", sum := "1249bd61dd6f036d95daaa5682d96e193ffbc3fc7f0215bf96f0cc2cc0e97b8a", func := "loop.example/g00909/laws.FnExactUndoCorrection", spec := "fnExactUndoCorrection", inPlace := ["internal/bytealg.IndexByteString", "internal/bytealg.IndexString"], unfollowed := true, recurses := true, named := ["internal/bytealg.MaxLen"], apart := false, narrowed := true }
def FnExactUndoCorrectionUptoSaid : Prop := fnExactUndoCorrectionUptoRow.holds Try.pinned (OpenSpec.upto fnExactUndoCorrectionSpec)

/-- 'laws.FnExactDoCommute', WHERE WHAT IT READS IS OF BULK AT MOST 1048576: true; the input reads as it did. -/
def fnExactDoCommuteUptoRow : OpenClaim := { program := "ytdipeigcgmnhjaa", sum := "1249bd61dd6f036d95daaa5682d96e193ffbc3fc7f0215bf96f0cc2cc0e97b8a", func := "loop.example/g00909/laws.FnExactDoCommute", spec := "fnExactDoCommute", inPlace := ["internal/bytealg.IndexByteString", "internal/bytealg.IndexString"], unfollowed := true, recurses := true, named := ["internal/bytealg.MaxLen"], apart := false, narrowed := true }
def FnExactDoCommuteUptoSaid : Prop := fnExactDoCommuteUptoRow.holds Try.pinned (OpenSpec.upto fnExactDoCommuteSpec)

/-- 'laws.FnExactCorrectAll', WHERE WHAT IT READS IS OF BULK AT MOST 1048576: true; the input reads as it did. -/
def fnExactCorrectAllUptoRow : OpenClaim := { program := "ytdipeigcgmnhjaa", sum := "1249bd61dd6f036d95daaa5682d96e193ffbc3fc7f0215bf96f0cc2cc0e97b8a", func := "loop.example/g00909/laws.FnExactCorrectAll", spec := "fnExactCorrectAll", inPlace := ["internal/bytealg.IndexByteString", "internal/bytealg.IndexString"], unfollowed := true, recurses := true, named := ["internal/bytealg.MaxLen"], apart := false, narrowed := true }
def FnExactCorrectAllUptoSaid : Prop := fnExactCorrectAllUptoRow.holds Try.pinned (OpenSpec.upto fnExactCorrectAllSpec)

/-- 'laws.FnExactChangedLines', WHERE WHAT IT READS IS OF BULK AT MOST 1048576: true; the input reads as it did. -/
def fnExactChangedLinesUptoRow : OpenClaim := { program := "ytdipeigcgmnhjaa", sum := "1249bd61dd6f036d95daaa5682d96e193ffbc3fc7f0215bf96f0cc2cc0e97b8a", func := "loop.example/g00909/laws.FnExactChangedLines", spec := "fnExactChangedLines", inPlace := ["internal/bytealg.IndexByteString", "internal/bytealg.IndexString"], unfollowed := true, recurses := true, named := ["internal/bytealg.MaxLen"], apart := false, narrowed := true }
def FnExactChangedLinesUptoSaid : Prop := fnExactChangedLinesUptoRow.holds Try.pinned (OpenSpec.upto fnExactChangedLinesSpec)

/-- 'laws.FnCorrections', WHERE WHAT IT READS IS OF BULK AT MOST 1048576: true; the input reads as it did. -/
def fnCorrectionsUptoRow : OpenClaim := { program := "ytdipeigcgmnhjaa", sum := "1249bd61dd6f036d95daaa5682d96e193ffbc3fc7f0215bf96f0cc2cc0e97b8a", func := "loop.example/g00909/laws.FnCorrections", spec := "fnCorrections", inPlace := ["internal/bytealg.IndexByteString", "internal/bytealg.IndexString"], unfollowed := true, recurses := true, named := ["internal/bytealg.MaxLen"], apart := false, narrowed := true }
def FnCorrectionsUptoSaid : Prop := fnCorrectionsUptoRow.holds Try.pinned (OpenSpec.upto fnCorrectionsSpec)

end Rows
end Go.Proofs.Ytdipeigcgmnhjaa
