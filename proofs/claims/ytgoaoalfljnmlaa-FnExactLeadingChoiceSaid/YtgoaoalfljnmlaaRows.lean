/-
  No cell of these rows narrows 'for every input' (looked for: loops, veiled, ifaces, maps, wideKeys, modest, calm, conditions, laid).
  DERIVED. THE GIVEN ROWS OF THIS SEAT. 8 by the template 'for every input the law returns true; each argument reads behind the call as it read before'; 0 by the template 'total and deterministic' (their statements: YtgoaoalfljnmlaaTotals.lean).
  GIVEN WITH THE SEED: the statements are not yours to turn. If you find one false, say at which input.
  Laid BY PROGRAM, IN A SANDBOX (cutbox-rows.mjs): the forced cells as the released guide's own fill.sh prints them over the translation 4e26d7570099fd50… (all of the seat's roots in one cut). By AI agents, Wed Nov 11 2026. No macro, syntax, notation, axiom, sorry.
-/
import Derived.Test.YtgoaoalfljnmlaaChecked
import GoSem.Claim
import GoSem.ClaimJoined
import GoSem.ClaimMapViews
import Derived.JoinedTies
import Derived.KernelRfl
namespace Go.Proofs.Ytgoaoalfljnmlaa
/- THE CELL 'sum', in the pinned program and in every row, IS THE sha256 OF THE DUMP (.gsa) THAT YtgoaoalfljnmlaaProg.lean LOADS. Nothing in Lean hashes anything: it is a label: what it is worth is what the hold of that sum in a sandbox is worth. -/
noncomputable def Try.pinned : Pinned := { name := "ytgoaoalfljnmlaa", sum := "4e26d7570099fd505f1319483006bb7df60e97843c0e67408b71ec11c12d4ed4", checked := Try.checked }
namespace Rows
def none {H : Type} : Left H := { results := [], args := [] }

/-- 'laws.FnExactIsBox': WHATEVER THE INPUT: true; the input reads as it did. -/
def fnExactIsBoxSpec : ChangeSpec := { name := "fnExactIsBox", fn := fun _ => fun
  | [d] => { results := [.lit (.bool true)], args := [d] }
  | _ => none }
def fnExactIsBoxRow : OpenClaim := { program := "ytgoaoalfljnmlaa", sum := "4e26d7570099fd505f1319483006bb7df60e97843c0e67408b71ec11c12d4ed4", func := "loop.example/g00909/laws.FnExactIsBox", spec := "fnExactIsBox", unfollowed := true, recurses := true, apart := false }
def FnExactIsBoxSaid : Prop := fnExactIsBoxRow.holds Try.pinned (OpenSpec.ofChange fnExactIsBoxSpec)

/-- ITS FALSE NEIGHBOUR: 'it returns false'. Refute it at one input. -/
def fnExactIsBoxWrong : ChangeSpec := { name := "fnExactIsBox", fn := fun _ => fun
  | [d] => { results := [.lit (.bool false)], args := [d] }
  | _ => none }
def FnExactIsBoxWrongFalsely : Prop := fnExactIsBoxRow.holds Try.pinned (OpenSpec.ofChange fnExactIsBoxWrong)

/-- 'laws.FnExactUnusedCodes': WHATEVER THE INPUT: true; the input reads as it did. -/
def fnExactUnusedCodesSpec : ChangeSpec := { name := "fnExactUnusedCodes", fn := fun _ => fun
  | [d1, d2] => { results := [.lit (.bool true)], args := [d1, d2] }
  | _ => none }
def fnExactUnusedCodesRow : OpenClaim := { program := "ytgoaoalfljnmlaa", sum := "4e26d7570099fd505f1319483006bb7df60e97843c0e67408b71ec11c12d4ed4", func := "loop.example/g00909/laws.FnExactUnusedCodes", spec := "fnExactUnusedCodes", unfollowed := true, recurses := true, apart := false }
def FnExactUnusedCodesSaid : Prop := fnExactUnusedCodesRow.holds Try.pinned (OpenSpec.ofChange fnExactUnusedCodesSpec)

/-- ITS FALSE NEIGHBOUR: 'it returns false'. Refute it at one input. -/
def fnExactUnusedCodesWrong : ChangeSpec := { name := "fnExactUnusedCodes", fn := fun _ => fun
  | [d1, d2] => { results := [.lit (.bool false)], args := [d1, d2] }
  | _ => none }
def FnExactUnusedCodesWrongFalsely : Prop := fnExactUnusedCodesRow.holds Try.pinned (OpenSpec.ofChange fnExactUnusedCodesWrong)

/-- 'laws.FnExactGoodBallots': WHATEVER THE INPUT: true; the input reads as it did. -/
def fnExactGoodBallotsSpec : ChangeSpec := { name := "fnExactGoodBallots", fn := fun _ => fun
  | [d1, d2] => { results := [.lit (.bool true)], args := [d1, d2] }
  | _ => none }
def fnExactGoodBallotsRow : OpenClaim := { program := "ytgoaoalfljnmlaa", sum := "4e26d7570099fd505f1319483006bb7df60e97843c0e67408b71ec11c12d4ed4", func := "loop.example/g00909/laws.FnExactGoodBallots", spec := "fnExactGoodBallots", unfollowed := true, recurses := true, apart := false }
def FnExactGoodBallotsSaid : Prop := fnExactGoodBallotsRow.holds Try.pinned (OpenSpec.ofChange fnExactGoodBallotsSpec)

/-- ITS FALSE NEIGHBOUR: 'it returns false'. Refute it at one input. -/
def fnExactGoodBallotsWrong : ChangeSpec := { name := "fnExactGoodBallots", fn := fun _ => fun
  | [d1, d2] => { results := [.lit (.bool false)], args := [d1, d2] }
  | _ => none }
def FnExactGoodBallotsWrongFalsely : Prop := fnExactGoodBallotsRow.holds Try.pinned (OpenSpec.ofChange fnExactGoodBallotsWrong)

/-- 'laws.FnExactSortBox': WHATEVER THE INPUT: true; the input reads as it did. -/
def fnExactSortBoxSpec : ChangeSpec := { name := "fnExactSortBox", fn := fun _ => fun
  | [d] => { results := [.lit (.bool true)], args := [d] }
  | _ => none }
def fnExactSortBoxRow : OpenClaim := { program := "ytgoaoalfljnmlaa", sum := "4e26d7570099fd505f1319483006bb7df60e97843c0e67408b71ec11c12d4ed4", func := "loop.example/g00909/laws.FnExactSortBox", spec := "fnExactSortBox", inPlace := ["internal/bytealg.abigen_runtime_cmpstring"], unfollowed := true, recurses := true, apart := false }
def FnExactSortBoxSaid : Prop := fnExactSortBoxRow.holds Try.pinned (OpenSpec.ofChange fnExactSortBoxSpec)

/-- ITS FALSE NEIGHBOUR: 'it returns false'. Refute it at one input. -/
def fnExactSortBoxWrong : ChangeSpec := { name := "fnExactSortBox", fn := fun _ => fun
  | [d] => { results := [.lit (.bool false)], args := [d] }
  | _ => none }
def FnExactSortBoxWrongFalsely : Prop := fnExactSortBoxRow.holds Try.pinned (OpenSpec.ofChange fnExactSortBoxWrong)

/-- 'laws.FnExactBlankBallots': WHATEVER THE INPUT: true; the input reads as it did. -/
def fnExactBlankBallotsSpec : ChangeSpec := { name := "fnExactBlankBallots", fn := fun _ => fun
  | [d1, d2] => { results := [.lit (.bool true)], args := [d1, d2] }
  | _ => none }
def fnExactBlankBallotsRow : OpenClaim := { program := "ytgoaoalfljnmlaa", sum := "4e26d7570099fd505f1319483006bb7df60e97843c0e67408b71ec11c12d4ed4", func := "loop.example/g00909/laws.FnExactBlankBallots", spec := "fnExactBlankBallots", unfollowed := true, recurses := true, apart := false }
def FnExactBlankBallotsSaid : Prop := fnExactBlankBallotsRow.holds Try.pinned (OpenSpec.ofChange fnExactBlankBallotsSpec)

/-- ITS FALSE NEIGHBOUR: 'it returns false'. Refute it at one input. -/
def fnExactBlankBallotsWrong : ChangeSpec := { name := "fnExactBlankBallots", fn := fun _ => fun
  | [d1, d2] => { results := [.lit (.bool false)], args := [d1, d2] }
  | _ => none }
def FnExactBlankBallotsWrongFalsely : Prop := fnExactBlankBallotsRow.holds Try.pinned (OpenSpec.ofChange fnExactBlankBallotsWrong)

/-- 'laws.FnExactStrayCodes': WHATEVER THE INPUT: true; the input reads as it did. -/
def fnExactStrayCodesSpec : ChangeSpec := { name := "fnExactStrayCodes", fn := fun _ => fun
  | [d1, d2] => { results := [.lit (.bool true)], args := [d1, d2] }
  | _ => none }
def fnExactStrayCodesRow : OpenClaim := { program := "ytgoaoalfljnmlaa", sum := "4e26d7570099fd505f1319483006bb7df60e97843c0e67408b71ec11c12d4ed4", func := "loop.example/g00909/laws.FnExactStrayCodes", spec := "fnExactStrayCodes", unfollowed := true, recurses := true, apart := false }
def FnExactStrayCodesSaid : Prop := fnExactStrayCodesRow.holds Try.pinned (OpenSpec.ofChange fnExactStrayCodesSpec)

/-- ITS FALSE NEIGHBOUR: 'it returns false'. Refute it at one input. -/
def fnExactStrayCodesWrong : ChangeSpec := { name := "fnExactStrayCodes", fn := fun _ => fun
  | [d1, d2] => { results := [.lit (.bool false)], args := [d1, d2] }
  | _ => none }
def FnExactStrayCodesWrongFalsely : Prop := fnExactStrayCodesRow.holds Try.pinned (OpenSpec.ofChange fnExactStrayCodesWrong)

/-- 'laws.FnExactLeadingChoice': WHATEVER THE INPUT: true; the input reads as it did. -/
def fnExactLeadingChoiceSpec : ChangeSpec := { name := "fnExactLeadingChoice", fn := fun _ => fun
  | [d1, d2] => { results := [.lit (.bool true)], args := [d1, d2] }
  | _ => none }
def fnExactLeadingChoiceRow : OpenClaim := { program := "ytgoaoalfljnmlaa", sum := "4e26d7570099fd505f1319483006bb7df60e97843c0e67408b71ec11c12d4ed4", func := "loop.example/g00909/laws.FnExactLeadingChoice", spec := "fnExactLeadingChoice", unfollowed := true, recurses := true, apart := false }
def FnExactLeadingChoiceSaid : Prop := fnExactLeadingChoiceRow.holds Try.pinned (OpenSpec.ofChange fnExactLeadingChoiceSpec)

/-- ITS FALSE NEIGHBOUR: 'it returns false'. Refute it at one input. -/
def fnExactLeadingChoiceWrong : ChangeSpec := { name := "fnExactLeadingChoice", fn := fun _ => fun
  | [d1, d2] => { results := [.lit (.bool false)], args := [d1, d2] }
  | _ => none }
def FnExactLeadingChoiceWrongFalsely : Prop := fnExactLeadingChoiceRow.holds Try.pinned (OpenSpec.ofChange fnExactLeadingChoiceWrong)

/-- 'laws.FnExactCountChoices': WHATEVER THE INPUT: true; the input reads as it did. -/
def fnExactCountChoicesSpec : ChangeSpec := { name := "fnExactCountChoices", fn := fun _ => fun
  | [d1, d2] => { results := [.lit (.bool true)], args := [d1, d2] }
  | _ => none }
def fnExactCountChoicesRow : OpenClaim := { program := "ytgoaoalfljnmlaa", sum := "4e26d7570099fd505f1319483006bb7df60e97843c0e67408b71ec11c12d4ed4", func := "loop.example/g00909/laws.FnExactCountChoices", spec := "fnExactCountChoices", unfollowed := true, recurses := true, apart := false }
def FnExactCountChoicesSaid : Prop := fnExactCountChoicesRow.holds Try.pinned (OpenSpec.ofChange fnExactCountChoicesSpec)

/-- ITS FALSE NEIGHBOUR: 'it returns false'. Refute it at one input. -/
def fnExactCountChoicesWrong : ChangeSpec := { name := "fnExactCountChoices", fn := fun _ => fun
  | [d1, d2] => { results := [.lit (.bool false)], args := [d1, d2] }
  | _ => none }
def FnExactCountChoicesWrongFalsely : Prop := fnExactCountChoicesRow.holds Try.pinned (OpenSpec.ofChange fnExactCountChoicesWrong)

/- THE SECOND FORM. 'bulk': how many values and letters a reading holds, each counted each time it is reached (what is shared counts as often as it is met; a slice's spare places count too). A statement '..UptoSaid' is the law's where the arguments, and the package variables that the reading takes, are together of bulk at most 1048576: NARROWER than '..Said'. Prove '..Said' where nothing that the law and all that it calls make is longer than what came in: it says more and counts as full. Else prove '..UptoSaid'. A law counts once. -/
mutual
def uptoBulk {H : Type} : DataW H → Nat
  | .lit (.string bytes) => bytes.length + 1
  | .lit _ => 1
  | .nil => 1
  | .ptr d => uptoBulk d + 1
  | .slice elems spare => uptoBulkAll elems + uptoBulkAll spare + 1
  | .agg parts => uptoBulkAll parts + 1
  | .iface _ d => uptoBulk d + 1
  | .map entries => uptoBulkEntries entries + 1
  | .held _ => 1
def uptoBulkAll {H : Type} : List (DataW H) → Nat
  | [] => 0
  | d :: r => uptoBulk d + uptoBulkAll r
def uptoBulkEntries {H : Type} : List (Lit × DataW H) → Nat
  | [] => 0
  | x :: r => uptoBulkEntry x + uptoBulkEntries r
def uptoBulkEntry {H : Type} : Lit × DataW H → Nat
  | (.string bytes, d) => bytes.length + uptoBulk d + 1
  | (_, d) => uptoBulk d + 1
 end
def uptoSmall : (H : Type) → List (DataW H) → Bool := fun _ ds => decide (uptoBulkAll ds ≤ 1048576)
def OpenSpec.upto (s : _root_.Go.ChangeSpec) : _root_.Go.OpenSpec := { _root_.Go.OpenSpec.ofChange s with cond := some uptoSmall }

/-- 'laws.FnExactIsBox', WHERE WHAT IT READS IS OF BULK AT MOST 1048576: true; the input reads as it did. -/
def fnExactIsBoxUptoRow : OpenClaim := { program := "ytgoaoalfljnmlaa", sum := "4e26d7570099fd505f1319483006bb7df60e97843c0e67408b71ec11c12d4ed4", func := "loop.example/g00909/laws.FnExactIsBox", spec := "fnExactIsBox", unfollowed := true, recurses := true, apart := false, narrowed := true }
def FnExactIsBoxUptoSaid : Prop := fnExactIsBoxUptoRow.holds Try.pinned (OpenSpec.upto fnExactIsBoxSpec)

/-- 'laws.FnExactUnusedCodes', WHERE WHAT IT READS IS OF BULK AT MOST 1048576: true; the input reads as it did. -/
def fnExactUnusedCodesUptoRow : OpenClaim := { program := "ytgoaoalfljnmlaa", sum := "4e26d7570099fd505f1319483006bb7df60e97843c0e67408b71ec11c12d4ed4", func := "loop.example/g00909/laws.FnExactUnusedCodes", spec := "fnExactUnusedCodes", unfollowed := true, recurses := true, apart := false, narrowed := true }
def FnExactUnusedCodesUptoSaid : Prop := fnExactUnusedCodesUptoRow.holds Try.pinned (OpenSpec.upto fnExactUnusedCodesSpec)

/-- 'laws.FnExactGoodBallots', WHERE WHAT IT READS IS OF BULK AT MOST 1048576: true; the input reads as it did. -/
def fnExactGoodBallotsUptoRow : OpenClaim := { program := "ytgoaoalfljnmlaa", sum := "4e26d7570099fd505f1319483006bb7df60e97843c0e67408b71ec11c12d4ed4", func := "loop.example/g00909/laws.FnExactGoodBallots", spec := "fnExactGoodBallots", unfollowed := true, recurses := true, apart := false, narrowed := true }
def FnExactGoodBallotsUptoSaid : Prop := fnExactGoodBallotsUptoRow.holds Try.pinned (OpenSpec.upto fnExactGoodBallotsSpec)

/-- 'laws.FnExactSortBox', WHERE WHAT IT READS IS OF BULK AT MOST 1048576: true; the input reads as it did. -/
def fnExactSortBoxUptoRow : OpenClaim := { program := "ytgoaoalfljnmlaa", sum := "4e26d7570099fd505f1319483006bb7df60e97843c0e67408b71ec11c12d4ed4", func := "loop.example/g00909/laws.FnExactSortBox", spec := "fnExactSortBox", inPlace := ["internal/bytealg.abigen_runtime_cmpstring"], unfollowed := true, recurses := true, apart := false, narrowed := true }
def FnExactSortBoxUptoSaid : Prop := fnExactSortBoxUptoRow.holds Try.pinned (OpenSpec.upto fnExactSortBoxSpec)

/-- 'laws.FnExactBlankBallots', WHERE WHAT IT READS IS OF BULK AT MOST 1048576: true; the input reads as it did. -/
def fnExactBlankBallotsUptoRow : OpenClaim := { program := "ytgoaoalfljnmlaa", sum := "4e26d7570099fd505f1319483006bb7df60e97843c0e67408b71ec11c12d4ed4", func := "loop.example/g00909/laws.FnExactBlankBallots", spec := "fnExactBlankBallots", unfollowed := true, recurses := true, apart := false, narrowed := true }
def FnExactBlankBallotsUptoSaid : Prop := fnExactBlankBallotsUptoRow.holds Try.pinned (OpenSpec.upto fnExactBlankBallotsSpec)

/-- 'laws.FnExactStrayCodes', WHERE WHAT IT READS IS OF BULK AT MOST 1048576: true; the input reads as it did. -/
def fnExactStrayCodesUptoRow : OpenClaim := { program := "ytgoaoalfljnmlaa", sum := "4e26d7570099fd505f1319483006bb7df60e97843c0e67408b71ec11c12d4ed4", func := "loop.example/g00909/laws.FnExactStrayCodes", spec := "fnExactStrayCodes", unfollowed := true, recurses := true, apart := false, narrowed := true }
def FnExactStrayCodesUptoSaid : Prop := fnExactStrayCodesUptoRow.holds Try.pinned (OpenSpec.upto fnExactStrayCodesSpec)

/-- 'laws.FnExactLeadingChoice', WHERE WHAT IT READS IS OF BULK AT MOST 1048576: true; the input reads as it did. -/
def fnExactLeadingChoiceUptoRow : OpenClaim := { program := "ytgoaoalfljnmlaa", sum := "4e26d7570099fd505f1319483006bb7df60e97843c0e67408b71ec11c12d4ed4", func := "loop.example/g00909/laws.FnExactLeadingChoice", spec := "fnExactLeadingChoice", unfollowed := true, recurses := true, apart := false, narrowed := true }
def FnExactLeadingChoiceUptoSaid : Prop := fnExactLeadingChoiceUptoRow.holds Try.pinned (OpenSpec.upto fnExactLeadingChoiceSpec)

/-- 'laws.FnExactCountChoices', WHERE WHAT IT READS IS OF BULK AT MOST 1048576: true; the input reads as it did. -/
def fnExactCountChoicesUptoRow : OpenClaim := { program := "ytgoaoalfljnmlaa", sum := "4e26d7570099fd505f1319483006bb7df60e97843c0e67408b71ec11c12d4ed4", func := "loop.example/g00909/laws.FnExactCountChoices", spec := "fnExactCountChoices", unfollowed := true, recurses := true, apart := false, narrowed := true }
def FnExactCountChoicesUptoSaid : Prop := fnExactCountChoicesUptoRow.holds Try.pinned (OpenSpec.upto fnExactCountChoicesSpec)

end Rows
end Go.Proofs.Ytgoaoalfljnmlaa
