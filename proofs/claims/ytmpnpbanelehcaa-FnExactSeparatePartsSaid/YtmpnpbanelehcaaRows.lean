/-
  No cell of these rows narrows 'for every input' (looked for: loops, veiled, ifaces, maps, wideKeys, modest, calm, conditions, laid).
  DERIVED. THE GIVEN ROWS OF THIS SEAT. 10 by the template 'for every input the law returns true; each argument reads behind the call as it read before'; 0 by the template 'total and deterministic' (their statements: YtmpnpbanelehcaaTotals.lean).
  GIVEN WITH THE SEED: the statements are not yours to turn. If you find one false, say at which input.
  Laid BY PROGRAM, IN A SANDBOX (cutbox-rows.mjs): the forced cells as the released guide's own fill.sh prints them over the translation de4a97f68aa1d188… (all of the seat's roots in one cut). By AI agents, Wed Nov 11 2026. No macro, syntax, notation, axiom, sorry.
-/
import Derived.Test.YtmpnpbanelehcaaChecked
import GoSem.Claim
import GoSem.ClaimJoined
import GoSem.ClaimMapViews
import Derived.JoinedTies
import Derived.KernelRfl
namespace Go.Proofs.Ytmpnpbanelehcaa
/- THE CELL 'sum', in the pinned program and in every row, IS THE sha256 OF THE DUMP (.gsa) THAT YtmpnpbanelehcaaProg.lean LOADS. Nothing in Lean hashes anything: it is a label: what it is worth is what the hold of that sum in a sandbox is worth. -/
noncomputable def Try.pinned : Pinned := { name := "ytmpnpbanelehcaa", sum := "de4a97f68aa1d1881baaa84cf652fa8abeb3124c0c2fea0d1d7a431880e87421", checked := Try.checked }
namespace Rows
def none {H : Type} : Left H := { results := [], args := [] }

/-- 'laws.FnExactAreClauses': WHATEVER THE INPUT: true; the input reads as it did. -/
def fnExactAreClausesSpec : ChangeSpec := { name := "fnExactAreClauses", fn := fun _ => fun
  | [d] => { results := [.lit (.bool true)], args := [d] }
  | _ => none }
def fnExactAreClausesRow : OpenClaim := { program := "ytmpnpbanelehcaa", sum := "de4a97f68aa1d1881baaa84cf652fa8abeb3124c0c2fea0d1d7a431880e87421", func := "loop.example/g00909/laws.FnExactAreClauses", spec := "fnExactAreClauses", unfollowed := true, recurses := true, apart := false }
def FnExactAreClausesSaid : Prop := fnExactAreClausesRow.holds Try.pinned (OpenSpec.ofChange fnExactAreClausesSpec)

/-- ITS FALSE NEIGHBOUR: 'it returns false'. Refute it at one input. -/
def fnExactAreClausesWrong : ChangeSpec := { name := "fnExactAreClauses", fn := fun _ => fun
  | [d] => { results := [.lit (.bool false)], args := [d] }
  | _ => none }
def FnExactAreClausesWrongFalsely : Prop := fnExactAreClausesRow.holds Try.pinned (OpenSpec.ofChange fnExactAreClausesWrong)

/-- 'laws.FnExactDearestClause': WHATEVER THE INPUT: true; the input reads as it did. -/
def fnExactDearestClauseSpec : ChangeSpec := { name := "fnExactDearestClause", fn := fun _ => fun
  | [d] => { results := [.lit (.bool true)], args := [d] }
  | _ => none }
def fnExactDearestClauseRow : OpenClaim := { program := "ytmpnpbanelehcaa", sum := "de4a97f68aa1d1881baaa84cf652fa8abeb3124c0c2fea0d1d7a431880e87421", func := "loop.example/g00909/laws.FnExactDearestClause", spec := "fnExactDearestClause", unfollowed := true, recurses := true, apart := false }
def FnExactDearestClauseSaid : Prop := fnExactDearestClauseRow.holds Try.pinned (OpenSpec.ofChange fnExactDearestClauseSpec)

/-- ITS FALSE NEIGHBOUR: 'it returns false'. Refute it at one input. -/
def fnExactDearestClauseWrong : ChangeSpec := { name := "fnExactDearestClause", fn := fun _ => fun
  | [d] => { results := [.lit (.bool false)], args := [d] }
  | _ => none }
def FnExactDearestClauseWrongFalsely : Prop := fnExactDearestClauseRow.holds Try.pinned (OpenSpec.ofChange fnExactDearestClauseWrong)

/-- 'laws.FnExactDependentsOf': WHATEVER THE INPUT: true; the input reads as it did. -/
def fnExactDependentsOfSpec : ChangeSpec := { name := "fnExactDependentsOf", fn := fun _ => fun
  | [d1, d2] => { results := [.lit (.bool true)], args := [d1, d2] }
  | _ => none }
def fnExactDependentsOfRow : OpenClaim := { program := "ytmpnpbanelehcaa", sum := "de4a97f68aa1d1881baaa84cf652fa8abeb3124c0c2fea0d1d7a431880e87421", func := "loop.example/g00909/laws.FnExactDependentsOf", spec := "fnExactDependentsOf", unfollowed := true, recurses := true, apart := false }
def FnExactDependentsOfSaid : Prop := fnExactDependentsOfRow.holds Try.pinned (OpenSpec.ofChange fnExactDependentsOfSpec)

/-- ITS FALSE NEIGHBOUR: 'it returns false'. Refute it at one input. -/
def fnExactDependentsOfWrong : ChangeSpec := { name := "fnExactDependentsOf", fn := fun _ => fun
  | [d1, d2] => { results := [.lit (.bool false)], args := [d1, d2] }
  | _ => none }
def FnExactDependentsOfWrongFalsely : Prop := fnExactDependentsOfRow.holds Try.pinned (OpenSpec.ofChange fnExactDependentsOfWrong)

/-- 'laws.FnExactClosureOf': WHATEVER THE INPUT: true; the input reads as it did. -/
def fnExactClosureOfSpec : ChangeSpec := { name := "fnExactClosureOf", fn := fun _ => fun
  | [d1, d2] => { results := [.lit (.bool true)], args := [d1, d2] }
  | _ => none }
def fnExactClosureOfRow : OpenClaim := { program := "ytmpnpbanelehcaa", sum := "de4a97f68aa1d1881baaa84cf652fa8abeb3124c0c2fea0d1d7a431880e87421", func := "loop.example/g00909/laws.FnExactClosureOf", spec := "fnExactClosureOf", unfollowed := true, recurses := true, apart := false }
def FnExactClosureOfSaid : Prop := fnExactClosureOfRow.holds Try.pinned (OpenSpec.ofChange fnExactClosureOfSpec)

/-- ITS FALSE NEIGHBOUR: 'it returns false'. Refute it at one input. -/
def fnExactClosureOfWrong : ChangeSpec := { name := "fnExactClosureOf", fn := fun _ => fun
  | [d1, d2] => { results := [.lit (.bool false)], args := [d1, d2] }
  | _ => none }
def FnExactClosureOfWrongFalsely : Prop := fnExactClosureOfRow.holds Try.pinned (OpenSpec.ofChange fnExactClosureOfWrong)

/-- 'laws.FnExactStandingClauses': WHATEVER THE INPUT: true; the input reads as it did. -/
def fnExactStandingClausesSpec : ChangeSpec := { name := "fnExactStandingClauses", fn := fun _ => fun
  | [d1, d2] => { results := [.lit (.bool true)], args := [d1, d2] }
  | _ => none }
def fnExactStandingClausesRow : OpenClaim := { program := "ytmpnpbanelehcaa", sum := "de4a97f68aa1d1881baaa84cf652fa8abeb3124c0c2fea0d1d7a431880e87421", func := "loop.example/g00909/laws.FnExactStandingClauses", spec := "fnExactStandingClauses", unfollowed := true, recurses := true, apart := false }
def FnExactStandingClausesSaid : Prop := fnExactStandingClausesRow.holds Try.pinned (OpenSpec.ofChange fnExactStandingClausesSpec)

/-- ITS FALSE NEIGHBOUR: 'it returns false'. Refute it at one input. -/
def fnExactStandingClausesWrong : ChangeSpec := { name := "fnExactStandingClauses", fn := fun _ => fun
  | [d1, d2] => { results := [.lit (.bool false)], args := [d1, d2] }
  | _ => none }
def FnExactStandingClausesWrongFalsely : Prop := fnExactStandingClausesRow.holds Try.pinned (OpenSpec.ofChange fnExactStandingClausesWrong)

/-- 'laws.FnExactFallenClauses': WHATEVER THE INPUT: true; the input reads as it did. -/
def fnExactFallenClausesSpec : ChangeSpec := { name := "fnExactFallenClauses", fn := fun _ => fun
  | [d1, d2] => { results := [.lit (.bool true)], args := [d1, d2] }
  | _ => none }
def fnExactFallenClausesRow : OpenClaim := { program := "ytmpnpbanelehcaa", sum := "de4a97f68aa1d1881baaa84cf652fa8abeb3124c0c2fea0d1d7a431880e87421", func := "loop.example/g00909/laws.FnExactFallenClauses", spec := "fnExactFallenClauses", unfollowed := true, recurses := true, apart := false }
def FnExactFallenClausesSaid : Prop := fnExactFallenClausesRow.holds Try.pinned (OpenSpec.ofChange fnExactFallenClausesSpec)

/-- ITS FALSE NEIGHBOUR: 'it returns false'. Refute it at one input. -/
def fnExactFallenClausesWrong : ChangeSpec := { name := "fnExactFallenClauses", fn := fun _ => fun
  | [d1, d2] => { results := [.lit (.bool false)], args := [d1, d2] }
  | _ => none }
def FnExactFallenClausesWrongFalsely : Prop := fnExactFallenClausesRow.holds Try.pinned (OpenSpec.ofChange fnExactFallenClausesWrong)

/-- 'laws.FnExactDividedText': WHATEVER THE INPUT: true; the input reads as it did. -/
def fnExactDividedTextSpec : ChangeSpec := { name := "fnExactDividedText", fn := fun _ => fun
  | [d1, d2] => { results := [.lit (.bool true)], args := [d1, d2] }
  | _ => none }
def fnExactDividedTextRow : OpenClaim := { program := "ytmpnpbanelehcaa", sum := "de4a97f68aa1d1881baaa84cf652fa8abeb3124c0c2fea0d1d7a431880e87421", func := "loop.example/g00909/laws.FnExactDividedText", spec := "fnExactDividedText", unfollowed := true, recurses := true, apart := false }
def FnExactDividedTextSaid : Prop := fnExactDividedTextRow.holds Try.pinned (OpenSpec.ofChange fnExactDividedTextSpec)

/-- ITS FALSE NEIGHBOUR: 'it returns false'. Refute it at one input. -/
def fnExactDividedTextWrong : ChangeSpec := { name := "fnExactDividedText", fn := fun _ => fun
  | [d1, d2] => { results := [.lit (.bool false)], args := [d1, d2] }
  | _ => none }
def FnExactDividedTextWrongFalsely : Prop := fnExactDividedTextRow.holds Try.pinned (OpenSpec.ofChange fnExactDividedTextWrong)

/-- 'laws.FnExactSeparateParts': WHATEVER THE INPUT: true; the input reads as it did. -/
def fnExactSeparatePartsSpec : ChangeSpec := { name := "fnExactSeparateParts", fn := fun _ => fun
  | [d] => { results := [.lit (.bool true)], args := [d] }
  | _ => none }
def fnExactSeparatePartsRow : OpenClaim := { program := "ytmpnpbanelehcaa", sum := "de4a97f68aa1d1881baaa84cf652fa8abeb3124c0c2fea0d1d7a431880e87421", func := "loop.example/g00909/laws.FnExactSeparateParts", spec := "fnExactSeparateParts", unfollowed := true, recurses := true, apart := false }
def FnExactSeparatePartsSaid : Prop := fnExactSeparatePartsRow.holds Try.pinned (OpenSpec.ofChange fnExactSeparatePartsSpec)

/-- ITS FALSE NEIGHBOUR: 'it returns false'. Refute it at one input. -/
def fnExactSeparatePartsWrong : ChangeSpec := { name := "fnExactSeparateParts", fn := fun _ => fun
  | [d] => { results := [.lit (.bool false)], args := [d] }
  | _ => none }
def FnExactSeparatePartsWrongFalsely : Prop := fnExactSeparatePartsRow.holds Try.pinned (OpenSpec.ofChange fnExactSeparatePartsWrong)

/-- 'laws.FnExactJoinClauses': WHATEVER THE INPUT: true; the input reads as it did. -/
def fnExactJoinClausesSpec : ChangeSpec := { name := "fnExactJoinClauses", fn := fun _ => fun
  | [d1, d2] => { results := [.lit (.bool true)], args := [d1, d2] }
  | _ => none }
def fnExactJoinClausesRow : OpenClaim := { program := "ytmpnpbanelehcaa", sum := "de4a97f68aa1d1881baaa84cf652fa8abeb3124c0c2fea0d1d7a431880e87421", func := "loop.example/g00909/laws.FnExactJoinClauses", spec := "fnExactJoinClauses", unfollowed := true, recurses := true, apart := false }
def FnExactJoinClausesSaid : Prop := fnExactJoinClausesRow.holds Try.pinned (OpenSpec.ofChange fnExactJoinClausesSpec)

/-- ITS FALSE NEIGHBOUR: 'it returns false'. Refute it at one input. -/
def fnExactJoinClausesWrong : ChangeSpec := { name := "fnExactJoinClauses", fn := fun _ => fun
  | [d1, d2] => { results := [.lit (.bool false)], args := [d1, d2] }
  | _ => none }
def FnExactJoinClausesWrongFalsely : Prop := fnExactJoinClausesRow.holds Try.pinned (OpenSpec.ofChange fnExactJoinClausesWrong)

/-- 'laws.FnDivisions': WHATEVER THE INPUT: true; the input reads as it did. -/
def fnDivisionsSpec : ChangeSpec := { name := "fnDivisions", fn := fun _ => fun
  | [d] => { results := [.lit (.bool true)], args := [d] }
  | _ => none }
def fnDivisionsRow : OpenClaim := { program := "ytmpnpbanelehcaa", sum := "de4a97f68aa1d1881baaa84cf652fa8abeb3124c0c2fea0d1d7a431880e87421", func := "loop.example/g00909/laws.FnDivisions", spec := "fnDivisions", unfollowed := true, recurses := true, apart := false }
def FnDivisionsSaid : Prop := fnDivisionsRow.holds Try.pinned (OpenSpec.ofChange fnDivisionsSpec)

/-- ITS FALSE NEIGHBOUR: 'it returns false'. Refute it at one input. -/
def fnDivisionsWrong : ChangeSpec := { name := "fnDivisions", fn := fun _ => fun
  | [d] => { results := [.lit (.bool false)], args := [d] }
  | _ => none }
def FnDivisionsWrongFalsely : Prop := fnDivisionsRow.holds Try.pinned (OpenSpec.ofChange fnDivisionsWrong)

/- THE SECOND FORM. 'bulk': how many values and letters a reading holds, each counted each time it is reached (what is shared counts as often as it is met; a slice's spare places count too). A statement '..UptoSaid' is the law's where the arguments, and the package variables that the reading takes, are together of bulk at most 1048576: NARROWER than '..Said'. Prove '..Said' where nothing that the law and all that it calls make is longer than what came in: it says more and counts as full. Else prove '..UptoSaid'. A law counts once. -/
mutual
def uptoBulk {H : Type} : DataW H → Nat
  | .lit (.string bytes) => bytes.length + 1
  | .lit _ => 1
  | .nil => 1
  | .ptr d => uptoBulk d + 1
  | .slice elems spare => uptoBulkAll elems + uptoBulkAll spare + 1
  | .agg parts => uptoBulkAll parts + 1
  | .iface _ d => uptoBulk d + 1
  | .map entries => uptoBulkEntries entries + 1
  | .held _ => 1
def uptoBulkAll {H : Type} : List (DataW H) → Nat
  | [] => 0
  | d :: r => uptoBulk d + uptoBulkAll r
def uptoBulkEntries {H : Type} : List (Lit × DataW H) → Nat
  | [] => 0
  | x :: r => uptoBulkEntry x + uptoBulkEntries r
def uptoBulkEntry {H : Type} : Lit × DataW H → Nat
  | (.string bytes, d) => bytes.length + uptoBulk d + 1
  | (_, d) => uptoBulk d + 1
 end
def uptoSmall : (H : Type) → List (DataW H) → Bool := fun _ ds => decide (uptoBulkAll ds ≤ 1048576)
def OpenSpec.upto (s : _root_.Go.ChangeSpec) : _root_.Go.OpenSpec := { _root_.Go.OpenSpec.ofChange s with cond := some uptoSmall }

/-- 'laws.FnExactAreClauses', WHERE WHAT IT READS IS OF BULK AT MOST 1048576: true; the input reads as it did. -/
def fnExactAreClausesUptoRow : OpenClaim := { program := "ytmpnpbanelehcaa", sum := "de4a97f68aa1d1881baaa84cf652fa8abeb3124c0c2fea0d1d7a431880e87421", func := "loop.example/g00909/laws.FnExactAreClauses", spec := "fnExactAreClauses", unfollowed := true, recurses := true, apart := false, narrowed := true }
def FnExactAreClausesUptoSaid : Prop := fnExactAreClausesUptoRow.holds Try.pinned (OpenSpec.upto fnExactAreClausesSpec)

/-- 'laws.FnExactDearestClause', WHERE WHAT IT READS IS OF BULK AT MOST 1048576: true; the input reads as it did. -/
def fnExactDearestClauseUptoRow : OpenClaim := { program := "ytmpnpbanelehcaa", sum := "de4a97f68aa1d1881baaa84cf652fa8abeb3124c0c2fea0d1d7a431880e87421", func := "loop.example/g00909/laws.FnExactDearestClause", spec := "fnExactDearestClause", unfollowed := true, recurses := true, apart := false, narrowed := true }
def FnExactDearestClauseUptoSaid : Prop := fnExactDearestClauseUptoRow.holds Try.pinned (OpenSpec.upto fnExactDearestClauseSpec)

/-- 'laws.FnExactDependentsOf', WHERE WHAT IT READS IS OF BULK AT MOST 1048576: true; the input reads as it did. -/
def fnExactDependentsOfUptoRow : OpenClaim := { program := "ytmpnpbanelehcaa", sum := "de4a97f68aa1d1881baaa84cf652fa8abeb3124c0c2fea0d1d7a431880e87421", func := "loop.example/g00909/laws.FnExactDependentsOf", spec := "fnExactDependentsOf", unfollowed := true, recurses := true, apart := false, narrowed := true }
def FnExactDependentsOfUptoSaid : Prop := fnExactDependentsOfUptoRow.holds Try.pinned (OpenSpec.upto fnExactDependentsOfSpec)

/-- 'laws.FnExactClosureOf', WHERE WHAT IT READS IS OF BULK AT MOST 1048576: true; the input reads as it did. -/
def fnExactClosureOfUptoRow : OpenClaim := { program := "ytmpnpbanelehcaa", sum := "de4a97f68aa1d1881baaa84cf652fa8abeb3124c0c2fea0d1d7a431880e87421", func := "loop.example/g00909/laws.FnExactClosureOf", spec := "fnExactClosureOf", unfollowed := true, recurses := true, apart := false, narrowed := true }
def FnExactClosureOfUptoSaid : Prop := fnExactClosureOfUptoRow.holds Try.pinned (OpenSpec.upto fnExactClosureOfSpec)

/-- 'laws.FnExactStandingClauses', WHERE WHAT IT READS IS OF BULK AT MOST 1048576: true; the input reads as it did. -/
def fnExactStandingClausesUptoRow : OpenClaim := { program := "ytmpnpbanelehcaa", sum := "de4a97f68aa1d1881baaa84cf652fa8abeb3124c0c2fea0d1d7a431880e87421", func := "loop.example/g00909/laws.FnExactStandingClauses", spec := "fnExactStandingClauses", unfollowed := true, recurses := true, apart := false, narrowed := true }
def FnExactStandingClausesUptoSaid : Prop := fnExactStandingClausesUptoRow.holds Try.pinned (OpenSpec.upto fnExactStandingClausesSpec)

/-- 'laws.FnExactFallenClauses', WHERE WHAT IT READS IS OF BULK AT MOST 1048576: true; the input reads as it did. -/
def fnExactFallenClausesUptoRow : OpenClaim := { program := "ytmpnpbanelehcaa", sum := "de4a97f68aa1d1881baaa84cf652fa8abeb3124c0c2fea0d1d7a431880e87421", func := "loop.example/g00909/laws.FnExactFallenClauses", spec := "fnExactFallenClauses", unfollowed := true, recurses := true, apart := false, narrowed := true }
def FnExactFallenClausesUptoSaid : Prop := fnExactFallenClausesUptoRow.holds Try.pinned (OpenSpec.upto fnExactFallenClausesSpec)

/-- 'laws.FnExactDividedText', WHERE WHAT IT READS IS OF BULK AT MOST 1048576: true; the input reads as it did. -/
def fnExactDividedTextUptoRow : OpenClaim := { program := "ytmpnpbanelehcaa", sum := "de4a97f68aa1d1881baaa84cf652fa8abeb3124c0c2fea0d1d7a431880e87421", func := "loop.example/g00909/laws.FnExactDividedText", spec := "fnExactDividedText", unfollowed := true, recurses := true, apart := false, narrowed := true }
def FnExactDividedTextUptoSaid : Prop := fnExactDividedTextUptoRow.holds Try.pinned (OpenSpec.upto fnExactDividedTextSpec)

/-- 'laws.FnExactSeparateParts', WHERE WHAT IT READS IS OF BULK AT MOST 1048576: true; the input reads as it did. -/
def fnExactSeparatePartsUptoRow : OpenClaim := { program := "ytmpnpbanelehcaa", sum := "de4a97f68aa1d1881baaa84cf652fa8abeb3124c0c2fea0d1d7a431880e87421", func := "loop.example/g00909/laws.FnExactSeparateParts", spec := "fnExactSeparateParts", unfollowed := true, recurses := true, apart := false, narrowed := true }
def FnExactSeparatePartsUptoSaid : Prop := fnExactSeparatePartsUptoRow.holds Try.pinned (OpenSpec.upto fnExactSeparatePartsSpec)

/-- 'laws.FnExactJoinClauses', WHERE WHAT IT READS IS OF BULK AT MOST 1048576: true; the input reads as it did. -/
def fnExactJoinClausesUptoRow : OpenClaim := { program := "ytmpnpbanelehcaa", sum := "de4a97f68aa1d1881baaa84cf652fa8abeb3124c0c2fea0d1d7a431880e87421", func := "loop.example/g00909/laws.FnExactJoinClauses", spec := "fnExactJoinClauses", unfollowed := true, recurses := true, apart := false, narrowed := true }
def FnExactJoinClausesUptoSaid : Prop := fnExactJoinClausesUptoRow.holds Try.pinned (OpenSpec.upto fnExactJoinClausesSpec)

/-- 'laws.FnDivisions', WHERE WHAT IT READS IS OF BULK AT MOST 1048576: true; the input reads as it did. -/
def fnDivisionsUptoRow : OpenClaim := { program := "ytmpnpbanelehcaa", sum := "de4a97f68aa1d1881baaa84cf652fa8abeb3124c0c2fea0d1d7a431880e87421", func := "loop.example/g00909/laws.FnDivisions", spec := "fnDivisions", unfollowed := true, recurses := true, apart := false, narrowed := true }
def FnDivisionsUptoSaid : Prop := fnDivisionsUptoRow.holds Try.pinned (OpenSpec.upto fnDivisionsSpec)

end Rows
end Go.Proofs.Ytmpnpbanelehcaa
