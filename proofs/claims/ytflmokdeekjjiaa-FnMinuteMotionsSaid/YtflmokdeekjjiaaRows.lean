/-
  No cell of these rows narrows 'for every input' (looked for: loops, veiled, ifaces, maps, wideKeys, modest, calm, conditions, laid).
  DERIVED. THE GIVEN ROWS OF THIS SEAT. 6 by the template 'for every input the law returns true; each argument reads behind the call as it read before'; 0 by the template 'total and deterministic' (their statements: YtflmokdeekjjiaaTotals.lean).
  GIVEN WITH THE SEED: the statements are not yours to turn. If you find one false, say at which input.
  Laid BY PROGRAM, IN A SANDBOX (cutbox-rows.mjs): the forced cells as the released guide's own fill.sh prints them over the translation 7caa26a4546d39ec… (all of the seat's roots in one cut). By AI agents, Wed Nov 11 2026. No macro, syntax, notation, axiom, sorry.
-/
import Derived.Test.YtflmokdeekjjiaaChecked
import GoSem.Claim
import GoSem.ClaimJoined
import GoSem.ClaimMapViews
import Derived.JoinedTies
import Derived.KernelRfl
namespace Go.Proofs.Ytflmokdeekjjiaa
/- THE CELL 'sum', in the pinned program and in every row, IS THE sha256 OF THE DUMP (.gsa) THAT YtflmokdeekjjiaaProg.lean LOADS. Nothing in Lean hashes anything: it is a label: what it is worth is what the hold of that sum in a sandbox is worth. -/
noncomputable def Try.pinned : Pinned := { name := "ytflmokdeekjjiaa", sum := "7caa26a4546d39ec00428b5f4528964725c83772c6ee3b8f71f7473ac334a64e", checked := Try.checked }
namespace Rows
def none {H : Type} : Left H := { results := [], args := [] }

/-- 'laws.FnExactIsValidEntry': WHATEVER THE INPUT: true; the input reads as it did. -/
def fnExactIsValidEntrySpec : ChangeSpec := { name := "fnExactIsValidEntry", fn := fun _ => fun
  | [d] => { results := [.lit (.bool true)], args := [d] }
  | _ => none }
def fnExactIsValidEntryRow : OpenClaim := { program := "ytflmokdeekjjiaa", sum := "7caa26a4546d39ec00428b5f4528964725c83772c6ee3b8f71f7473ac334a64e", func := "loop.example/g00909/laws.FnExactIsValidEntry", spec := "fnExactIsValidEntry", apart := false }
def FnExactIsValidEntrySaid : Prop := fnExactIsValidEntryRow.holds Try.pinned (OpenSpec.ofChange fnExactIsValidEntrySpec)

/-- ITS FALSE NEIGHBOUR: 'it returns false'. Refute it at one input. -/
def fnExactIsValidEntryWrong : ChangeSpec := { name := "fnExactIsValidEntry", fn := fun _ => fun
  | [d] => { results := [.lit (.bool false)], args := [d] }
  | _ => none }
def FnExactIsValidEntryWrongFalsely : Prop := fnExactIsValidEntryRow.holds Try.pinned (OpenSpec.ofChange fnExactIsValidEntryWrong)

/-- 'laws.FnExactIsComplete': WHATEVER THE INPUT: true; the input reads as it did. -/
def fnExactIsCompleteSpec : ChangeSpec := { name := "fnExactIsComplete", fn := fun _ => fun
  | [d] => { results := [.lit (.bool true)], args := [d] }
  | _ => none }
def fnExactIsCompleteRow : OpenClaim := { program := "ytflmokdeekjjiaa", sum := "7caa26a4546d39ec00428b5f4528964725c83772c6ee3b8f71f7473ac334a64e", func := "loop.example/g00909/laws.FnExactIsComplete", spec := "fnExactIsComplete", unfollowed := true, recurses := true, apart := false }
def FnExactIsCompleteSaid : Prop := fnExactIsCompleteRow.holds Try.pinned (OpenSpec.ofChange fnExactIsCompleteSpec)

/-- ITS FALSE NEIGHBOUR: 'it returns false'. Refute it at one input. -/
def fnExactIsCompleteWrong : ChangeSpec := { name := "fnExactIsComplete", fn := fun _ => fun
  | [d] => { results := [.lit (.bool false)], args := [d] }
  | _ => none }
def FnExactIsCompleteWrongFalsely : Prop := fnExactIsCompleteRow.holds Try.pinned (OpenSpec.ofChange fnExactIsCompleteWrong)

/-- 'laws.FnExactAdoptedMotions': WHATEVER THE INPUT: true; the input reads as it did. -/
def fnExactAdoptedMotionsSpec : ChangeSpec := { name := "fnExactAdoptedMotions", fn := fun _ => fun
  | [d] => { results := [.lit (.bool true)], args := [d] }
  | _ => none }
def fnExactAdoptedMotionsRow : OpenClaim := { program := "ytflmokdeekjjiaa", sum := "7caa26a4546d39ec00428b5f4528964725c83772c6ee3b8f71f7473ac334a64e", func := "loop.example/g00909/laws.FnExactAdoptedMotions", spec := "fnExactAdoptedMotions", unfollowed := true, recurses := true, apart := false }
def FnExactAdoptedMotionsSaid : Prop := fnExactAdoptedMotionsRow.holds Try.pinned (OpenSpec.ofChange fnExactAdoptedMotionsSpec)

/-- ITS FALSE NEIGHBOUR: 'it returns false'. Refute it at one input. -/
def fnExactAdoptedMotionsWrong : ChangeSpec := { name := "fnExactAdoptedMotions", fn := fun _ => fun
  | [d] => { results := [.lit (.bool false)], args := [d] }
  | _ => none }
def FnExactAdoptedMotionsWrongFalsely : Prop := fnExactAdoptedMotionsRow.holds Try.pinned (OpenSpec.ofChange fnExactAdoptedMotionsWrong)

/-- 'laws.FnExactEntriesOf': WHATEVER THE INPUT: true; the input reads as it did. -/
def fnExactEntriesOfSpec : ChangeSpec := { name := "fnExactEntriesOf", fn := fun _ => fun
  | [d1, d2] => { results := [.lit (.bool true)], args := [d1, d2] }
  | _ => none }
def fnExactEntriesOfRow : OpenClaim := { program := "ytflmokdeekjjiaa", sum := "7caa26a4546d39ec00428b5f4528964725c83772c6ee3b8f71f7473ac334a64e", func := "loop.example/g00909/laws.FnExactEntriesOf", spec := "fnExactEntriesOf", unfollowed := true, recurses := true, apart := false }
def FnExactEntriesOfSaid : Prop := fnExactEntriesOfRow.holds Try.pinned (OpenSpec.ofChange fnExactEntriesOfSpec)

/-- ITS FALSE NEIGHBOUR: 'it returns false'. Refute it at one input. -/
def fnExactEntriesOfWrong : ChangeSpec := { name := "fnExactEntriesOf", fn := fun _ => fun
  | [d1, d2] => { results := [.lit (.bool false)], args := [d1, d2] }
  | _ => none }
def FnExactEntriesOfWrongFalsely : Prop := fnExactEntriesOfRow.holds Try.pinned (OpenSpec.ofChange fnExactEntriesOfWrong)

/-- 'laws.FnExactOpenMotions': WHATEVER THE INPUT: true; the input reads as it did. -/
def fnExactOpenMotionsSpec : ChangeSpec := { name := "fnExactOpenMotions", fn := fun _ => fun
  | [d] => { results := [.lit (.bool true)], args := [d] }
  | _ => none }
def fnExactOpenMotionsRow : OpenClaim := { program := "ytflmokdeekjjiaa", sum := "7caa26a4546d39ec00428b5f4528964725c83772c6ee3b8f71f7473ac334a64e", func := "loop.example/g00909/laws.FnExactOpenMotions", spec := "fnExactOpenMotions", unfollowed := true, recurses := true, apart := false }
def FnExactOpenMotionsSaid : Prop := fnExactOpenMotionsRow.holds Try.pinned (OpenSpec.ofChange fnExactOpenMotionsSpec)

/-- ITS FALSE NEIGHBOUR: 'it returns false'. Refute it at one input. -/
def fnExactOpenMotionsWrong : ChangeSpec := { name := "fnExactOpenMotions", fn := fun _ => fun
  | [d] => { results := [.lit (.bool false)], args := [d] }
  | _ => none }
def FnExactOpenMotionsWrongFalsely : Prop := fnExactOpenMotionsRow.holds Try.pinned (OpenSpec.ofChange fnExactOpenMotionsWrong)

/-- 'laws.FnMinuteMotions': WHATEVER THE INPUT: true; the input reads as it did. -/
def fnMinuteMotionsSpec : ChangeSpec := { name := "fnMinuteMotions", fn := fun _ => fun
  | [d] => { results := [.lit (.bool true)], args := [d] }
  | _ => none }
def fnMinuteMotionsRow : OpenClaim := { program := "ytflmokdeekjjiaa", sum := "7caa26a4546d39ec00428b5f4528964725c83772c6ee3b8f71f7473ac334a64e", func := "loop.example/g00909/laws.FnMinuteMotions", spec := "fnMinuteMotions", unfollowed := true, recurses := true, apart := false }
def FnMinuteMotionsSaid : Prop := fnMinuteMotionsRow.holds Try.pinned (OpenSpec.ofChange fnMinuteMotionsSpec)

/-- ITS FALSE NEIGHBOUR: 'it returns false'. Refute it at one input. -/
def fnMinuteMotionsWrong : ChangeSpec := { name := "fnMinuteMotions", fn := fun _ => fun
  | [d] => { results := [.lit (.bool false)], args := [d] }
  | _ => none }
def FnMinuteMotionsWrongFalsely : Prop := fnMinuteMotionsRow.holds Try.pinned (OpenSpec.ofChange fnMinuteMotionsWrong)

/- THE SECOND FORM. 'bulk': how many values and letters a reading holds, each counted each time it is reached (what is shared counts as often as it is met; a slice's spare places count too). A statement '..UptoSaid' is the law's where the arguments, and the package variables that the reading takes, are together of bulk at most 1048576: NARROWER than '..Said'. Prove '..Said' where nothing that the law and all that it calls make is longer than what came in: it says more and counts as full. Else prove '..UptoSaid'. A law counts once. -/
mutual
def uptoBulk {H : Type} : DataW H → Nat
  | .lit (.string bytes) => bytes.length + 1
  | .lit _ => 1
  | .nil => 1
  | .ptr d => uptoBulk d + 1
  | .slice elems spare => uptoBulkAll elems + uptoBulkAll spare + 1
  | .agg parts => uptoBulkAll parts + 1
  | .iface _ d => uptoBulk d + 1
  | .map entries => uptoBulkEntries entries + 1
  | .held _ => 1
def uptoBulkAll {H : Type} : List (DataW H) → Nat
  | [] => 0
  | d :: r => uptoBulk d + uptoBulkAll r
def uptoBulkEntries {H : Type} : List (Lit × DataW H) → Nat
  | [] => 0
  | x :: r => uptoBulkEntry x + uptoBulkEntries r
def uptoBulkEntry {H : Type} : Lit × DataW H → Nat
  | (.string bytes, d) => bytes.length + uptoBulk d + 1
  | (_, d) => uptoBulk d + 1
 end
def uptoSmall : (H : Type) → List (DataW H) → Bool := fun _ ds => decide (uptoBulkAll ds ≤ 1048576)
def OpenSpec.upto (s : _root_.Go.ChangeSpec) : _root_.Go.OpenSpec := { _root_.Go.OpenSpec.ofChange s with cond := some uptoSmall }

/-- 'laws.FnExactIsValidEntry', WHERE WHAT IT READS IS OF BULK AT MOST 1048576: true; the input reads as it did. -/
def fnExactIsValidEntryUptoRow : OpenClaim := { program := "ytflmokdeekjjiaa", sum := "7caa26a4546d39ec00428b5f4528964725c83772c6ee3b8f71f7473ac334a64e", func := "loop.example/g00909/laws.FnExactIsValidEntry", spec := "fnExactIsValidEntry", apart := false, narrowed := true }
def FnExactIsValidEntryUptoSaid : Prop := fnExactIsValidEntryUptoRow.holds Try.pinned (OpenSpec.upto fnExactIsValidEntrySpec)

/-- 'laws.FnExactIsComplete', WHERE WHAT IT READS IS OF BULK AT MOST 1048576: true; the input reads as it did. -/
def fnExactIsCompleteUptoRow : OpenClaim := { program := "ytflmokdeekjjiaa", sum := "7caa26a4546d39ec00428b5f4528964725c83772c6ee3b8f71f7473ac334a64e", func := "loop.example/g00909/laws.FnExactIsComplete", spec := "fnExactIsComplete", unfollowed := true, recurses := true, apart := false, narrowed := true }
def FnExactIsCompleteUptoSaid : Prop := fnExactIsCompleteUptoRow.holds Try.pinned (OpenSpec.upto fnExactIsCompleteSpec)

/-- 'laws.FnExactAdoptedMotions', WHERE WHAT IT READS IS OF BULK AT MOST 1048576: true; the input reads as it did. -/
def fnExactAdoptedMotionsUptoRow : OpenClaim := { program := "ytflmokdeekjjiaa", sum := "7caa26a4546d39ec00428b5f4528964725c83772c6ee3b8f71f7473ac334a64e", func := "loop.example/g00909/laws.FnExactAdoptedMotions", spec := "fnExactAdoptedMotions", unfollowed := true, recurses := true, apart := false, narrowed := true }
def FnExactAdoptedMotionsUptoSaid : Prop := fnExactAdoptedMotionsUptoRow.holds Try.pinned (OpenSpec.upto fnExactAdoptedMotionsSpec)

/-- 'laws.FnExactEntriesOf', WHERE WHAT IT READS IS OF BULK AT MOST 1048576: true; the input reads as it did. -/
def fnExactEntriesOfUptoRow : OpenClaim := { program := "ytflmokdeekjjiaa", sum := "7caa26a4546d39ec00428b5f4528964725c83772c6ee3b8f71f7473ac334a64e", func := "loop.example/g00909/laws.FnExactEntriesOf", spec := "fnExactEntriesOf", unfollowed := true, recurses := true, apart := false, narrowed := true }
def FnExactEntriesOfUptoSaid : Prop := fnExactEntriesOfUptoRow.holds Try.pinned (OpenSpec.upto fnExactEntriesOfSpec)

/-- 'laws.FnExactOpenMotions', WHERE WHAT IT READS IS OF BULK AT MOST 1048576: true; the input reads as it did. -/
def fnExactOpenMotionsUptoRow : OpenClaim := { program := "ytflmokdeekjjiaa", sum := "7caa26a4546d39ec00428b5f4528964725c83772c6ee3b8f71f7473ac334a64e", func := "loop.example/g00909/laws.FnExactOpenMotions", spec := "fnExactOpenMotions", unfollowed := true, recurses := true, apart := false, narrowed := true }
def FnExactOpenMotionsUptoSaid : Prop := fnExactOpenMotionsUptoRow.holds Try.pinned (OpenSpec.upto fnExactOpenMotionsSpec)

/-- 'laws.FnMinuteMotions', WHERE WHAT IT READS IS OF BULK AT MOST 1048576: true; the input reads as it did. -/
def fnMinuteMotionsUptoRow : OpenClaim := { program := "ytflmokdeekjjiaa", sum := "7caa26a4546d39ec00428b5f4528964725c83772c6ee3b8f71f7473ac334a64e", func := "loop.example/g00909/laws.FnMinuteMotions", spec := "fnMinuteMotions", unfollowed := true, recurses := true, apart := false, narrowed := true }
def FnMinuteMotionsUptoSaid : Prop := fnMinuteMotionsUptoRow.holds Try.pinned (OpenSpec.upto fnMinuteMotionsSpec)

end Rows
end Go.Proofs.Ytflmokdeekjjiaa
