/-
  No cell of these rows narrows 'for every input' (looked for: loops, veiled, ifaces, maps, wideKeys, modest, calm, conditions, laid).
  DERIVED. THE GIVEN ROWS OF THIS SEAT. 3 by the template 'for every input the law returns true; each argument reads behind the call as it read before'; 0 by the template 'total and deterministic' (their statements: YtgjadejckebonaaTotals.lean).
  GIVEN WITH THE SEED: the statements are not yours to turn. If you find one false, say at which input.
  Laid BY PROGRAM, IN A SANDBOX (cutbox-rows.mjs): the forced cells as the released guide's own fill.sh prints them over the translation 52c0ab50aa6d462a… (all of the seat's roots in one cut). By AI agents, Wed Nov 11 2026. No macro, syntax, notation, axiom, sorry.
-/
import Derived.Test.YtgjadejckebonaaChecked
import GoSem.Claim
import GoSem.ClaimJoined
import GoSem.ClaimMapViews
import Derived.JoinedTies
import Derived.KernelRfl
namespace Go.Proofs.Ytgjadejckebonaa
/- THE CELL 'sum', in the pinned program and in every row, IS THE sha256 OF THE DUMP (.gsa) THAT YtgjadejckebonaaProg.lean LOADS. Nothing in Lean hashes anything: it is a label: what it is worth is what the hold of that sum in a sandbox is worth. -/
noncomputable def Try.pinned : Pinned := { name := "ytgjadejckebonaa", sum := "52c0ab50aa6d462a48ae3d2b97766fa9f16a52045a1245d0d3824355d59ab747", checked := Try.checked }
namespace Rows
def none {H : Type} : Left H := { results := [], args := [] }

/-- 'laws.FnExactIsWorkingDay': WHATEVER THE INPUT: true; the input reads as it did. -/
def fnExactIsWorkingDaySpec : ChangeSpec := { name := "fnExactIsWorkingDay", fn := fun _ => fun
  | [d] => { results := [.lit (.bool true)], args := [d] }
  | _ => none }
def fnExactIsWorkingDayRow : OpenClaim := { program := "ytgjadejckebonaa", sum := "52c0ab50aa6d462a48ae3d2b97766fa9f16a52045a1245d0d3824355d59ab747", func := "loop.example/g00909/laws.FnExactIsWorkingDay", spec := "fnExactIsWorkingDay", apart := false }
def FnExactIsWorkingDaySaid : Prop := fnExactIsWorkingDayRow.holds Try.pinned (OpenSpec.ofChange fnExactIsWorkingDaySpec)

/-- ITS FALSE NEIGHBOUR: 'it returns false'. Refute it at one input. -/
def fnExactIsWorkingDayWrong : ChangeSpec := { name := "fnExactIsWorkingDay", fn := fun _ => fun
  | [d] => { results := [.lit (.bool false)], args := [d] }
  | _ => none }
def FnExactIsWorkingDayWrongFalsely : Prop := fnExactIsWorkingDayRow.holds Try.pinned (OpenSpec.ofChange fnExactIsWorkingDayWrong)

/-- 'laws.FnExactLatestGiving': WHATEVER THE INPUT: true; the input reads as it did. -/
def fnExactLatestGivingSpec : ChangeSpec := { name := "fnExactLatestGiving", fn := fun _ => fun
  | [d1, d2] => { results := [.lit (.bool true)], args := [d1, d2] }
  | _ => none }
def fnExactLatestGivingRow : OpenClaim := { program := "ytgjadejckebonaa", sum := "52c0ab50aa6d462a48ae3d2b97766fa9f16a52045a1245d0d3824355d59ab747", func := "loop.example/g00909/laws.FnExactLatestGiving", spec := "fnExactLatestGiving", apart := false }
def FnExactLatestGivingSaid : Prop := fnExactLatestGivingRow.holds Try.pinned (OpenSpec.ofChange fnExactLatestGivingSpec)

/-- ITS FALSE NEIGHBOUR: 'it returns false'. Refute it at one input. -/
def fnExactLatestGivingWrong : ChangeSpec := { name := "fnExactLatestGiving", fn := fun _ => fun
  | [d1, d2] => { results := [.lit (.bool false)], args := [d1, d2] }
  | _ => none }
def FnExactLatestGivingWrongFalsely : Prop := fnExactLatestGivingRow.holds Try.pinned (OpenSpec.ofChange fnExactLatestGivingWrong)

/-- 'laws.FnExactWorkingDaysBetween': WHATEVER THE INPUT: true; the input reads as it did. -/
def fnExactWorkingDaysBetweenSpec : ChangeSpec := { name := "fnExactWorkingDaysBetween", fn := fun _ => fun
  | [d1, d2] => { results := [.lit (.bool true)], args := [d1, d2] }
  | _ => none }
def fnExactWorkingDaysBetweenRow : OpenClaim := { program := "ytgjadejckebonaa", sum := "52c0ab50aa6d462a48ae3d2b97766fa9f16a52045a1245d0d3824355d59ab747", func := "loop.example/g00909/laws.FnExactWorkingDaysBetween", spec := "fnExactWorkingDaysBetween", apart := false }
def FnExactWorkingDaysBetweenSaid : Prop := fnExactWorkingDaysBetweenRow.holds Try.pinned (OpenSpec.ofChange fnExactWorkingDaysBetweenSpec)

/-- ITS FALSE NEIGHBOUR: 'it returns false'. Refute it at one input. -/
def fnExactWorkingDaysBetweenWrong : ChangeSpec := { name := "fnExactWorkingDaysBetween", fn := fun _ => fun
  | [d1, d2] => { results := [.lit (.bool false)], args := [d1, d2] }
  | _ => none }
def FnExactWorkingDaysBetweenWrongFalsely : Prop := fnExactWorkingDaysBetweenRow.holds Try.pinned (OpenSpec.ofChange fnExactWorkingDaysBetweenWrong)

/- THE SECOND FORM. 'bulk': how many values and letters a reading holds, each counted each time it is reached (what is shared counts as often as it is met; a slice's spare places count too). A statement '..UptoSaid' is the law's where the arguments, and the package variables that the reading takes, are together of bulk at most 1048576: NARROWER than '..Said'. Prove '..Said' where nothing that the law and all that it calls make is longer than what came in: it says more and counts as full. Else prove '..UptoSaid'. A law counts once. -/
mutual
def uptoBulk {H : Type} : DataW H → Nat
  | .lit (.string bytes) => bytes.length + 1
  | .lit _ => 1
  | .nil => 1
  | .ptr d => uptoBulk d + 1
  | .slice elems spare => uptoBulkAll elems + uptoBulkAll spare + 1
  | .agg parts => uptoBulkAll parts + 1
  | .iface _ d => uptoBulk d + 1
  | .map entries => uptoBulkEntries entries + 1
  | .held _ => 1
def uptoBulkAll {H : Type} : List (DataW H) → Nat
  | [] => 0
  | d :: r => uptoBulk d + uptoBulkAll r
def uptoBulkEntries {H : Type} : List (Lit × DataW H) → Nat
  | [] => 0
  | x :: r => uptoBulkEntry x + uptoBulkEntries r
def uptoBulkEntry {H : Type} : Lit × DataW H → Nat
  | (.string bytes, d) => bytes.length + uptoBulk d + 1
  | (_, d) => uptoBulk d + 1
 end
def uptoSmall : (H : Type) → List (DataW H) → Bool := fun _ ds => decide (uptoBulkAll ds ≤ 1048576)
def OpenSpec.upto (s : _root_.Go.ChangeSpec) : _root_.Go.OpenSpec := { _root_.Go.OpenSpec.ofChange s with cond := some uptoSmall }

/-- 'laws.FnExactIsWorkingDay', WHERE WHAT IT READS IS OF BULK AT MOST 1048576: true; the input reads as it did. -/
def fnExactIsWorkingDayUptoRow : OpenClaim := { program := "ytgjadejckebonaa", sum := "52c0ab50aa6d462a48ae3d2b97766fa9f16a52045a1245d0d3824355d59ab747", func := "loop.example/g00909/laws.FnExactIsWorkingDay", spec := "fnExactIsWorkingDay", apart := false, narrowed := true }
def FnExactIsWorkingDayUptoSaid : Prop := fnExactIsWorkingDayUptoRow.holds Try.pinned (OpenSpec.upto fnExactIsWorkingDaySpec)

/-- 'laws.FnExactLatestGiving', WHERE WHAT IT READS IS OF BULK AT MOST 1048576: true; the input reads as it did. -/
def fnExactLatestGivingUptoRow : OpenClaim := { program := "ytgjadejckebonaa", sum := "52c0ab50aa6d462a48ae3d2b97766fa9f16a52045a1245d0d3824355d59ab747", func := "loop.example/g00909/laws.FnExactLatestGiving", spec := "fnExactLatestGiving", apart := false, narrowed := true }
def FnExactLatestGivingUptoSaid : Prop := fnExactLatestGivingUptoRow.holds Try.pinned (OpenSpec.upto fnExactLatestGivingSpec)

/-- 'laws.FnExactWorkingDaysBetween', WHERE WHAT IT READS IS OF BULK AT MOST 1048576: true; the input reads as it did. -/
def fnExactWorkingDaysBetweenUptoRow : OpenClaim := { program := "ytgjadejckebonaa", sum := "52c0ab50aa6d462a48ae3d2b97766fa9f16a52045a1245d0d3824355d59ab747", func := "loop.example/g00909/laws.FnExactWorkingDaysBetween", spec := "fnExactWorkingDaysBetween", apart := false, narrowed := true }
def FnExactWorkingDaysBetweenUptoSaid : Prop := fnExactWorkingDaysBetweenUptoRow.holds Try.pinned (OpenSpec.upto fnExactWorkingDaysBetweenSpec)

end Rows
end Go.Proofs.Ytgjadejckebonaa
