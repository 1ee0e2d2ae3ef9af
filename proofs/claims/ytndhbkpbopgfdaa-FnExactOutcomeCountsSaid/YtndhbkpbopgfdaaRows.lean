/-
  No cell of these rows narrows 'for every input' (looked for: loops, veiled, ifaces, maps, wideKeys, modest, calm, conditions, laid).
  DERIVED. THE GIVEN ROWS OF THIS SEAT. 9 by the template 'for every input the law returns true; each argument reads behind the call as it read before'; 0 by the template 'total and deterministic' (their statements: YtndhbkpbopgfdaaTotals.lean).
  GIVEN WITH THE SEED: the statements are not yours to turn. If you find one false, say at which input.
  Laid BY PROGRAM, IN A SANDBOX (cutbox-rows.mjs): the forced cells as the released guide's own fill.sh prints them over the translation 334213cfa2f7ee80… (all of the seat's roots in one cut). By AI agents, Wed Nov 11 2026. No macro, syntax, notation, axiom, sorry.
-/
import Derived.Test.YtndhbkpbopgfdaaChecked
import GoSem.Claim
import GoSem.ClaimJoined
import GoSem.ClaimMapViews
import Derived.JoinedTies
import Derived.KernelRfl
namespace Go.Proofs.Ytndhbkpbopgfdaa
/- THE CELL 'sum', in the pinned program and in every row, IS THE sha256 OF THE DUMP (.gsa) THAT YtndhbkpbopgfdaaProg.lean LOADS. Nothing in Lean hashes anything: it is a label: what it is worth is what the hold of that sum in a sandbox is worth. -/
noncomputable def Try.pinned : Pinned := { name := "ytndhbkpbopgfdaa", sum := "334213cfa2f7ee80e8e3f0f56a8131e6976062db6a522f8d5662681919bc7471", checked := Try.checked }
namespace Rows
def none {H : Type} : Left H := { results := [], args := [] }

/-- 'laws.FnExactIsTraceList': WHATEVER THE INPUT: true; the input reads as it did. -/
def fnExactIsTraceListSpec : ChangeSpec := { name := "fnExactIsTraceList", fn := fun _ => fun
  | [d] => { results := [.lit (.bool true)], args := [d] }
  | _ => none }
def fnExactIsTraceListRow : OpenClaim := { program := "ytndhbkpbopgfdaa", sum := "334213cfa2f7ee80e8e3f0f56a8131e6976062db6a522f8d5662681919bc7471", func := "loop.example/g00909/laws.FnExactIsTraceList", spec := "fnExactIsTraceList", unfollowed := true, recurses := true, apart := false }
def FnExactIsTraceListSaid : Prop := fnExactIsTraceListRow.holds Try.pinned (OpenSpec.ofChange fnExactIsTraceListSpec)

/-- ITS FALSE NEIGHBOUR: 'it returns false'. Refute it at one input. -/
def fnExactIsTraceListWrong : ChangeSpec := { name := "fnExactIsTraceList", fn := fun _ => fun
  | [d] => { results := [.lit (.bool false)], args := [d] }
  | _ => none }
def FnExactIsTraceListWrongFalsely : Prop := fnExactIsTraceListRow.holds Try.pinned (OpenSpec.ofChange fnExactIsTraceListWrong)

/-- 'laws.FnExactPathOf': WHATEVER THE INPUT: true; the input reads as it did. -/
def fnExactPathOfSpec : ChangeSpec := { name := "fnExactPathOf", fn := fun _ => fun
  | [d1, d2] => { results := [.lit (.bool true)], args := [d1, d2] }
  | _ => none }
def fnExactPathOfRow : OpenClaim := { program := "ytndhbkpbopgfdaa", sum := "334213cfa2f7ee80e8e3f0f56a8131e6976062db6a522f8d5662681919bc7471", func := "loop.example/g00909/laws.FnExactPathOf", spec := "fnExactPathOf", unfollowed := true, recurses := true, apart := false }
def FnExactPathOfSaid : Prop := fnExactPathOfRow.holds Try.pinned (OpenSpec.ofChange fnExactPathOfSpec)

/-- ITS FALSE NEIGHBOUR: 'it returns false'. Refute it at one input. -/
def fnExactPathOfWrong : ChangeSpec := { name := "fnExactPathOf", fn := fun _ => fun
  | [d1, d2] => { results := [.lit (.bool false)], args := [d1, d2] }
  | _ => none }
def FnExactPathOfWrongFalsely : Prop := fnExactPathOfRow.holds Try.pinned (OpenSpec.ofChange fnExactPathOfWrong)

/-- 'laws.FnExactIsOrderly': WHATEVER THE INPUT: true; the input reads as it did. -/
def fnExactIsOrderlySpec : ChangeSpec := { name := "fnExactIsOrderly", fn := fun _ => fun
  | [d] => { results := [.lit (.bool true)], args := [d] }
  | _ => none }
def fnExactIsOrderlyRow : OpenClaim := { program := "ytndhbkpbopgfdaa", sum := "334213cfa2f7ee80e8e3f0f56a8131e6976062db6a522f8d5662681919bc7471", func := "loop.example/g00909/laws.FnExactIsOrderly", spec := "fnExactIsOrderly", unfollowed := true, recurses := true, apart := false }
def FnExactIsOrderlySaid : Prop := fnExactIsOrderlyRow.holds Try.pinned (OpenSpec.ofChange fnExactIsOrderlySpec)

/-- ITS FALSE NEIGHBOUR: 'it returns false'. Refute it at one input. -/
def fnExactIsOrderlyWrong : ChangeSpec := { name := "fnExactIsOrderly", fn := fun _ => fun
  | [d] => { results := [.lit (.bool false)], args := [d] }
  | _ => none }
def FnExactIsOrderlyWrongFalsely : Prop := fnExactIsOrderlyRow.holds Try.pinned (OpenSpec.ofChange fnExactIsOrderlyWrong)

/-- 'laws.FnExactFirstDisorder': WHATEVER THE INPUT: true; the input reads as it did. -/
def fnExactFirstDisorderSpec : ChangeSpec := { name := "fnExactFirstDisorder", fn := fun _ => fun
  | [d] => { results := [.lit (.bool true)], args := [d] }
  | _ => none }
def fnExactFirstDisorderRow : OpenClaim := { program := "ytndhbkpbopgfdaa", sum := "334213cfa2f7ee80e8e3f0f56a8131e6976062db6a522f8d5662681919bc7471", func := "loop.example/g00909/laws.FnExactFirstDisorder", spec := "fnExactFirstDisorder", unfollowed := true, recurses := true, apart := false }
def FnExactFirstDisorderSaid : Prop := fnExactFirstDisorderRow.holds Try.pinned (OpenSpec.ofChange fnExactFirstDisorderSpec)

/-- ITS FALSE NEIGHBOUR: 'it returns false'. Refute it at one input. -/
def fnExactFirstDisorderWrong : ChangeSpec := { name := "fnExactFirstDisorder", fn := fun _ => fun
  | [d] => { results := [.lit (.bool false)], args := [d] }
  | _ => none }
def FnExactFirstDisorderWrongFalsely : Prop := fnExactFirstDisorderRow.holds Try.pinned (OpenSpec.ofChange fnExactFirstDisorderWrong)

/-- 'laws.FnExactAddStep': WHATEVER THE INPUT: true; the input reads as it did. -/
def fnExactAddStepSpec : ChangeSpec := { name := "fnExactAddStep", fn := fun _ => fun
  | [d1, d2] => { results := [.lit (.bool true)], args := [d1, d2] }
  | _ => none }
def fnExactAddStepRow : OpenClaim := { program := "ytndhbkpbopgfdaa", sum := "334213cfa2f7ee80e8e3f0f56a8131e6976062db6a522f8d5662681919bc7471", func := "loop.example/g00909/laws.FnExactAddStep", spec := "fnExactAddStep", unfollowed := true, recurses := true, apart := false }
def FnExactAddStepSaid : Prop := fnExactAddStepRow.holds Try.pinned (OpenSpec.ofChange fnExactAddStepSpec)

/-- ITS FALSE NEIGHBOUR: 'it returns false'. Refute it at one input. -/
def fnExactAddStepWrong : ChangeSpec := { name := "fnExactAddStep", fn := fun _ => fun
  | [d1, d2] => { results := [.lit (.bool false)], args := [d1, d2] }
  | _ => none }
def FnExactAddStepWrongFalsely : Prop := fnExactAddStepRow.holds Try.pinned (OpenSpec.ofChange fnExactAddStepWrong)

/-- 'laws.FnExactOpenAfter': WHATEVER THE INPUT: true; the input reads as it did. -/
def fnExactOpenAfterSpec : ChangeSpec := { name := "fnExactOpenAfter", fn := fun _ => fun
  | [d] => { results := [.lit (.bool true)], args := [d] }
  | _ => none }
def fnExactOpenAfterRow : OpenClaim := { program := "ytndhbkpbopgfdaa", sum := "334213cfa2f7ee80e8e3f0f56a8131e6976062db6a522f8d5662681919bc7471", func := "loop.example/g00909/laws.FnExactOpenAfter", spec := "fnExactOpenAfter", unfollowed := true, recurses := true, apart := false }
def FnExactOpenAfterSaid : Prop := fnExactOpenAfterRow.holds Try.pinned (OpenSpec.ofChange fnExactOpenAfterSpec)

/-- ITS FALSE NEIGHBOUR: 'it returns false'. Refute it at one input. -/
def fnExactOpenAfterWrong : ChangeSpec := { name := "fnExactOpenAfter", fn := fun _ => fun
  | [d] => { results := [.lit (.bool false)], args := [d] }
  | _ => none }
def FnExactOpenAfterWrongFalsely : Prop := fnExactOpenAfterRow.holds Try.pinned (OpenSpec.ofChange fnExactOpenAfterWrong)

/-- 'laws.FnExactOutcomeCounts': WHATEVER THE INPUT: true; the input reads as it did. -/
def fnExactOutcomeCountsSpec : ChangeSpec := { name := "fnExactOutcomeCounts", fn := fun _ => fun
  | [d] => { results := [.lit (.bool true)], args := [d] }
  | _ => none }
def fnExactOutcomeCountsRow : OpenClaim := { program := "ytndhbkpbopgfdaa", sum := "334213cfa2f7ee80e8e3f0f56a8131e6976062db6a522f8d5662681919bc7471", func := "loop.example/g00909/laws.FnExactOutcomeCounts", spec := "fnExactOutcomeCounts", unfollowed := true, recurses := true, apart := false }
def FnExactOutcomeCountsSaid : Prop := fnExactOutcomeCountsRow.holds Try.pinned (OpenSpec.ofChange fnExactOutcomeCountsSpec)

/-- ITS FALSE NEIGHBOUR: 'it returns false'. Refute it at one input. -/
def fnExactOutcomeCountsWrong : ChangeSpec := { name := "fnExactOutcomeCounts", fn := fun _ => fun
  | [d] => { results := [.lit (.bool false)], args := [d] }
  | _ => none }
def FnExactOutcomeCountsWrongFalsely : Prop := fnExactOutcomeCountsRow.holds Try.pinned (OpenSpec.ofChange fnExactOutcomeCountsWrong)

/-- 'laws.FnExactMovedTogether': WHATEVER THE INPUT: true; the input reads as it did. -/
def fnExactMovedTogetherSpec : ChangeSpec := { name := "fnExactMovedTogether", fn := fun _ => fun
  | [d] => { results := [.lit (.bool true)], args := [d] }
  | _ => none }
def fnExactMovedTogetherRow : OpenClaim := { program := "ytndhbkpbopgfdaa", sum := "334213cfa2f7ee80e8e3f0f56a8131e6976062db6a522f8d5662681919bc7471", func := "loop.example/g00909/laws.FnExactMovedTogether", spec := "fnExactMovedTogether", unfollowed := true, recurses := true, apart := false }
def FnExactMovedTogetherSaid : Prop := fnExactMovedTogetherRow.holds Try.pinned (OpenSpec.ofChange fnExactMovedTogetherSpec)

/-- ITS FALSE NEIGHBOUR: 'it returns false'. Refute it at one input. -/
def fnExactMovedTogetherWrong : ChangeSpec := { name := "fnExactMovedTogether", fn := fun _ => fun
  | [d] => { results := [.lit (.bool false)], args := [d] }
  | _ => none }
def FnExactMovedTogetherWrongFalsely : Prop := fnExactMovedTogetherRow.holds Try.pinned (OpenSpec.ofChange fnExactMovedTogetherWrong)

/-- 'laws.FnOutcomes': WHATEVER THE INPUT: true; the input reads as it did. -/
def fnOutcomesSpec : ChangeSpec := { name := "fnOutcomes", fn := fun _ => fun
  | [d] => { results := [.lit (.bool true)], args := [d] }
  | _ => none }
def fnOutcomesRow : OpenClaim := { program := "ytndhbkpbopgfdaa", sum := "334213cfa2f7ee80e8e3f0f56a8131e6976062db6a522f8d5662681919bc7471", func := "loop.example/g00909/laws.FnOutcomes", spec := "fnOutcomes", unfollowed := true, recurses := true, apart := false }
def FnOutcomesSaid : Prop := fnOutcomesRow.holds Try.pinned (OpenSpec.ofChange fnOutcomesSpec)

/-- ITS FALSE NEIGHBOUR: 'it returns false'. Refute it at one input. -/
def fnOutcomesWrong : ChangeSpec := { name := "fnOutcomes", fn := fun _ => fun
  | [d] => { results := [.lit (.bool false)], args := [d] }
  | _ => none }
def FnOutcomesWrongFalsely : Prop := fnOutcomesRow.holds Try.pinned (OpenSpec.ofChange fnOutcomesWrong)

/- THE SECOND FORM. 'bulk': how many values and letters a reading holds, each counted each time it is reached (what is shared counts as often as it is met; a slice's spare places count too). A statement '..UptoSaid' is the law's where the arguments, and the package variables that the reading takes, are together of bulk at most 1048576: NARROWER than '..Said'. Prove '..Said' where nothing that the law and all that it calls make is longer than what came in: it says more and counts as full. Else prove '..UptoSaid'. A law counts once. -/
mutual
def uptoBulk {H : Type} : DataW H → Nat
  | .lit (.string bytes) => bytes.length + 1
  | .lit _ => 1
  | .nil => 1
  | .ptr d => uptoBulk d + 1
  | .slice elems spare => uptoBulkAll elems + uptoBulkAll spare + 1
  | .agg parts => uptoBulkAll parts + 1
  | .iface _ d => uptoBulk d + 1
  | .map entries => uptoBulkEntries entries + 1
  | .held _ => 1
def uptoBulkAll {H : Type} : List (DataW H) → Nat
  | [] => 0
  | d :: r => uptoBulk d + uptoBulkAll r
def uptoBulkEntries {H : Type} : List (Lit × DataW H) → Nat
  | [] => 0
  | x :: r => uptoBulkEntry x + uptoBulkEntries r
def uptoBulkEntry {H : Type} : Lit × DataW H → Nat
  | (.string bytes, d) => bytes.length + uptoBulk d + 1
  | (_, d) => uptoBulk d + 1
 end
def uptoSmall : (H : Type) → List (DataW H) → Bool := fun _ ds => decide (uptoBulkAll ds ≤ 1048576)
def OpenSpec.upto (s : _root_.Go.ChangeSpec) : _root_.Go.OpenSpec := { _root_.Go.OpenSpec.ofChange s with cond := some uptoSmall }

/-- 'laws.FnExactIsTraceList', WHERE WHAT IT READS IS OF BULK AT MOST 1048576: true; the input reads as it did. -/
def fnExactIsTraceListUptoRow : OpenClaim := { program := "ytndhbkpbopgfdaa", sum := "334213cfa2f7ee80e8e3f0f56a8131e6976062db6a522f8d5662681919bc7471", func := "loop.example/g00909/laws.FnExactIsTraceList", spec := "fnExactIsTraceList", unfollowed := true, recurses := true, apart := false, narrowed := true }
def FnExactIsTraceListUptoSaid : Prop := fnExactIsTraceListUptoRow.holds Try.pinned (OpenSpec.upto fnExactIsTraceListSpec)

/-- 'laws.FnExactPathOf', WHERE WHAT IT READS IS OF BULK AT MOST 1048576: true; the input reads as it did. -/
def fnExactPathOfUptoRow : OpenClaim := { program := "ytndhbkpbopgfdaa", sum := "334213cfa2f7ee80e8e3f0f56a8131e6976062db6a522f8d5662681919bc7471", func := "loop.example/g00909/laws.FnExactPathOf", spec := "fnExactPathOf", unfollowed := true, recurses := true, apart := false, narrowed := true }
def FnExactPathOfUptoSaid : Prop := fnExactPathOfUptoRow.holds Try.pinned (OpenSpec.upto fnExactPathOfSpec)

/-- 'laws.FnExactIsOrderly', WHERE WHAT IT READS IS OF BULK AT MOST 1048576: true; the input reads as it did. -/
def fnExactIsOrderlyUptoRow : OpenClaim := { program := "ytndhbkpbopgfdaa", sum := "334213cfa2f7ee80e8e3f0f56a8131e6976062db6a522f8d5662681919bc7471", func := "loop.example/g00909/laws.FnExactIsOrderly", spec := "fnExactIsOrderly", unfollowed := true, recurses := true, apart := false, narrowed := true }
def FnExactIsOrderlyUptoSaid : Prop := fnExactIsOrderlyUptoRow.holds Try.pinned (OpenSpec.upto fnExactIsOrderlySpec)

/-- 'laws.FnExactFirstDisorder', WHERE WHAT IT READS IS OF BULK AT MOST 1048576: true; the input reads as it did. -/
def fnExactFirstDisorderUptoRow : OpenClaim := { program := "ytndhbkpbopgfdaa", sum := "334213cfa2f7ee80e8e3f0f56a8131e6976062db6a522f8d5662681919bc7471", func := "loop.example/g00909/laws.FnExactFirstDisorder", spec := "fnExactFirstDisorder", unfollowed := true, recurses := true, apart := false, narrowed := true }
def FnExactFirstDisorderUptoSaid : Prop := fnExactFirstDisorderUptoRow.holds Try.pinned (OpenSpec.upto fnExactFirstDisorderSpec)

/-- 'laws.FnExactAddStep', WHERE WHAT IT READS IS OF BULK AT MOST 1048576: true; the input reads as it did. -/
def fnExactAddStepUptoRow : OpenClaim := { program := "ytndhbkpbopgfdaa", sum := "334213cfa2f7ee80e8e3f0f56a8131e6976062db6a522f8d5662681919bc7471", func := "loop.example/g00909/laws.FnExactAddStep", spec := "fnExactAddStep", unfollowed := true, recurses := true, apart := false, narrowed := true }
def FnExactAddStepUptoSaid : Prop := fnExactAddStepUptoRow.holds Try.pinned (OpenSpec.upto fnExactAddStepSpec)

/-- 'laws.FnExactOpenAfter', WHERE WHAT IT READS IS OF BULK AT MOST 1048576: true; the input reads as it did. -/
def fnExactOpenAfterUptoRow : OpenClaim := { program := "ytndhbkpbopgfdaa", sum := "334213cfa2f7ee80e8e3f0f56a8131e6976062db6a522f8d5662681919bc7471", func := "loop.example/g00909/laws.FnExactOpenAfter", spec := "fnExactOpenAfter", unfollowed := true, recurses := true, apart := false, narrowed := true }
def FnExactOpenAfterUptoSaid : Prop := fnExactOpenAfterUptoRow.holds Try.pinned (OpenSpec.upto fnExactOpenAfterSpec)

/-- 'laws.FnExactOutcomeCounts', WHERE WHAT IT READS IS OF BULK AT MOST 1048576: true; the input reads as it did. -/
def fnExactOutcomeCountsUptoRow : OpenClaim := { program := "ytndhbkpbopgfdaa", sum := "334213cfa2f7ee80e8e3f0f56a8131e6976062db6a522f8d5662681919bc7471", func := "loop.example/g00909/laws.FnExactOutcomeCounts", spec := "fnExactOutcomeCounts", unfollowed := true, recurses := true, apart := false, narrowed := true }
def FnExactOutcomeCountsUptoSaid : Prop := fnExactOutcomeCountsUptoRow.holds Try.pinned (OpenSpec.upto fnExactOutcomeCountsSpec)

/-- 'laws.FnExactMovedTogether', WHERE WHAT IT READS IS OF BULK AT MOST 1048576: true; the input reads as it did. -/
def fnExactMovedTogetherUptoRow : OpenClaim := { program := "ytndhbkpbopgfdaa", sum := "334213cfa2f7ee80e8e3f0f56a8131e6976062db6a522f8d5662681919bc7471", func := "loop.example/g00909/laws.FnExactMovedTogether", spec := "fnExactMovedTogether", unfollowed := true, recurses := true, apart := false, narrowed := true }
def FnExactMovedTogetherUptoSaid : Prop := fnExactMovedTogetherUptoRow.holds Try.pinned (OpenSpec.upto fnExactMovedTogetherSpec)

/-- 'laws.FnOutcomes', WHERE WHAT IT READS IS OF BULK AT MOST 1048576: true; the input reads as it did. -/
def fnOutcomesUptoRow : OpenClaim := { program := "ytndhbkpbopgfdaa", sum := "334213cfa2f7ee80e8e3f0f56a8131e6976062db6a522f8d5662681919bc7471", func := "loop.example/g00909/laws.FnOutcomes", spec := "fnOutcomes", unfollowed := true, recurses := true, apart := false, narrowed := true }
def FnOutcomesUptoSaid : Prop := fnOutcomesUptoRow.holds Try.pinned (OpenSpec.upto fnOutcomesSpec)

end Rows
end Go.Proofs.Ytndhbkpbopgfdaa
