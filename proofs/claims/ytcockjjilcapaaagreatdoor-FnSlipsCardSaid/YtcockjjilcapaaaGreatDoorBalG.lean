/-
  YtcockjjilcapaaaGreatDoorBalG: ballots: StrayCodes, the program's side. (Printed by wip/gen/balg.py.)
-/
import Derived.Test.YtcockjjilcapaaaGreatDoorBalE
namespace Go.Proofs.YtcockjjilcapaaaGreatDoor
open Go Go.RowKit Go.Sort
set_option linter.unusedVariables false

/-- The codes of the box that are not on the roll, in order, each once. -/
def strX (l : List BA) (r : List Int) : List Int := Lib.compact (sortI ((codes l).filter fun x => !r.contains x))
def strL (l : List BA) (r : List Int) : List Int := if pollB l r then strX l r else []
theorem strL_no {l : List BA} {r : List Int} (h : pollB l r = false) : strL l r = [] := by simp [strL, h]
theorem strL_yes {l : List BA} {r : List Int} (h : pollB l r = true) : strL l r = strX l r := by simp [strL, h]
theorem strL_len (l : List BA) (r : List Int) : (strL l r).length ≤ l.length := by
  unfold strL
  split
  · refine Nat.le_trans (Lib.compact_length_le _) ?_
    rw [sortI_len]
    refine Nat.le_trans (List.length_filter_le _ _) ?_
    simp [codes]
  · simp

end Go.Proofs.YtcockjjilcapaaaGreatDoor

