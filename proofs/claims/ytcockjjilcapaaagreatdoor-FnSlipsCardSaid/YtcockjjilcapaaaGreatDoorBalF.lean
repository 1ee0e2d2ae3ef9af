/-
  YtcockjjilcapaaaGreatDoorBalF: ballots: BlankBallots, both sides. (Printed by wip/gen/balf.py.)
-/
import Derived.Test.YtcockjjilcapaaaGreatDoorBalE
namespace Go.Proofs.YtcockjjilcapaaaGreatDoor
open Go Go.RowKit Go.Sort
set_option linter.unusedVariables false

def emp (s : ByteArray) : Bool := s.toList.isEmpty
def empTo (ls : List ByteArray) (k : Nat) : Nat := ((ls.take k).filter emp).length
theorem empTo_yes {ls : List ByteArray} {k : Nat} {s : ByteArray} (hs : ls[k]? = some s) (h : emp s = true) : empTo ls (k + 1) = empTo ls k + 1 := by
  unfold empTo; rw [List.take_add_one, hs, List.filter_append]; simp [h]
theorem empTo_no {ls : List ByteArray} {k : Nat} {s : ByteArray} (hs : ls[k]? = some s) (h : emp s = false) : empTo ls (k + 1) = empTo ls k := by
  unfold empTo; rw [List.take_add_one, hs, List.filter_append]; simp [h]
theorem empTo_le (ls : List ByteArray) (k : Nat) : empTo ls k ≤ k := Nat.le_trans (List.length_filter_le _ _) (List.length_take_le _ _)
theorem empTo_all {ls : List ByteArray} {k : Nat} (h : ls.length = k) : empTo ls k = (ls.filter emp).length := by
  unfold empTo; rw [List.take_of_length_le (by omega)]
theorem emp_sort (ls : List ByteArray) : ((sortS ls).filter emp).length = (ls.filter emp).length := ((sortS_perm ls).filter emp).length_eq
def blaN (l : List BA) (r : List Int) : Int := if pollB l r then (((chL l r).filter emp).length : Nat) else 0
theorem blaN_no {l : List BA} {r : List Int} (h : pollB l r = false) : blaN l r = 0 := by simp [blaN, h]
theorem blaN_yes {l : List BA} {r : List Int} (h : pollB l r = true) : blaN l r = (((chL l r).filter emp).length : Nat) := by simp [blaN, h]
theorem chL_len (l : List BA) (r : List Int) : (chL l r).length ≤ l.length := by unfold chL; rw [List.length_map]; exact goodX_len l r

end Go.Proofs.YtcockjjilcapaaaGreatDoor

