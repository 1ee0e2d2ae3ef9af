/-
  YtcockjjilcapaaaGreatDoorBalD: ballots: UnusedCodes, both sides. (Printed by wip/gen/bald.py.)
-/
import Derived.Test.YtcockjjilcapaaaGreatDoorBalC
namespace Go.Proofs.YtcockjjilcapaaaGreatDoor
open Go Go.RowKit Go.Sort
set_option linter.unusedVariables false

/-- The codes of the roll that no ballot has. -/
def unuX (l : List BA) (r : List Int) : List Int := r.filter (fun x => !(codes l).contains x)
def unuL (l : List BA) (r : List Int) : List Int := if pollB l r then unuX l r else []
theorem unuL_no {l : List BA} {r : List Int} (h : pollB l r = false) : unuL l r = [] := by simp [unuL, h]
theorem unuL_yes {l : List BA} {r : List Int} (h : pollB l r = true) : unuL l r = unuX l r := by simp [unuL, h]
theorem unuL_len (l : List BA) (r : List Int) : (unuL l r).length ≤ r.length := by unfold unuL; split; exact List.length_filter_le _ _; simp
def usedTo (l : List BA) (x : Int) (k : Nat) : Bool := (l.take k).any (fun y => y.code == x)
theorem used_next {l : List BA} {x : Int} {k : Nat} {y : BA} (hy : l[k]? = some y) : usedTo l x (k + 1) = (usedTo l x k || (y.code == x)) := by
  unfold usedTo; rw [List.take_add_one, hy, List.any_append]; simp
theorem used_all {l : List BA} {x : Int} {n : Nat} (hl : l.length = n) : usedTo l x n = (codes l).contains x := by
  unfold usedTo codes
  rw [List.take_of_length_le (by omega), Bool.eq_iff_iff, List.any_eq_true, List.contains_iff_mem, List.mem_map]
  constructor
  · rintro ⟨y, hy, h⟩; exact ⟨y, hy, by simpa using h⟩
  · rintro ⟨y, hy, h⟩; exact ⟨y, hy, by simpa using h⟩
theorem unu_yes {l : List BA} {r : List Int} {k : Nat} {x : Int} (hx : r[k]? = some x) (h : (codes l).contains x = false) : unuX l (r.take (k + 1)) = unuX l (r.take k) ++ [x] := by
  unfold unuX; rw [List.take_add_one, hx, List.filter_append]; simp only [Option.toList, List.filter_cons, h]; simp
theorem unu_no {l : List BA} {r : List Int} {k : Nat} {x : Int} (hx : r[k]? = some x) (h : (codes l).contains x = true) : unuX l (r.take (k + 1)) = unuX l (r.take k) := by
  unfold unuX; rw [List.take_add_one, hx, List.filter_append]; simp only [Option.toList, List.filter_cons, h]; simp

end Go.Proofs.YtcockjjilcapaaaGreatDoor
