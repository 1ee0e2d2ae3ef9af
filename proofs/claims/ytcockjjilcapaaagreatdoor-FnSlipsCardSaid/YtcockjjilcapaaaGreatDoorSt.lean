/-
  YtcockjjilcapaaaGreatDoorSt: lists of texts, where the law's own helpers do not bring them.
-/
import Derived.Test.YtcockjjilcapaaaGreatDoorHelp
import Derived.Lib.Join
namespace Go.Proofs.YtcockjjilcapaaaGreatDoor
open Go Go.RowKit Go.Sort
set_option linter.unusedVariables false

theorem one_st : ∀ x : ByteArray, ∀ u ∈ stV x, u.oneCell' = true := by intro x u h; simp [stV] at h; subst h; rfl
theorem Tryz.infoSt : (Tryz.prog.info? 9).map (fun i => (i.zero, i.size, i.bytes)) = some (some (.string ByteArray.empty), 1, 16) := by kernel_rfl

/-! ### words joined by spaces -/
def sp : ByteArray := ⟨#[32]⟩
def joinS (l : List ByteArray) (sep : ByteArray) : ByteArray := ⟨(Lib.join (l.map (·.data.toList)) sep.data.toList).toArray⟩
theorem joinS_nil (sep : ByteArray) : joinS [] sep = ByteArray.empty := rfl
theorem joinS_one (x sep : ByteArray) : joinS [x] sep = x := by
  unfold joinS
  rw [List.map_cons, List.map_nil, Lib.join_one]
theorem joinS_snoc (l : List ByteArray) (x sep : ByteArray) (h : l ≠ []) : joinS (l ++ [x]) sep = joinS l sep ++ sep ++ x := by
  obtain ⟨y, r, rfl⟩ := List.exists_cons_of_ne_nil h
  unfold joinS
  apply ByteArray.ext
  rw [List.cons_append, List.map_cons, List.map_cons, List.map_append, Lib.join_cons, Lib.join_cons]
  simp [Lib.joinTail]

end Go.Proofs.YtcockjjilcapaaaGreatDoor
