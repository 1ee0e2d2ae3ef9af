/-
  YtndoapgalbljpaaColl: what a loop collects: some of a list's elements, each turned to a value. No program in sight.
-/
import Derived.Test.YtndoapgalbljpaaCommon
namespace Go.Proofs.Ytndoapgalbljpaa
open Go Go.RowKit Go.Sort

/-- What is collected of the first k elements. -/
def fm {α β : Type} (f : Nat → α → Option β) (l : List α) (k : Nat) : List β := (List.range k).filterMap (fun i => l[i]?.bind (f i))
section
variable {α β : Type} {f : Nat → α → Option β} {l : List α} {k : Nat} {x : α}
theorem fm_zero : fm f l 0 = [] := rfl
theorem fm_yes {y : β} (hx : l[k]? = some x) (h : f k x = some y) : fm f l (k + 1) = fm f l k ++ [y] := by
  unfold fm; rw [List.range_succ, List.filterMap_append]; simp [hx, h]
theorem fm_no (hx : l[k]? = some x) (h : f k x = none) : fm f l (k + 1) = fm f l k := by
  unfold fm; rw [List.range_succ, List.filterMap_append]; simp [hx, h]
theorem fm_len (f : Nat → α → Option β) (l : List α) (k : Nat) : (fm f l k).length ≤ k := by
  unfold fm
  exact Nat.le_trans (List.length_filterMap_le _ _) (by simp)
theorem fm_mem {y : β} (h : y ∈ fm f l k) : ∃ i x, i < k ∧ l[i]? = some x ∧ f i x = some y := by
  unfold fm at h
  obtain ⟨i, hi, h⟩ := List.mem_filterMap.1 h
  cases hx : l[i]? with
  | none => rw [hx] at h; cases h
  | some x => rw [hx] at h; exact ⟨i, x, List.mem_range.1 hi, hx, h⟩
end
theorem ret_sl_bool {A : Option Addr} {n c : Nat} {b d : Bool} (h : b = d) : Ending.returned (.tuple #[.slice A n c, .bool b]) = .returned (.tuple #[.slice A n c, .bool d]) := by rw [h]
theorem one_str (x : ByteArray) : ∀ u ∈ [Value.string x], u.oneCell' = true := by intro u h; simp at h; subst h; rfl
theorem one_int (x : Int) : ∀ u ∈ [Value.int .i64 x], u.oneCell' = true := by intro u h; simp at h; subst h; rfl

end Go.Proofs.Ytndoapgalbljpaa
