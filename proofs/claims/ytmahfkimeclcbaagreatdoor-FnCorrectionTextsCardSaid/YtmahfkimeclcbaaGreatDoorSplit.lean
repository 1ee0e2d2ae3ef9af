/-
  YtmahfkimeclcbaaGreatDoorSplit: strings.Split at a cut of one byte, as an owned list; by the shelf's contract.
-/
import Derived.Test.YtmahfkimeclcbaaGreatDoorCut
import Derived.Test.YtmahfkimeclcbaaGreatDoorSt
import Derived.Test.YtmahfkimeclcbaaGreatDoorShelf
namespace Go.Proofs.YtmahfkimeclcbaaGreatDoor
open Go Go.RowKit Go.Sort
set_option linter.unusedVariables false

theorem flat_st (l : List ByteArray) : l.flatMap stV = l.map Value.string := by
  induction l with
  | nil => rfl
  | cons x r ih => rw [List.flatMap_cons, ih]; rfl
/-- A new block of texts is an owned list. -/
theorem own_texts (w : World) (l : List ByteArray) (h : l.length ≤ maxLen) : Own stV 1 (w.alloc (.cells (l.map Value.string).toArray 9)) w.heap.size 9 (some ⟨w.heap.size, 0, none⟩) l.length l.length l :=
  ⟨rfl, by rw [flat_len stV_len], .inr ⟨_, _, _, rfl, Nat.le_refl _, heap_new rfl, Nat.le_refl _, h, by simp, by rw [flat_st]; simp; exact List.take_of_length_le (by simp)⟩⟩
theorem Split_any (s : ByteArray) (b : UInt8) (mx : Int) (w : World) (hs : s.size ≤ 4194304) (hM : w.cell? ⟨0, 0, none⟩ = some (.int .i64 mx)) :
    Calls Tryz.prog 24 #[.string s, .string ⟨#[b]⟩] w fun e w' => (∃ B q d, e = .returned (.slice B q d) ∧ Own stV 1 w' w.heap.size 9 B q d (cutS s b)) ∧ Below w.heap.size w w' := by
  refine (Tryz.strings_Split s ⟨#[b]⟩ mx w (by omega) hM (Nat.le_refl _)).mono ?_
  rintro e w' ⟨rfl, rfl⟩
  have hl : (cutS s b).length = Lib.countB s ⟨#[b]⟩ + 1 := by rw [← splitB_cut b _ s rfl]; exact Lib.splitB_all _ (Nat.le_refl _) 0 _ s rfl
  rw [splitB_cut b _ s rfl, ← hl]
  exact ⟨⟨_, _, _, rfl, own_texts w _ (by have := cutS_len s b; unfold maxLen; omega)⟩, below_alloc _⟩

end Go.Proofs.YtmahfkimeclcbaaGreatDoor
