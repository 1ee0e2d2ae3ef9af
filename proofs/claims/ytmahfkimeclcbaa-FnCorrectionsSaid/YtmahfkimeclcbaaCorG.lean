/-
  YtmahfkimeclcbaaCorG: corrections: both DoCommute.
-/
import Derived.Test.YtmahfkimeclcbaaCorF
import Derived.BigQuiet
namespace Go.Proofs.Ytmahfkimeclcbaa
open Go Go.RowKit Go.Sort
set_option linter.unusedVariables false

/-- Two sheets are the same, line by line. -/
def sameB (l r : List ByteArray) : Bool := decide (l = r)
/-- Both orders fit. -/
def comG (l : List ByteArray) (x y : CO) : Bool := allG l [x, y] && allG l [y, x]
def comB (l : List ByteArray) (x y : CO) : Bool := comG l x y && sameB (allL l [x, y]) (allL l [y, x])
theorem comB_no {l : List ByteArray} {x y : CO} (h : comG l x y = false) : comB l x y = false := by simp [comB, h]
theorem comB_yes {l : List ByteArray} {x y : CO} (h : comG l x y = true) : comB l x y = sameB (allL l [x, y]) (allL l [y, x]) := by simp [comB, h]
theorem toList_inj {s t : ByteArray} (h : (s.toList == t.toList) = true) : s = t := by
  have := eq_of_beq h
  rw [Lib.toList_data, Lib.toList_data] at this
  cases s; cases t; congr; exact Array.toList_inj.1 this
theorem co_flat (x y : CO) : [x, y].flatMap coV = [.int .i64 x.line, .string x.old, .string x.new, .int .i64 y.line, .string y.old, .string y.new] := rfl
/-- A literal of two corrections reads as their list. -/
theorem rd_two (w : World) (x y : CO) : Rd coV 3 (w.alloc (.cells #[.int .i64 x.line, .string x.old, .string x.new, .int .i64 y.line, .string y.old, .string y.new] 26)) (some ⟨w.heap.size, 0, none⟩) 2 2 [x, y] := by
  refine Own.rd (base := w.heap.size) (e := 26) ⟨rfl, ?_⟩ coV_len
  exact ⟨rfl, .inr ⟨_, _, _, rfl, Nat.le_refl _, heap_new rfl, by omega, by simp [maxLen], rfl, rfl⟩⟩

end Go.Proofs.Ytmahfkimeclcbaa
