/-
  YtndhbkpbopgfdaaRead: how the law file's own types read: one reader for each element type.
-/
import Derived.Test.YtndhbkpbopgfdaaFrame
import Derived.Test.YtndhbkpbopgfdaaHelp
namespace Go.Proofs.Ytndhbkpbopgfdaa
open Go Go.ChangeShapes Go.WideShapes Go.ChangeAt Go.RowKit Go.Deep

def tsGood (x : TS) : Prop := in64 x.m ∧ in64 x.k
theorem cells_ts : Try.prog.cellsOf 37 = 2 := by kernel_rfl
theorem cells_int : Try.prog.cellsOf 3 = 1 := by kernel_rfl
theorem read_ts : Reader Try.prog 37 tsV tsGood := fun enc w base spare held fuel cs x h => by
  obtain ⟨a, ha, ga⟩ := field_of Try.underlying37 h 0 _ rfl 0 1 rfl cells_int (reader_int Try.underlying3)
  obtain ⟨b, hb, gb⟩ := field_of Try.underlying37 h 1 _ rfl 1 1 rfl cells_int (reader_int Try.underlying3)
  have hl := (struct_len Try.underlying37 h).trans cells_ts
  match cs, hl with
  | [c0, c1], _ => simp at ha hb; exact ⟨⟨a, b⟩, by simp [tsV, ha, hb], ga, gb⟩

end Go.Proofs.Ytndhbkpbopgfdaa
