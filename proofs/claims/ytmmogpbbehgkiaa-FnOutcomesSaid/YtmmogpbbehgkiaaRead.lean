/-
  YtmmogpbbehgkiaaRead: how the law file's own types read: one reader for each type. Printed by wip/gen/read.py.
-/
import Derived.Test.YtmmogpbbehgkiaaFrame
import Derived.Test.YtmmogpbbehgkiaaHelp
namespace Go.Proofs.Ytmmogpbbehgkiaa
open Go Go.ChangeShapes Go.WideShapes Go.ChangeAt Go.RowKit Go.Deep

theorem cells_int : Try.prog.cellsOf 3 = 1 := by kernel_rfl
def tsGood (x : TS) : Prop := in64 x.m ∧ in64 x.k
theorem cells_ts : Try.prog.cellsOf 52 = 2 := by kernel_rfl
theorem read_ts : Reader Try.prog 52 tsV tsGood := fun enc w base spare held fuel cs x h => by
  obtain ⟨a0, ha0, ga0⟩ := field_of Try.underlying52 h 0 _ rfl 0 1 rfl cells_int (reader_int Try.underlying3)
  obtain ⟨a1, ha1, ga1⟩ := field_of Try.underlying52 h 1 _ rfl 1 1 rfl cells_int (reader_int Try.underlying3)
  have hl := (struct_len Try.underlying52 h).trans cells_ts
  match cs, hl with
  | [c0, c1], _ => simp at ha0 ha1; exact ⟨⟨a0, a1⟩, by simp [tsV, ha0, ha1], ga0, ga1⟩
theorem read_ints : Reader Try.prog 3 inV in64 := reader_int Try.underlying3

end Go.Proofs.Ytmmogpbbehgkiaa
