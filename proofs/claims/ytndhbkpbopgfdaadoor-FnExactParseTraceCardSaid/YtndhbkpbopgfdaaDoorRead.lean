/-
  YtndhbkpbopgfdaaDoorRead: how the law file's own types read: one reader for each type. Printed by wip/gen/read.py.
-/
import Derived.Test.YtndhbkpbopgfdaaDoorFrame
import Derived.Test.YtndhbkpbopgfdaaDoorHelp
namespace Go.Proofs.YtndhbkpbopgfdaaDoor
open Go Go.ChangeShapes Go.WideShapes Go.ChangeAt Go.RowKit Go.Deep

theorem cells_int : Tryd.prog.cellsOf 3 = 1 := by kernel_rfl
def tsGood (x : TS) : Prop := in64 x.m ∧ in64 x.k
theorem cells_ts : Tryd.prog.cellsOf 39 = 2 := by kernel_rfl
theorem read_ts : Reader Tryd.prog 39 tsV tsGood := fun enc w base spare held fuel cs x h => by
  obtain ⟨a0, ha0, ga0⟩ := field_of Tryd.underlying39 h 0 _ rfl 0 1 rfl cells_int (reader_int Tryd.underlying3)
  obtain ⟨a1, ha1, ga1⟩ := field_of Tryd.underlying39 h 1 _ rfl 1 1 rfl cells_int (reader_int Tryd.underlying3)
  have hl := (struct_len Tryd.underlying39 h).trans cells_ts
  match cs, hl with
  | [c0, c1], _ => simp at ha0 ha1; exact ⟨⟨a0, a1⟩, by simp [tsV, ha0, ha1], ga0, ga1⟩

end Go.Proofs.YtndhbkpbopgfdaaDoor
