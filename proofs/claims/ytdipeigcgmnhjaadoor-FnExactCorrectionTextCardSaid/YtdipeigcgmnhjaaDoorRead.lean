/-
  YtdipeigcgmnhjaaDoorRead: how the law file's own types read: one reader for each type. Printed by wip/gen/read.py.
-/
import Derived.Test.YtdipeigcgmnhjaaDoorFrame
import Derived.Test.YtdipeigcgmnhjaaDoorHelp
namespace Go.Proofs.YtdipeigcgmnhjaaDoor
open Go Go.ChangeShapes Go.WideShapes Go.ChangeAt Go.RowKit Go.Deep

theorem cells_int : Tryd.prog.cellsOf 3 = 1 := by kernel_rfl
theorem cells_str : Tryd.prog.cellsOf 9 = 1 := by kernel_rfl
def coGood (x : CO) : Prop := in64 x.line ∧ x.old.size ≤ maxLen ∧ x.new.size ≤ maxLen
theorem cells_co : Tryd.prog.cellsOf 23 = 3 := by kernel_rfl
theorem read_co : Reader Tryd.prog 23 coV coGood := fun enc w base spare held fuel cs x h => by
  obtain ⟨a0, ha0, ga0⟩ := field_of Tryd.underlying23 h 0 _ rfl 0 1 rfl cells_int (reader_int Tryd.underlying3)
  obtain ⟨a1, ha1, ga1⟩ := field_of Tryd.underlying23 h 1 _ rfl 1 1 rfl cells_str (reader_string Tryd.underlying9)
  obtain ⟨a2, ha2, ga2⟩ := field_of Tryd.underlying23 h 2 _ rfl 2 1 rfl cells_str (reader_string Tryd.underlying9)
  have hl := (struct_len Tryd.underlying23 h).trans cells_co
  match cs, hl with
  | [c0, c1, c2], _ => simp at ha0 ha1 ha2; exact ⟨⟨a0, a1, a2⟩, by simp [coV, ha0, ha1, ha2], ga0, ga1, ga2⟩

end Go.Proofs.YtdipeigcgmnhjaaDoor
