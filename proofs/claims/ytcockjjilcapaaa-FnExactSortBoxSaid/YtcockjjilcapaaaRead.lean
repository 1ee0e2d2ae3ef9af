/-
  YtcockjjilcapaaaRead: how the law file's own types read: one reader for each type. Printed by wip/gen/read.py.
-/
import Derived.Test.YtcockjjilcapaaaFrame
import Derived.Test.YtcockjjilcapaaaHelp
namespace Go.Proofs.Ytcockjjilcapaaa
open Go Go.ChangeShapes Go.WideShapes Go.ChangeAt Go.RowKit Go.Deep

theorem cells_int : Try.prog.cellsOf 3 = 1 := by kernel_rfl
theorem cells_str : Try.prog.cellsOf 9 = 1 := by kernel_rfl
def baGood (x : BA) : Prop := in64 x.code ∧ x.ch.size ≤ maxLen
theorem cells_ba : Try.prog.cellsOf 33 = 2 := by kernel_rfl
theorem read_ba : Reader Try.prog 33 baV baGood := fun enc w base spare held fuel cs x h => by
  obtain ⟨a0, ha0, ga0⟩ := field_of Try.underlying33 h 0 _ rfl 0 1 rfl cells_int (reader_int Try.underlying3)
  obtain ⟨a1, ha1, ga1⟩ := field_of Try.underlying33 h 1 _ rfl 1 1 rfl cells_str (reader_string Try.underlying9)
  have hl := (struct_len Try.underlying33 h).trans cells_ba
  match cs, hl with
  | [c0, c1], _ => simp at ha0 ha1; exact ⟨⟨a0, a1⟩, by simp [baV, ha0, ha1], ga0, ga1⟩

end Go.Proofs.Ytcockjjilcapaaa
