/-
  YtdipeigcgmnhjaaRead: how the law file's own types read: one reader for each type. Printed by wip/gen/read.py.
-/
import Derived.Test.YtdipeigcgmnhjaaFrame
import Derived.Test.YtdipeigcgmnhjaaHelp
namespace Go.Proofs.Ytdipeigcgmnhjaa
open Go Go.ChangeShapes Go.WideShapes Go.ChangeAt Go.RowKit Go.Deep

theorem cells_int : Try.prog.cellsOf 3 = 1 := by kernel_rfl
theorem cells_str : Try.prog.cellsOf 9 = 1 := by kernel_rfl
theorem read_strs : Reader Try.prog 9 stV (fun s => s.size ≤ maxLen) := reader_string Try.underlying9
def coGood (x : CO) : Prop := in64 x.line ∧ x.old.size ≤ maxLen ∧ x.new.size ≤ maxLen
theorem cells_co : Try.prog.cellsOf 33 = 3 := by kernel_rfl
theorem read_co : Reader Try.prog 33 coV coGood := fun enc w base spare held fuel cs x h => by
  obtain ⟨a0, ha0, ga0⟩ := field_of Try.underlying33 h 0 _ rfl 0 1 rfl cells_int (reader_int Try.underlying3)
  obtain ⟨a1, ha1, ga1⟩ := field_of Try.underlying33 h 1 _ rfl 1 1 rfl cells_str (reader_string Try.underlying9)
  obtain ⟨a2, ha2, ga2⟩ := field_of Try.underlying33 h 2 _ rfl 2 1 rfl cells_str (reader_string Try.underlying9)
  have hl := (struct_len Try.underlying33 h).trans cells_co
  match cs, hl with
  | [c0, c1, c2], _ => simp at ha0 ha1 ha2; exact ⟨⟨a0, a1, a2⟩, by simp [coV, ha0, ha1, ha2], ga0, ga1, ga2⟩
theorem read_ints : Reader Try.prog 3 inV in64 := reader_int Try.underlying3

end Go.Proofs.Ytdipeigcgmnhjaa
