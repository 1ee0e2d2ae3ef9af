/-
  YtjeldedmaanhbaaRead: how the law file's own types read: one reader for each type. Printed by wip/gen/read.py.
-/
import Derived.Test.YtjeldedmaanhbaaFrame
import Derived.Test.YtjeldedmaanhbaaHelp
namespace Go.Proofs.Ytjeldedmaanhbaa
open Go Go.ChangeShapes Go.WideShapes Go.ChangeAt Go.RowKit Go.Deep

theorem cells_bool : Try.prog.cellsOf 4 = 1 := by kernel_rfl
theorem cells_int : Try.prog.cellsOf 3 = 1 := by kernel_rfl
def taGood (x : TA) : Prop := in64 x.yes ∧ in64 x.no ∧ in64 x.ab
theorem cells_ta : Try.prog.cellsOf 61 = 3 := by kernel_rfl
theorem read_ta : Reader Try.prog 61 taV taGood := fun enc w base spare held fuel cs x h => by
  obtain ⟨a0, ha0, ga0⟩ := field_of Try.underlying61 h 0 _ rfl 0 1 rfl cells_int (reader_int Try.underlying3)
  obtain ⟨a1, ha1, ga1⟩ := field_of Try.underlying61 h 1 _ rfl 1 1 rfl cells_int (reader_int Try.underlying3)
  obtain ⟨a2, ha2, ga2⟩ := field_of Try.underlying61 h 2 _ rfl 2 1 rfl cells_int (reader_int Try.underlying3)
  have hl := (struct_len Try.underlying61 h).trans cells_ta
  match cs, hl with
  | [c0, c1, c2], _ => simp at ha0 ha1 ha2; exact ⟨⟨a0, a1, a2⟩, by simp [taV, ha0, ha1, ha2], ga0, ga1, ga2⟩
def ptGood (x : PT) : Prop := in64 x.ra ∧ in64 x.st ∧ True ∧ in64 x.ap ∧ (in64 x.yes ∧ in64 x.no ∧ in64 x.ab)
theorem cells_pt : Try.prog.cellsOf 63 = 7 := by kernel_rfl
theorem read_pt : Reader Try.prog 63 ptV ptGood := fun enc w base spare held fuel cs x h => by
  obtain ⟨a0, ha0, ga0⟩ := field_of Try.underlying63 h 0 _ rfl 0 1 rfl cells_int (reader_int Try.underlying3)
  obtain ⟨a1, ha1, ga1⟩ := field_of Try.underlying63 h 1 _ rfl 1 1 rfl cells_int (reader_int Try.underlying3)
  obtain ⟨a2, ha2, ga2⟩ := field_of Try.underlying63 h 2 _ rfl 2 1 rfl cells_bool (reader_bool Try.underlying4)
  obtain ⟨a3, ha3, ga3⟩ := field_of Try.underlying63 h 3 _ rfl 3 1 rfl cells_int (reader_int Try.underlying3)
  obtain ⟨a4, ha4, ga4⟩ := field_of Try.underlying63 h 4 _ rfl 4 3 rfl cells_ta (read_ta)
  have hl := (struct_len Try.underlying63 h).trans cells_pt
  match cs, hl with
  | [c0, c1, c2, c3, c4, c5, c6], _ => simp [taV] at ha0 ha1 ha2 ha3 ha4; exact ⟨⟨a0, a1, a2, a3, a4.yes, a4.no, a4.ab⟩, by simp [ptV, ha0, ha1, ha2, ha3, ha4], ga0, ga1, ga2, ga3, ga4⟩

end Go.Proofs.Ytjeldedmaanhbaa
