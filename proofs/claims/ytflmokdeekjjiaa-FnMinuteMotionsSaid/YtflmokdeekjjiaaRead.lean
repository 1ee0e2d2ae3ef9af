/-
  YtflmokdeekjjiaaRead: how the law file's own types read: one reader for each type. Printed by wip/gen/read.py.
-/
import Derived.Test.YtflmokdeekjjiaaFrame
import Derived.Test.YtflmokdeekjjiaaHelp
namespace Go.Proofs.Ytflmokdeekjjiaa
open Go Go.ChangeShapes Go.WideShapes Go.ChangeAt Go.RowKit Go.Deep

theorem cells_bool : Try.prog.cellsOf 4 = 1 := by kernel_rfl
theorem cells_int : Try.prog.cellsOf 3 = 1 := by kernel_rfl
theorem cells_str : Try.prog.cellsOf 9 = 1 := by kernel_rfl
def taGood (x : TA) : Prop := in64 x.yes ∧ in64 x.no ∧ in64 x.ab
theorem cells_ta : Try.prog.cellsOf 23 = 3 := by kernel_rfl
theorem read_ta : Reader Try.prog 23 taV taGood := fun enc w base spare held fuel cs x h => by
  obtain ⟨a0, ha0, ga0⟩ := field_of Try.underlying23 h 0 _ rfl 0 1 rfl cells_int (reader_int Try.underlying3)
  obtain ⟨a1, ha1, ga1⟩ := field_of Try.underlying23 h 1 _ rfl 1 1 rfl cells_int (reader_int Try.underlying3)
  obtain ⟨a2, ha2, ga2⟩ := field_of Try.underlying23 h 2 _ rfl 2 1 rfl cells_int (reader_int Try.underlying3)
  have hl := (struct_len Try.underlying23 h).trans cells_ta
  match cs, hl with
  | [c0, c1, c2], _ => simp at ha0 ha1 ha2; exact ⟨⟨a0, a1, a2⟩, by simp [taV, ha0, ha1, ha2], ga0, ga1, ga2⟩
theorem read_strs : Reader Try.prog 9 stV (fun s => s.size ≤ maxLen) := reader_string Try.underlying9
theorem read_ints : Reader Try.prog 3 inV in64 := reader_int Try.underlying3
def enGood (x : EN) : Prop := in64 x.kind ∧ x.who.size ≤ maxLen ∧ x.mo.size ≤ maxLen ∧ (in64 x.yes ∧ in64 x.no ∧ in64 x.ab) ∧ True
theorem cells_en : Try.prog.cellsOf 25 = 7 := by kernel_rfl
theorem read_en : Reader Try.prog 25 enV enGood := fun enc w base spare held fuel cs x h => by
  obtain ⟨a0, ha0, ga0⟩ := field_of Try.underlying25 h 0 _ rfl 0 1 rfl cells_int (reader_int Try.underlying3)
  obtain ⟨a1, ha1, ga1⟩ := field_of Try.underlying25 h 1 _ rfl 1 1 rfl cells_str (reader_string Try.underlying9)
  obtain ⟨a2, ha2, ga2⟩ := field_of Try.underlying25 h 2 _ rfl 2 1 rfl cells_str (reader_string Try.underlying9)
  obtain ⟨a3, ha3, ga3⟩ := field_of Try.underlying25 h 3 _ rfl 3 3 rfl cells_ta (read_ta)
  obtain ⟨a4, ha4, ga4⟩ := field_of Try.underlying25 h 4 _ rfl 6 1 rfl cells_bool (reader_bool Try.underlying4)
  have hl := (struct_len Try.underlying25 h).trans cells_en
  match cs, hl with
  | [c0, c1, c2, c3, c4, c5, c6], _ => simp [taV] at ha0 ha1 ha2 ha3 ha4; exact ⟨⟨a0, a1, a2, a3.yes, a3.no, a3.ab, a4⟩, by simp [enV, ha0, ha1, ha2, ha3, ha4], ga0, ga1, ga2, ga3, ga4⟩

end Go.Proofs.Ytflmokdeekjjiaa
