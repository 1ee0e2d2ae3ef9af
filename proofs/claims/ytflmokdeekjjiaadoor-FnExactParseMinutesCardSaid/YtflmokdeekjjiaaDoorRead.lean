/-
  YtflmokdeekjjiaaDoorRead: how the law file's own types read: one reader for each type. Printed by wip/gen/read.py.
-/
import Derived.Test.YtflmokdeekjjiaaDoorFrame
import Derived.Test.YtflmokdeekjjiaaDoorHelp
namespace Go.Proofs.YtflmokdeekjjiaaDoor
open Go Go.ChangeShapes Go.WideShapes Go.ChangeAt Go.RowKit Go.Deep

theorem cells_bool : Tryd.prog.cellsOf 4 = 1 := by kernel_rfl
theorem cells_int : Tryd.prog.cellsOf 3 = 1 := by kernel_rfl
theorem cells_str : Tryd.prog.cellsOf 9 = 1 := by kernel_rfl
def taGood (x : TA) : Prop := in64 x.yes ∧ in64 x.no ∧ in64 x.ab
theorem cells_ta : Tryd.prog.cellsOf 29 = 3 := by kernel_rfl
theorem read_ta : Reader Tryd.prog 29 taV taGood := fun enc w base spare held fuel cs x h => by
  obtain ⟨a0, ha0, ga0⟩ := field_of Tryd.underlying29 h 0 _ rfl 0 1 rfl cells_int (reader_int Tryd.underlying3)
  obtain ⟨a1, ha1, ga1⟩ := field_of Tryd.underlying29 h 1 _ rfl 1 1 rfl cells_int (reader_int Tryd.underlying3)
  obtain ⟨a2, ha2, ga2⟩ := field_of Tryd.underlying29 h 2 _ rfl 2 1 rfl cells_int (reader_int Tryd.underlying3)
  have hl := (struct_len Tryd.underlying29 h).trans cells_ta
  match cs, hl with
  | [c0, c1, c2], _ => simp at ha0 ha1 ha2; exact ⟨⟨a0, a1, a2⟩, by simp [taV, ha0, ha1, ha2], ga0, ga1, ga2⟩
def enGood (x : EN) : Prop := in64 x.kind ∧ x.who.size ≤ maxLen ∧ x.mo.size ≤ maxLen ∧ (in64 x.yes ∧ in64 x.no ∧ in64 x.ab) ∧ True
theorem cells_en : Tryd.prog.cellsOf 31 = 7 := by kernel_rfl
theorem read_en : Reader Tryd.prog 31 enV enGood := fun enc w base spare held fuel cs x h => by
  obtain ⟨a0, ha0, ga0⟩ := field_of Tryd.underlying31 h 0 _ rfl 0 1 rfl cells_int (reader_int Tryd.underlying3)
  obtain ⟨a1, ha1, ga1⟩ := field_of Tryd.underlying31 h 1 _ rfl 1 1 rfl cells_str (reader_string Tryd.underlying9)
  obtain ⟨a2, ha2, ga2⟩ := field_of Tryd.underlying31 h 2 _ rfl 2 1 rfl cells_str (reader_string Tryd.underlying9)
  obtain ⟨a3, ha3, ga3⟩ := field_of Tryd.underlying31 h 3 _ rfl 3 3 rfl cells_ta (read_ta)
  obtain ⟨a4, ha4, ga4⟩ := field_of Tryd.underlying31 h 4 _ rfl 6 1 rfl cells_bool (reader_bool Tryd.underlying4)
  have hl := (struct_len Tryd.underlying31 h).trans cells_en
  match cs, hl with
  | [c0, c1, c2, c3, c4, c5, c6], _ => simp [taV] at ha0 ha1 ha2 ha3 ha4; exact ⟨⟨a0, a1, a2, a3.yes, a3.no, a3.ab, a4⟩, by simp [enV, ha0, ha1, ha2, ha3, ha4], ga0, ga1, ga2, ga3, ga4⟩

end Go.Proofs.YtflmokdeekjjiaaDoor
