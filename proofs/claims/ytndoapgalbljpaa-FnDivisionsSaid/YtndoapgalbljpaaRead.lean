/-
  YtndoapgalbljpaaRead: how the law file's own types read: one reader for each type. Printed by wip/gen/read.py.
-/
import Derived.Test.YtndoapgalbljpaaFrame
import Derived.Test.YtndoapgalbljpaaHelp
namespace Go.Proofs.Ytndoapgalbljpaa
open Go Go.ChangeShapes Go.WideShapes Go.ChangeAt Go.RowKit Go.Deep

theorem read_strs : Reader Try.prog 9 stV (fun s => s.size ≤ maxLen) := reader_string Try.underlying9
theorem read_ints : Reader Try.prog 3 inV in64 := reader_int Try.underlying3
theorem read_bools : Reader Try.prog 4 boV (fun _ => True) := reader_bool Try.underlying4

end Go.Proofs.Ytndoapgalbljpaa
