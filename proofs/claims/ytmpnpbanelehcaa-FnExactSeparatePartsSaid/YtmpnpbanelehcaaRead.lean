/-
  YtmpnpbanelehcaaRead: how the law file's own types read: one reader for each type. Printed by wip/gen/read.py.
-/
import Derived.Test.YtmpnpbanelehcaaFrame
import Derived.Test.YtmpnpbanelehcaaHelp
namespace Go.Proofs.Ytmpnpbanelehcaa
open Go Go.ChangeShapes Go.WideShapes Go.ChangeAt Go.RowKit Go.Deep

theorem read_ints : Reader Try.prog 3 inV in64 := reader_int Try.underlying3
theorem read_bools : Reader Try.prog 4 boV (fun _ => True) := reader_bool Try.underlying4

end Go.Proofs.Ytmpnpbanelehcaa
