/-
  YtmahfkimeclcbaaRead: how the law file's own types read: one reader for each type. Printed by wip/gen/read.py.
-/
import Derived.Test.YtmahfkimeclcbaaFrame
import Derived.Test.YtmahfkimeclcbaaHelp
namespace Go.Proofs.Ytmahfkimeclcbaa
open Go Go.ChangeShapes Go.WideShapes Go.ChangeAt Go.RowKit Go.Deep

theorem read_ints : Reader Try.prog 3 inV in64 := reader_int Try.underlying3

end Go.Proofs.Ytmahfkimeclcbaa
