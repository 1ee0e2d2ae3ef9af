/-
  YtcockjjilcapaaaGreatRead: how the law file's own types read: one reader for each type. Printed by wip/gen/read.py.
-/
import Derived.Test.YtcockjjilcapaaaGreatFrame
import Derived.Test.YtcockjjilcapaaaGreatHelp
namespace Go.Proofs.YtcockjjilcapaaaGreat
open Go Go.ChangeShapes Go.WideShapes Go.ChangeAt Go.RowKit Go.Deep

theorem read_ints : Reader Tryz.prog 3 inV in64 := reader_int Tryz.underlying3

end Go.Proofs.YtcockjjilcapaaaGreat
