/-
  YtcockjjilcapaaaGreatDoorRead: how the law file's own types read: one reader for each type. Printed by wip/gen/read.py.
-/
import Derived.Test.YtcockjjilcapaaaGreatDoorFrame
import Derived.Test.YtcockjjilcapaaaGreatDoorHelp
namespace Go.Proofs.YtcockjjilcapaaaGreatDoor
open Go Go.ChangeShapes Go.WideShapes Go.ChangeAt Go.RowKit Go.Deep

theorem read_ints : Reader Tryz.prog 3 inV in64 := reader_int Tryz.underlying3

end Go.Proofs.YtcockjjilcapaaaGreatDoor
