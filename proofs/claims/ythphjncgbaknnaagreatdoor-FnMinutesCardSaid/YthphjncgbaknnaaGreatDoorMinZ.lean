/-
  YthphjncgbaknnaaGreatDoorMinZ: spec.ParseMinutes, by contracts. (Printed by wip/gen/minz.py.)
-/
import Derived.Test.YthphjncgbaknnaaGreatDoorMinO
import Derived.Test.YthphjncgbaknnaaGreatDoorMinG
namespace Go.Proofs.YthphjncgbaknnaaGreatDoor
open Go Go.RowKit Go.Sort

theorem specParseMinutes_any (s : ByteArray) (w : World) (hs : s.size ≤ 1048576) :
    Calls Tryz.prog 18 #[.string s] w fun e w' => (∃ B q d, e = .returned (.tuple #[.slice B q d, .bool (parM s).2]) ∧ Own enV 7 w' w.heap.size 27 B q d (parM s).1) ∧ Below w.heap.size w w' :=
  specParseMinutes_of (fun s w h => l21Parse_any s w h) s w hs
end Go.Proofs.YthphjncgbaknnaaGreatDoor
