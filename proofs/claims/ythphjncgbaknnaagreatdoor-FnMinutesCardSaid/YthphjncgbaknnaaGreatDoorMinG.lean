/-
  YthphjncgbaknnaaGreatDoorMinG: ParseEntry on the reference's side, by contracts. (Printed by wip/gen/ming.py.)
-/
import Derived.Test.YthphjncgbaknnaaGreatDoorMinG1
import Derived.Test.YthphjncgbaknnaaGreatDoorMinG2
import Derived.Test.YthphjncgbaknnaaGreatDoorMinG3
namespace Go.Proofs.YthphjncgbaknnaaGreatDoor
open Go Go.RowKit Go.Sort
set_option linter.unusedVariables false
set_option linter.unusedSimpArgs false

theorem l21Parse_any (s : ByteArray) (w : World) (hs : s.size ≤ 1048576) :
    Calls Tryz.prog 29 #[.string s] w fun e w' => e = .returned (.tuple #[.agg #[.int .i64 (parE s).1.kind, .string (parE s).1.who, .string (parE s).1.mo, .int .i64 (parE s).1.yes, .int .i64 (parE s).1.no, .int .i64 (parE s).1.ab, .bool (parE s).1.pa], .bool (parE s).2]) ∧ Below w.heap.size w w' := by
  by_cases h : (10 ≤ (cutS (s.extract 0 (s.size - 1)) 32).length ∧ wdI (cutS (s.extract 0 (s.size - 1)) 32) 1 = (⟨#[109, 111, 116, 105, 111, 110]⟩ : ByteArray))
  · by_cases h2 : (cutS (s.extract 0 (s.size - 1)) 32).length = 13
    · exact l21Parse_2 s w hs ⟨h, h2⟩
    · exact l21Parse_3 s w hs ⟨h, h2⟩
  · exact l21Parse_1 s w hs h
end Go.Proofs.YthphjncgbaknnaaGreatDoor
