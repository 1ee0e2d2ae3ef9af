/-
  YtndoapgalbljpaaByt: how the bytes of a draw read.
-/
import Derived.Test.YtndoapgalbljpaaFrame
import Derived.Test.YtndoapgalbljpaaCur
namespace Go.Proofs.Ytndoapgalbljpaa
open Go Go.ChangeShapes Go.WideShapes Go.ChangeAt Go.RowKit Go.Deep

theorem read_bytes : Reader Try.prog 5 byV (fun x => 0 ≤ x ∧ x ≤ 255) := fun enc w base spare held fuel cs x h => by
  obtain ⟨n, hc, _, hw⟩ := DataW.trod_int Try.underlying5 h
  exact ⟨n, hc, by simpa [Lit.wf, IntKind.min, IntKind.max, IntKind.signed, IntKind.bits] using hw⟩

end Go.Proofs.Ytndoapgalbljpaa
