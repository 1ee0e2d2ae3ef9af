/-
  YtndoapgalbljpaaOf: a draw of one of some texts.
-/
import Derived.Test.YtndoapgalbljpaaAmg
namespace Go.Proofs.Ytndoapgalbljpaa
open Go Go.RowKit Go.Sort
set_option linter.unusedVariables false

theorem of_any (g K : Nat) (A : Option Addr) (n c : Nat) (l : List ByteArray) (w : World) (h : Cur w g K) (hK : K ≤ 1000000) (ha : Rd stV 1 w A n c l) (h0 : 0 < n) (hn : n ≤ 65536) (hA : ∀ a, A = some a → a.block ≠ g) :
    Calls Try.prog 80 #[.pointer (some ⟨g, 0, none⟩), .slice A n c] w fun e w' => (∃ x : ByteArray, e = .returned (.string x) ∧ x ∈ l) ∧ Cur w' g (K + 2) ∧ w.grownBy w' (some g) := by
  have HC := Lib.hid h
  have HA := Lib.hid ha
  clear h ha
  go_enter Try.func80, Try.ntmps80
  go_wp2_with fail
  refine (pick_any g K (n : Int) _ HC.out hK (by omega) (by omega)).mono ?_
  rintro e w1 ⟨⟨x, rfl, hx0, hx1⟩, hc1, hg1⟩
  obtain ⟨k, rfl⟩ := Int.eq_ofNat_of_zero_le hx0
  obtain ⟨b, off, y, hAe, hy, d0⟩ := (HA.out.cur hg1 hA).st (i := k) (by omega)
  subst hAe
  have HY := Lib.hid (List.mem_of_getElem? hy)
  have H1 := Lib.hid hc1
  clear hc1 hy HA
  go_wp2
  go_ret
  exact ⟨⟨y, rfl, HY.out⟩, H1.out, hg1⟩
/-- One of some short texts: how a draw over a literal list is met. -/
theorem of_sz {x : ByteArray} {l : List ByteArray} {m : Nat} (h : x ∈ l) (hb : l.all (fun y => decide (y.size ≤ m)) = true) : x.size ≤ m := of_decide_eq_true (List.all_eq_true.1 hb x h)

end Go.Proofs.Ytndoapgalbljpaa
