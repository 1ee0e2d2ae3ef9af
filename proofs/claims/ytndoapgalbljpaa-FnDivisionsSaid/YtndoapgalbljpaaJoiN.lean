/-
  YtndoapgalbljpaaJoiN: the joined list is small.
-/
import Derived.Test.YtndoapgalbljpaaDivS
import Derived.Test.YtndoapgalbljpaaColl
namespace Go.Proofs.Ytndoapgalbljpaa
open Go Go.RowKit Go.Sort
set_option linter.unusedVariables false

theorem joinL_cls (l : List CL) (i : Int) : clsB (joinL l i) = true := by
  unfold joinL
  split
  · next h => unfold joinG at h; rw [Bool.and_eq_true] at h; exact h.2
  · rfl
theorem joinL_len (l : List CL) (i : Int) : (joinL l i).length ≤ 8 := cls_len (joinL_cls l i)
theorem totC_bd {b : Nat} : ∀ l : List CL, (∀ x ∈ l, sizC x ≤ b) → totC l ≤ b * l.length
  | [], _ => by simp [totC]
  | x :: t, h => by
    have h1 := totC_bd t fun y hy => h y (List.mem_cons_of_mem _ hy)
    have h2 := h x (List.mem_cons_self ..)
    unfold totC at *
    rw [List.map_cons, List.sum_cons, List.length_cons, Nat.mul_add]
    omega
theorem joinL_tot (l : List CL) (i : Int) : totC (joinL l i) ≤ 104 := by
  have h1 := joinL_len l i
  have h2 := totC_bd (b := 13) (joinL l i) fun x hx => by
    obtain ⟨k, hk⟩ := List.getElem?_of_mem hx
    have a1 := ns_len (joinL_cls l i) hk
    have a2 := (ws_ok (joinL_cls l i) hk).1
    simp only [sizC]; omega
  omega

end Go.Proofs.Ytndoapgalbljpaa
