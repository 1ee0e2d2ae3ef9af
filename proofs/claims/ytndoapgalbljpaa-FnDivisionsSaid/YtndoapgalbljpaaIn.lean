/-
  YtndoapgalbljpaaIn: bounds of whole numbers (l1In, inside), and what is told of all elements of a list.
-/
import Derived.Test.YtndoapgalbljpaaHelp
namespace Go.Proofs.Ytndoapgalbljpaa
open Go Go.RowKit Go.Sort
set_option linter.unusedVariables false

def inB (x a b : Int) : Bool := decide (a ≤ x ∧ x ≤ b)
theorem inB_t {x a b : Int} (h1 : a ≤ x) (h2 : x ≤ b) : inB x a b = true := by simp [inB, h1, h2]
theorem inB_l {x a b : Int} (h1 : x < a) : inB x a b = false := by simp [inB]; omega
theorem inB_r {x a b : Int} (h1 : b < x) : inB x a b = false := by simp [inB]; omega
theorem inB_iff {x a b : Int} : inB x a b = true ↔ a ≤ x ∧ x ≤ b := by simp [inB]

theorem l1In_any (x a b : Int) (w : World) : Calls Try.prog 32 #[.int .i64 x, .int .i64 a, .int .i64 b] w fun e w' => e = .returned (.bool (inB x a b)) ∧ w = w' := by
  have hc : (a ≤ x ∧ x ≤ b) ∨ x < a ∨ (a ≤ x ∧ b < x) := by omega
  rcases hc with ⟨h1, h2⟩ | h1 | ⟨h1, h2⟩
  · rw [inB_t h1 h2]
    go_enter Try.func32, Try.ntmps32
    go_wp2
    go_ret
    exact ⟨rfl, rfl⟩
  · rw [inB_l h1]
    go_enter Try.func32, Try.ntmps32
    go_wp2
    go_ret
    exact ⟨rfl, rfl⟩
  · rw [inB_r h2]
    go_enter Try.func32, Try.ntmps32
    go_wp2
    go_ret
    exact ⟨ret_bool (decide_eq_false (by omega)), rfl⟩

theorem inside_any (x a b : Int) (w : World) : Calls Try.prog 36 #[.int .i64 x, .int .i64 a, .int .i64 b] w fun e w' => e = .returned (.bool (inB x a b)) ∧ w = w' := by
  have hc : (a ≤ x ∧ x ≤ b) ∨ x < a ∨ (a ≤ x ∧ b < x) := by omega
  rcases hc with ⟨h1, h2⟩ | h1 | ⟨h1, h2⟩
  · rw [inB_t h1 h2]
    go_enter Try.func36, Try.ntmps36
    go_wp2
    go_ret
    exact ⟨rfl, rfl⟩
  · rw [inB_l h1]
    go_enter Try.func36, Try.ntmps36
    go_wp2
    go_ret
    exact ⟨rfl, rfl⟩
  · rw [inB_r h2]
    go_enter Try.func36, Try.ntmps36
    go_wp2
    go_ret
    exact ⟨ret_bool (decide_eq_false (by omega)), rfl⟩

theorem all_upto {α : Type} {p : α → Bool} {l : List α} {n : Nat} (hl : l.length = n) (h : ∀ j x, j < n → l[j]? = some x → p x = true) : l.all p = true := by
  rw [List.all_eq_true]
  intro x hx
  obtain ⟨i, hi⟩ := List.mem_iff_getElem?.1 hx
  exact h i x (by rw [← hl]; exact (List.getElem?_eq_some_iff.1 hi).1) hi
theorem all_fails {α : Type} {p : α → Bool} {l : List α} {k : Nat} {x : α} (hx : l[k]? = some x) (h : p x = false) : l.all p = false := by
  rw [List.all_eq_false]
  exact ⟨x, List.mem_of_getElem? hx, by simp [h]⟩

theorem byte_get {p : ByteArray} {k : Nat} (h : k < p.size) : p.data.toList[k]? = some p[k] := by
  have h2 : p.size = p.data.size := rfl
  rw [Array.getElem?_toList, Array.getElem?_eq_getElem (by omega)]
  rfl

end Go.Proofs.Ytndoapgalbljpaa
