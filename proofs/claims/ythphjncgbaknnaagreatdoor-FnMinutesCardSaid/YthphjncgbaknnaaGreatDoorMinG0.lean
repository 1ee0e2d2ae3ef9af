/-
  YthphjncgbaknnaaGreatDoorMinG0: ParseEntry on the reference's side, by contracts. (Printed by wip/gen/ming.py.)
-/
import Derived.Test.YthphjncgbaknnaaGreatDoorMinS
import Derived.RegionTactic
import Derived.Deep.RegionLaw
namespace Go.Proofs.YthphjncgbaknnaaGreatDoor
open Go Go.RowKit Go.Sort
set_option linter.unusedVariables false
set_option linter.unusedSimpArgs false
theorem candE_0 {ws : List ByteArray} (h : ws.length = 4 ∧ wdI ws 1 = (⟨#[109, 111, 118, 101, 100]⟩ : ByteArray)) : candE ws = ⟨2, smallS (wdI ws 0), wdI ws 3, 0, 0, 0, false⟩ := by
  unfold candE
  rw [if_pos h]
theorem candE_1 {ws : List ByteArray} (n0 : ¬ (ws.length = 4 ∧ wdI ws 1 = (⟨#[109, 111, 118, 101, 100]⟩ : ByteArray))) (h : ws.length = 6 ∧ wdI ws 1 = (⟨#[115, 101, 99, 111, 110, 100, 101, 100]⟩ : ByteArray)) : candE ws = ⟨3, smallS (wdI ws 0), wdI ws 5, 0, 0, 0, false⟩ := by
  unfold candE
  rw [if_neg n0, if_pos h]
theorem candE_2 {ws : List ByteArray} (n0 : ¬ (ws.length = 4 ∧ wdI ws 1 = (⟨#[109, 111, 118, 101, 100]⟩ : ByteArray))) (n1 : ¬ (ws.length = 6 ∧ wdI ws 1 = (⟨#[115, 101, 99, 111, 110, 100, 101, 100]⟩ : ByteArray))) (h : ws.length = 6 ∧ wdI ws 3 = (⟨#[111, 112, 101, 110, 101, 100]⟩ : ByteArray)) : candE ws = ⟨1, smallS (wdI ws 2), ⟨#[]⟩, 0, 0, 0, false⟩ := by
  unfold candE
  rw [if_neg n0, if_neg n1, if_pos h]
theorem candE_3 {ws : List ByteArray} (n0 : ¬ (ws.length = 4 ∧ wdI ws 1 = (⟨#[109, 111, 118, 101, 100]⟩ : ByteArray))) (n1 : ¬ (ws.length = 6 ∧ wdI ws 1 = (⟨#[115, 101, 99, 111, 110, 100, 101, 100]⟩ : ByteArray))) (n2 : ¬ (ws.length = 6 ∧ wdI ws 3 = (⟨#[111, 112, 101, 110, 101, 100]⟩ : ByteArray))) (h : ws.length = 6 ∧ wdI ws 3 = (⟨#[99, 108, 111, 115, 101, 100]⟩ : ByteArray)) : candE ws = ⟨6, smallS (wdI ws 2), ⟨#[]⟩, 0, 0, 0, false⟩ := by
  unfold candE
  rw [if_neg n0, if_neg n1, if_neg n2, if_pos h]
theorem candE_4 {ws : List ByteArray} (n0 : ¬ (ws.length = 4 ∧ wdI ws 1 = (⟨#[109, 111, 118, 101, 100]⟩ : ByteArray))) (n1 : ¬ (ws.length = 6 ∧ wdI ws 1 = (⟨#[115, 101, 99, 111, 110, 100, 101, 100]⟩ : ByteArray))) (n2 : ¬ (ws.length = 6 ∧ wdI ws 3 = (⟨#[111, 112, 101, 110, 101, 100]⟩ : ByteArray))) (n3 : ¬ (ws.length = 6 ∧ wdI ws 3 = (⟨#[99, 108, 111, 115, 101, 100]⟩ : ByteArray))) (h : 10 ≤ ws.length ∧ wdI ws 1 = (⟨#[99, 104, 97, 105, 114]⟩ : ByteArray) ∧ wdI ws 3 = (⟨#[114, 117, 108, 101, 100]⟩ : ByteArray)) : candE ws = ⟨5, smallS (wdI ws 2), wdI ws 7, 0, 0, 0, decide (wdI ws 8 = (⟨#[105, 110]⟩ : ByteArray))⟩ := by
  unfold candE
  rw [if_neg n0, if_neg n1, if_neg n2, if_neg n3, if_pos h]
theorem candE_5 {ws : List ByteArray} (n0 : ¬ (ws.length = 4 ∧ wdI ws 1 = (⟨#[109, 111, 118, 101, 100]⟩ : ByteArray))) (n1 : ¬ (ws.length = 6 ∧ wdI ws 1 = (⟨#[115, 101, 99, 111, 110, 100, 101, 100]⟩ : ByteArray))) (n2 : ¬ (ws.length = 6 ∧ wdI ws 3 = (⟨#[111, 112, 101, 110, 101, 100]⟩ : ByteArray))) (n3 : ¬ (ws.length = 6 ∧ wdI ws 3 = (⟨#[99, 108, 111, 115, 101, 100]⟩ : ByteArray))) (n4 : ¬ (10 ≤ ws.length ∧ wdI ws 1 = (⟨#[99, 104, 97, 105, 114]⟩ : ByteArray) ∧ wdI ws 3 = (⟨#[114, 117, 108, 101, 100]⟩ : ByteArray))) (h : 10 ≤ ws.length ∧ wdI ws 1 = (⟨#[109, 111, 116, 105, 111, 110]⟩ : ByteArray)) : candE ws = ⟨4, ⟨#[]⟩, wdI ws 3, (rdP (wdI ws 7)).1, (rdP (wdI ws 9)).1, if ws.length = 13 then (rdP (wdI ws 11)).1 else 0, decide (wdI ws 5 = (⟨#[97, 100, 111, 112, 116, 101, 100]⟩ : ByteArray))⟩ := by
  unfold candE
  rw [if_neg n0, if_neg n1, if_neg n2, if_neg n3, if_neg n4, if_pos h]
theorem candE_6 {ws : List ByteArray} (n0 : ¬ (ws.length = 4 ∧ wdI ws 1 = (⟨#[109, 111, 118, 101, 100]⟩ : ByteArray))) (n1 : ¬ (ws.length = 6 ∧ wdI ws 1 = (⟨#[115, 101, 99, 111, 110, 100, 101, 100]⟩ : ByteArray))) (n2 : ¬ (ws.length = 6 ∧ wdI ws 3 = (⟨#[111, 112, 101, 110, 101, 100]⟩ : ByteArray))) (n3 : ¬ (ws.length = 6 ∧ wdI ws 3 = (⟨#[99, 108, 111, 115, 101, 100]⟩ : ByteArray))) (n4 : ¬ (10 ≤ ws.length ∧ wdI ws 1 = (⟨#[99, 104, 97, 105, 114]⟩ : ByteArray) ∧ wdI ws 3 = (⟨#[114, 117, 108, 101, 100]⟩ : ByteArray))) (n5 : ¬ (10 ≤ ws.length ∧ wdI ws 1 = (⟨#[109, 111, 116, 105, 111, 110]⟩ : ByteArray))) : candE ws = ⟨0, ⟨#[]⟩, ⟨#[]⟩, 0, 0, 0, false⟩ := by
  unfold candE
  rw [if_neg n0, if_neg n1, if_neg n2, if_neg n3, if_neg n4, if_neg n5]
theorem lits : (⟨#[99, 104, 97, 105, 114]⟩ : ByteArray) ≠ (⟨#[109, 111, 116, 105, 111, 110]⟩ : ByteArray) ∧ (⟨#[115, 101, 99, 111, 110, 100, 101, 100]⟩ : ByteArray) ≠ (⟨#[111, 112, 101, 110, 101, 100]⟩ : ByteArray) ∧ (⟨#[111, 112, 101, 110, 101, 100]⟩ : ByteArray) ≠ (⟨#[99, 108, 111, 115, 101, 100]⟩ : ByteArray) := by decide
theorem tl_eq {x : ByteArray} {l : List UInt8} (h : x.toList = l) (y : ByteArray) (hy : y.toList = l) : x = y := toList_inj (h.trans hy.symm)
theorem lt_t {x : ByteArray} (l : List UInt8) (y : ByteArray) (hy : y.toList = l) (h : x = y) : (x.toList == l) = true := by rw [h, hy]; simp
theorem lt_f {x : ByteArray} (l : List UInt8) (y : ByteArray) (hy : y.toList = l) (h : x ≠ y) : (x.toList == l) = false := by
  rw [beq_eq_false_iff_ne]
  exact fun e => h (toList_inj (e.trans hy.symm))
theorem lt_tn {a b : ByteArray} (h : a = b) : (a.toList != b.toList) = false := by rw [h]; simp
theorem lt_fn {a b : ByteArray} (h : a ≠ b) : (a.toList != b.toList) = true := by rw [bne, bytes_eq_f h]; rfl
end Go.Proofs.YthphjncgbaknnaaGreatDoor
