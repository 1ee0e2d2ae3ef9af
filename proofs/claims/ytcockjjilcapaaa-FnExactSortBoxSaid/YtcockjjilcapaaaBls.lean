/-
  YtcockjjilcapaaaBls: one text stands before another. No program in sight.
-/
import Derived.Test.YtcockjjilcapaaaCommon
import Derived.Lib.Strings
namespace Go.Proofs.Ytcockjjilcapaaa
open Go Go.RowKit Go.Sort
set_option linter.unusedVariables false

theorem bs_irr : ∀ a : List UInt8, Op.bytesLess a a = false
  | [] => rfl
  | x :: a => by
    have := bs_irr a
    simp [Op.bytesLess, this]
theorem bs_trans : ∀ a b c : List UInt8, Op.bytesLess a b = true → Op.bytesLess b c = true → Op.bytesLess a c = true
  | [], b, [], h1, h2 => by cases b <;> simp [Op.bytesLess] at h1 h2
  | [], _, z :: c, _, _ => rfl
  | x :: a, [], c, h1, _ => by simp [Op.bytesLess] at h1
  | x :: a, y :: b, [], _, h2 => by simp [Op.bytesLess] at h2
  | x :: a, y :: b, z :: c, h1, h2 => by
    simp only [Op.bytesLess, Bool.or_eq_true, Bool.and_eq_true, decide_eq_true_eq, beq_iff_eq, UInt8.lt_iff_toNat_lt] at h1 h2 ⊢
    rcases h1 with h1 | ⟨rfl, h1⟩
    · rcases h2 with h2 | ⟨rfl, h2⟩
      · exact .inl (by omega)
      · exact .inl h1
    · rcases h2 with h2 | ⟨rfl, h2⟩
      · exact .inl h2
      · exact .inr ⟨rfl, bs_trans a b c h1 h2⟩
theorem bs_tri : ∀ a b : List UInt8, Op.bytesLess a b = false → Op.bytesLess b a = false → a = b
  | [], [], _, _ => rfl
  | [], y :: b, h1, _ => by simp [Op.bytesLess] at h1
  | x :: a, [], _, h2 => by simp [Op.bytesLess] at h2
  | x :: a, y :: b, h1, h2 => by
    simp only [Op.bytesLess, Bool.or_eq_false_iff, Bool.and_eq_false_iff, decide_eq_false_iff_not, beq_eq_false_iff_ne, UInt8.lt_iff_toNat_lt] at h1 h2
    have e : x = y := UInt8.toNat_inj.1 (by omega)
    subst e
    rw [bs_tri a b (h1.2.resolve_left (fun h => h rfl)) (h2.2.resolve_left (fun h => h rfl))]
def bL (a b : ByteArray) : Bool := Op.bytesLess a.toList b.toList
theorem bL_irr (a : ByteArray) : bL a a = false := bs_irr _
theorem bL_trans {a b c : ByteArray} (h1 : bL a b = true) (h2 : bL b c = true) : bL a c = true := bs_trans _ _ _ h1 h2
theorem bL_tri {a b : ByteArray} (h1 : bL a b = false) (h2 : bL b a = false) : a = b := by
  have := bs_tri _ _ h1 h2
  rw [Lib.toList_data, Lib.toList_data] at this
  have e : a.data = b.data := Array.toList_inj.1 this
  cases a; cases b; simp at e; rw [e]
theorem bL_asym {a b : ByteArray} (h1 : bL a b = true) : bL b a = false := by
  cases h : bL b a
  · rfl
  · have := bL_trans h1 h; rw [bL_irr] at this; cases this
theorem str_eq {a b : ByteArray} (h : (a.toList == b.toList) = true) : a = b := by
  have h1 : a.toList = b.toList := by simpa using h
  rw [Lib.toList_data, Lib.toList_data] at h1
  have e : a.data = b.data := Array.toList_inj.1 h1
  cases a; cases b; simp at e; rw [e]
theorem str_ne {a b : ByteArray} (h : (a.toList == b.toList) = false) : a ≠ b := fun e => by rw [e] at h; simp at h
theorem bL_ne {a b : ByteArray} (h : bL a b = true) : a ≠ b := fun e => by rw [e, bL_irr] at h; cases h


end Go.Proofs.Ytcockjjilcapaaa
