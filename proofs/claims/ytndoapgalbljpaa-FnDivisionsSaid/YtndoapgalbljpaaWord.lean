/-
  YtndoapgalbljpaaWord: which texts are words: both contracts.
-/
import Derived.Test.YtndoapgalbljpaaIn
namespace Go.Proofs.Ytndoapgalbljpaa
open Go Go.RowKit Go.Sort
set_option linter.unusedVariables false

def wdByte (b : UInt8) : Bool := decide (97 ≤ (b.toNat : Int)) && decide ((b.toNat : Int) ≤ 122)
/-- 1..10 small letters. -/
def wordB (s : ByteArray) : Bool := s.data.toList.all wdByte && inB s.size 1 10
theorem word_fails {s : ByteArray} {k : Nat} (hk : k < s.size) (h : wdByte s[k] = false) : wordB s = false := by unfold wordB; rw [all_fails (byte_get hk) h]; rfl
theorem word_upto {s : ByteArray} (h : ∀ j b, j < s.size → s.data.toList[j]? = some b → wdByte b = true) : wordB s = inB s.size 1 10 := by unfold wordB; rw [all_upto (n := s.size) rfl h]; rfl
theorem word_size {s : ByteArray} (h : wordB s = true) : 1 ≤ s.size ∧ s.size ≤ 10 := by
  unfold wordB at h
  rw [Bool.and_eq_true, inB_iff] at h
  omega

set_option maxHeartbeats 400000 in
theorem isWord_any (s : ByteArray) (w : World) (hs : s.size ≤ maxLen) : Calls Try.prog 77 #[.string s] w fun e w' => e = .returned (.bool (wordB s)) ∧ w' = w := by
  unfold maxLen at hs
  go_enter Try.func77, Try.ntmps77
  go_wp2
  go_loop [3] (fun i => ∃ k : Nat, k ≤ s.size ∧ i = .int .i64 k ∧ ∀ j b, j < k → s.data.toList[j]? = some b → wdByte b = true) (fun i => s.size - (intOf i).toNat)
  case atStart => exact ⟨0, Nat.zero_le _, rfl, fun j b hj => absurd hj (by omega)⟩
  case round =>
    obtain ⟨k, hk, rfl, hup⟩ := hrel
    have HU := Lib.hid hup
    clear hup
    by_cases hlt : k < s.size
    · by_cases h1 : (s[k].toNat : Int) < 97
      · have E := Lib.hid (word_fails hlt (by simp [wdByte]; omega))
        go_wp2
        go_ret
        exact ⟨ret_bool E.out.symm, rfl⟩
      · by_cases h2 : 122 < (s[k].toNat : Int)
        · have E := Lib.hid (word_fails hlt (by simp [wdByte]; omega))
          go_wp2
          go_ret
          exact ⟨ret_bool E.out.symm, rfl⟩
        · have HN : Hid (∀ j b, j < k + 1 → s.data.toList[j]? = some b → wdByte b = true) := fun j b hj hx => by
            by_cases e : j = k
            · subst e; rw [byte_get hlt] at hx; injection hx with hx; rw [← hx]; simp [wdByte]; omega
            · exact HU.out j b (by omega) hx
          go_wp2
          go_round
          case rel => exact ⟨k + 1, by omega, by go_num, HN.out⟩
          case measure => simp [intOf]; omega
    · obtain rfl : k = s.size := by omega
      have E := Lib.hid (word_upto HU.out)
      go_wp2_with fail
      refine (inside_any _ _ _ _).mono ?_
      rintro e w1 ⟨rfl, rfl⟩
      go_wp2
      go_ret
      exact ⟨ret_bool E.out.symm, rfl⟩

set_option maxHeartbeats 400000 in
theorem l2Word_any (s : ByteArray) (w : World) (hs : s.size ≤ maxLen) : Calls Try.prog 83 #[.string s] w fun e w' => e = .returned (.bool (wordB s)) ∧ w' = w := by
  unfold maxLen at hs
  go_enter Try.func83, Try.ntmps83
  go_wp2
  go_loop [3] (fun i => ∃ k : Nat, k ≤ s.size ∧ i = .int .i64 k ∧ ∀ j b, j < k → s.data.toList[j]? = some b → wdByte b = true) (fun i => s.size - (intOf i).toNat)
  case atStart => exact ⟨0, Nat.zero_le _, rfl, fun j b hj => absurd hj (by omega)⟩
  case round =>
    obtain ⟨k, hk, rfl, hup⟩ := hrel
    have HU := Lib.hid hup
    clear hup
    by_cases hlt : k < s.size
    · by_cases h1 : (s[k].toNat : Int) < 97
      · have E := Lib.hid (word_fails hlt (by simp [wdByte]; omega))
        go_wp2
        go_ret
        exact ⟨ret_bool E.out.symm, rfl⟩
      · by_cases h2 : 122 < (s[k].toNat : Int)
        · have E := Lib.hid (word_fails hlt (by simp [wdByte]; omega))
          go_wp2
          go_ret
          exact ⟨ret_bool E.out.symm, rfl⟩
        · have HN : Hid (∀ j b, j < k + 1 → s.data.toList[j]? = some b → wdByte b = true) := fun j b hj hx => by
            by_cases e : j = k
            · subst e; rw [byte_get hlt] at hx; injection hx with hx; rw [← hx]; simp [wdByte]; omega
            · exact HU.out j b (by omega) hx
          go_wp2
          go_round
          case rel => exact ⟨k + 1, by omega, by go_num, HN.out⟩
          case measure => simp [intOf]; omega
    · obtain rfl : k = s.size := by omega
      have E := Lib.hid (word_upto HU.out)
      go_wp2_with fail
      refine (l1In_any _ _ _ _).mono ?_
      rintro e w1 ⟨rfl, rfl⟩
      go_wp2
      go_ret
      exact ⟨ret_bool E.out.symm, rfl⟩

end Go.Proofs.Ytndoapgalbljpaa
