/-
  YtndoapgalbljpaaHas: l1Has: whether a number is in a list.
-/
import Derived.Test.YtndoapgalbljpaaIn
namespace Go.Proofs.Ytndoapgalbljpaa
open Go Go.RowKit Go.Sort
set_option linter.unusedVariables false

set_option maxHeartbeats 400000 in
theorem l1Has_any (A : Option Addr) (n c : Nat) (r : List Int) (x : Int) (w : World) (ha : Rd inV 1 w A n c r) :
    Calls Try.prog 78 #[.slice A n c, .int .i64 x] w fun e w' => e = .returned (.bool (r.contains x)) ∧ w = w' := by
  have hm := ha.le
  have HL := Lib.hid ha.len
  go_enter Try.func78, Try.ntmps78
  go_wp2
  go_loop [5] (fun i => ∃ k : Nat, k ≤ n ∧ i = .int .i64 k ∧ ∀ j y, j < k → r[j]? = some y → y ≠ x) (fun i => n - (intOf i).toNat)
  case atStart => exact ⟨0, Nat.zero_le _, rfl, fun j y hj => absurd hj (by omega)⟩
  case round =>
    obtain ⟨k, hk, rfl, hup⟩ := hrel
    have HU := Lib.hid hup
    clear hup
    by_cases hlt : k < n
    · obtain ⟨b1, o1, y, rfl, hs, c0⟩ := ha.in hlt
      have HS := Lib.hid hs
      clear hs ha
      cases h5 : (y == x)
      · have HN : Hid (∀ j z, j < k + 1 → r[j]? = some z → z ≠ x) := fun j z hj hz => by
          by_cases e : j = k
          · subst e; rw [HS.out] at hz; injection hz with hz; rw [← hz]; simpa using h5
          · exact HU.out j z (by omega) hz
        go_wp2
        go_round
        case rel => exact ⟨k + 1, by omega, by go_num, HN.out⟩
        case measure => simp [intOf]; omega
      · have E := Lib.hid (show r.contains x = true by
          have h6 : y = x := by simpa using h5
          rw [List.contains_iff_mem, ← h6]
          exact List.mem_of_getElem? HS.out)
        go_wp2
        go_ret
        exact ⟨ret_bool (by have h := E.out; simp at h; simp [h]), rfl⟩
    · obtain rfl : k = n := by omega
      have E := Lib.hid (show r.contains x = false by
        rw [Bool.eq_false_iff]
        intro h
        rw [List.contains_iff_mem] at h
        obtain ⟨j, hj⟩ := List.mem_iff_getElem?.1 h
        exact HU.out j x (by rw [← HL.out]; exact (List.getElem?_eq_some_iff.1 hj).1) hj rfl)
      clear ha
      go_wp2
      go_ret
      exact ⟨ret_bool (by have h := E.out; simp at h; simp [h]), rfl⟩

end Go.Proofs.Ytndoapgalbljpaa
