/-
  YtndoapgalbljpaaVee: the great laws' own helpers: too great a code; equal lists are told equal. (Printed by wip/gen/vee.py.)
-/
import Derived.Test.YtndoapgalbljpaaHelp
import Derived.BigQuiet
import Derived.Deep.QuietTactic
namespace Go.Proofs.Ytndoapgalbljpaa
open Go Go.RowKit Go.Sort
set_option linter.unusedVariables false

theorem vBig_any (A : Option Addr) (n c : Nat) (w : World) (hn : n ≤ 9223372036854775807) : Calls Try.prog 12 #[.slice A n c] w fun e w' => e = .returned (.bool (decide ((65536 : Int) < (n : Int)))) ∧ w = w' := by
  go_enter Try.func12, Try.ntmps12
  go_wp2
  go_ret
  exact ⟨ret_bool (by first | rfl | simp), rfl⟩


set_option maxHeartbeats 1000000 in
theorem vInts_same (A B : Option Addr) (n m c d : Nat) (l : List Int) (w : World) (ha : Rd inV 1 w A n c l) (hb : Rd inV 1 w B m d l) :
    Calls Try.prog 29 #[.slice A n c, .slice B m d] w fun e w' => e = .returned (.bool true) ∧ Below w.heap.size w w' := by
  have hm := ha.le
  obtain rfl : n = m := ha.len.symm.trans hb.len
  go_enter Try.func29, Try.ntmps29
  go_wp2
  go_loopw [5] (fun i wr => ∃ k : Nat, k ≤ n ∧ i = .int .i64 k ∧ Below w.heap.size w wr) (fun i _ => n - (intOf i).toNat)
  case atStart => exact ⟨0, Nat.zero_le _, rfl, Below.refl _ _⟩
  case round =>
    obtain ⟨k, hk, rfl, hbw⟩ := hrel
    by_cases hlt : k < n
    · obtain ⟨b1, o1, s, rfl, hs, c0⟩ := (ha.below hbw).in hlt
      obtain ⟨b2, o2, s', rfl, hs', d0⟩ := (hb.below hbw).in hlt
      obtain rfl : s = s' := by rw [hs] at hs'; injection hs'
      have hk0 : (0 : Int) ≤ (k : Int) := by omega
      have hkn : (k : Int) < (n : Int) := by omega
      clear hs hs' ha hb
      go_wp2_with fail
      go_quiet (fail)
      go_wp2
      go_roundw
      case rel => exact ⟨k + 1, by omega, by go_num, below_trans hbw ⟨rfl, rfl, rfl, Nat.le_refl _, fun i _ => rfl⟩⟩
      case measure => simp [intOf]; omega
    · go_wp2
      go_ret
      exact ⟨rfl, hbw⟩


set_option maxHeartbeats 1000000 in
theorem vTexts_same (A B : Option Addr) (n m c d : Nat) (l : List ByteArray) (w : World) (ha : Rd stV 1 w A n c l) (hb : Rd stV 1 w B m d l) :
    Calls Try.prog 22 #[.slice A n c, .slice B m d] w fun e w' => e = .returned (.bool true) ∧ Below w.heap.size w w' := by
  have hm := ha.le
  obtain rfl : n = m := ha.len.symm.trans hb.len
  go_enter Try.func22, Try.ntmps22
  go_wp2
  go_loopw [5] (fun i wr => ∃ k : Nat, k ≤ n ∧ i = .int .i64 k ∧ Below w.heap.size w wr) (fun i _ => n - (intOf i).toNat)
  case atStart => exact ⟨0, Nat.zero_le _, rfl, Below.refl _ _⟩
  case round =>
    obtain ⟨k, hk, rfl, hbw⟩ := hrel
    by_cases hlt : k < n
    · obtain ⟨b1, o1, s, rfl, hs, c0⟩ := (ha.below hbw).st hlt
      obtain ⟨b2, o2, s', rfl, hs', d0⟩ := (hb.below hbw).st hlt
      obtain rfl : s = s' := by rw [hs] at hs'; injection hs'
      have hk0 : (0 : Int) ≤ (k : Int) := by omega
      have hkn : (k : Int) < (n : Int) := by omega
      clear hs hs' ha hb
      go_wp2_with fail
      go_quiet (fail)
      go_wp2
      go_roundw
      case rel => exact ⟨k + 1, by omega, by go_num, below_trans hbw ⟨rfl, rfl, rfl, Nat.le_refl _, fun i _ => rfl⟩⟩
      case measure => simp [intOf]; omega
    · go_wp2
      go_ret
      exact ⟨rfl, hbw⟩

set_option maxHeartbeats 1000000 in
theorem vHas_any (A : Option Addr) (n c : Nat) (l : List Int) (x : Int) (w : World) (ha : Rd inV 1 w A n c l) :
    Calls Try.prog 18 #[.slice A n c, .int .i64 x] w fun e w' => e = .returned (.bool (decide (x ∈ l))) ∧ w = w' := by
  have hm := ha.le
  have HL := Lib.hid ha.len
  go_enter Try.func18, Try.ntmps18
  go_wp2
  go_loop [5] (fun i => ∃ k : Nat, k ≤ n ∧ i = .int .i64 k ∧ Hid (∀ j y, j < k → l[j]? = some y → y ≠ x)) (fun i => n - (intOf i).toNat)
  case atStart => exact ⟨0, Nat.zero_le _, rfl, fun j y hj => absurd hj (by omega)⟩
  case round =>
    obtain ⟨k, hk, rfl, hup⟩ := hrel
    by_cases hlt : k < n
    · obtain ⟨b1, o1, s, rfl, hs, c0⟩ := ha.in hlt
      have HS := Lib.hid hs
      clear hs ha
      cases h1 : (s == x)
      · have HN : Hid (∀ j y, j < k + 1 → l[j]? = some y → y ≠ x) := fun j y hj hy => by
          by_cases e : j = k
          · subst e; rw [HS.out] at hy; injection hy with hy; rw [← hy]; simpa using h1
          · exact hup.out j y (by omega) hy
        go_wp2
        go_round
        case rel => exact ⟨k + 1, by omega, by go_num, HN⟩
        case measure => simp [intOf]; omega
      · have E := Lib.hid (show decide (x ∈ l) = true by rw [decide_eq_true]; have := List.mem_of_getElem? HS.out; rw [show s = x by simpa using h1] at this; exact this)
        go_wp2
        go_ret
        exact ⟨ret_bool E.out.symm, rfl⟩
    · have E := Lib.hid (show decide (x ∈ l) = false by
        rw [decide_eq_false]
        intro hx
        obtain ⟨j, hj⟩ := List.mem_iff_getElem?.1 hx
        exact hup.out j x (by have := (List.getElem?_eq_some_iff.1 hj).1; have := HL.out; omega) hj rfl)
      clear ha
      go_wp2
      go_ret
      exact ⟨ret_bool E.out.symm, rfl⟩



end Go.Proofs.Ytndoapgalbljpaa
