/-
  YtmmogpbbehgkiaaVee: the great laws' own helpers: too great a code; equal lists are told equal. (Printed by wip/gen/vee.py.)
-/
import Derived.Test.YtmmogpbbehgkiaaHelp
import Derived.BigQuiet
import Derived.Deep.QuietTactic
namespace Go.Proofs.Ytmmogpbbehgkiaa
open Go Go.RowKit Go.Sort
set_option linter.unusedVariables false

theorem vBig_any (A : Option Addr) (n c : Nat) (w : World) (hn : n ≤ 9223372036854775807) : Calls Try.prog 14 #[.slice A n c] w fun e w' => e = .returned (.bool (decide ((65536 : Int) < (n : Int)))) ∧ w = w' := by
  go_enter Try.func14, Try.ntmps14
  go_wp2
  go_ret
  exact ⟨ret_bool (by first | rfl | simp), rfl⟩


set_option maxHeartbeats 1000000 in
theorem vInts_same (A B : Option Addr) (n m c d : Nat) (l : List Int) (w : World) (ha : Rd inV 1 w A n c l) (hb : Rd inV 1 w B m d l) :
    Calls Try.prog 18 #[.slice A n c, .slice B m d] w fun e w' => e = .returned (.bool true) ∧ Below w.heap.size w w' := by
  have hm := ha.le
  obtain rfl : n = m := ha.len.symm.trans hb.len
  go_enter Try.func18, Try.ntmps18
  go_wp2
  go_loopw [5] (fun i wr => ∃ k : Nat, k ≤ n ∧ i = .int .i64 k ∧ Below w.heap.size w wr) (fun i _ => n - (intOf i).toNat)
  case atStart => exact ⟨0, Nat.zero_le _, rfl, Below.refl _ _⟩
  case round =>
    obtain ⟨k, hk, rfl, hbw⟩ := hrel
    by_cases hlt : k < n
    · obtain ⟨b1, o1, s, rfl, hs, c0⟩ := (ha.below hbw).in hlt
      obtain ⟨b2, o2, s', rfl, hs', d0⟩ := (hb.below hbw).in hlt
      obtain rfl : s = s' := by rw [hs] at hs'; injection hs'
      have hk0 : (0 : Int) ≤ (k : Int) := by omega
      have hkn : (k : Int) < (n : Int) := by omega
      clear hs hs' ha hb
      go_wp2_with fail
      go_quiet (fail)
      go_wp2
      go_roundw
      case rel => exact ⟨k + 1, by omega, by go_num, below_trans hbw ⟨rfl, rfl, rfl, Nat.le_refl _, fun i _ => rfl⟩⟩
      case measure => simp [intOf]; omega
    · go_wp2
      go_ret
      exact ⟨rfl, hbw⟩


end Go.Proofs.Ytmmogpbbehgkiaa
