/-
  YtcockjjilcapaaaGreatDoorNum: l1Num: a number that is not negative, in decimal letters, by contract.
-/
import Derived.Test.YtcockjjilcapaaaGreatDoorHelp
import Derived.Lib.ItoaNum
namespace Go.Proofs.YtcockjjilcapaaaGreatDoor
open Go Go.RowKit Go.Sort
set_option linter.unusedVariables false

def numS (n : Nat) : ByteArray := ⟨(Lib.decDigits n).toArray⟩
theorem numS_small {n : Nat} (h : n < 10) : numS n = ⟨#[UInt8.ofNat (48 + n)]⟩ := by unfold numS; rw [Lib.decDigits, dif_pos h]
theorem numS_big {n : Nat} (h : ¬ n < 10) : numS n = numS (n / 10) ++ ⟨#[UInt8.ofNat (48 + n % 10)]⟩ := by
  unfold numS
  rw [Lib.decDigits, dif_neg h]
  apply ByteArray.ext
  simp
theorem digits_cut {n : Nat} (h : n < 10) : (⟨#[48, 49, 50, 51, 52, 53, 54, 55, 56, 57]⟩ : ByteArray).extract n (n + 1) = ⟨#[UInt8.ofNat (48 + n)]⟩ := by
  have h : n = 0 ∨ n = 1 ∨ n = 2 ∨ n = 3 ∨ n = 4 ∨ n = 5 ∨ n = 6 ∨ n = 7 ∨ n = 8 ∨ n = 9 := by omega
  rcases h with rfl | rfl | rfl | rfl | rfl | rfl | rfl | rfl | rfl | rfl <;> decide
theorem numS_size : ∀ {n : Nat}, n < 9223372036854775808 → (numS n).size ≤ 20 := by
  have key : ∀ (k : Nat) {n : Nat}, n < 10 ^ (k + 1) → (numS n).size ≤ k + 1 := by
    intro k
    induction k with
    | zero => intro n h; rw [numS_small (by simpa using h)]; show 1 ≤ 1; omega
    | succ k ih =>
      intro n h
      by_cases h10 : n < 10
      · rw [numS_small h10]; show 1 ≤ _; omega
      · rw [numS_big h10, ByteArray.size_append]
        have := ih (n := n / 10) (by rw [Nat.pow_succ] at h; omega)
        show _ + 1 ≤ _
        omega
  intro n h
  exact Nat.le_trans (key 18 (by omega)) (by omega)

set_option maxHeartbeats 400000 in
theorem l1Num_any (n : Nat) : ∀ (w : World), n < 1000000000000 →
    Calls Tryz.prog 69 #[.int .i64 n] w fun e w' => e = .returned (.string (numS n)) ∧ Below w.heap.size w w' := by
  induction n using Nat.strongRecOn with
  | _ n ih =>
  intro w hn
  have h0 : ¬ (n : Int) < 0 := by omega
  by_cases h10 : n < 10
  · have hi : (n : Int) < 10 := by omega
    have HX := Lib.hid (digits_cut h10)
    have HS := Lib.hid (numS_small h10)
    go_enter Tryz.func69, Tryz.ntmps69
    go_wp2
    go_ret
    exact ⟨ret_str (by rw [HS.out, ← HX.out]), Below.refl _ _⟩
  · have hi : ¬ (n : Int) < 10 := by omega
    have hr := ih (n / 10) (by omega)
    have HX := Lib.hid (digits_cut (n := n % 10) (by omega))
    have HS := Lib.hid (numS_big h10)
    have hz : (numS (n / 10)).size ≤ 20 := numS_size (by omega)
    have hy : ((⟨#[48, 49, 50, 51, 52, 53, 54, 55, 56, 57]⟩ : ByteArray).extract (n % 10) (n % 10 + 1)).size = 1 := by rw [HX.out]; rfl
    have hxy : (numS (n / 10) ++ (⟨#[48, 49, 50, 51, 52, 53, 54, 55, 56, 57]⟩ : ByteArray).extract (n % 10) (n % 10 + 1)).size ≤ maxLen := by rw [ByteArray.size_append, hy]; exact Nat.le_trans (Nat.add_le_add_right hz 1) (by decide)
    go_enter Tryz.func69, Tryz.ntmps69
    go_wp2_with fail
    refine wp_region_quiet_below (by kernel_rfl) (by kernel_rfl) ?_
    repeat (go_big_quiet_step ((go_at_call 69; exact Calls.regrown_of (hr _ (by omega)))))
    refine wpQuiet_nil ?_
    intro _ hw'
    obtain ⟨⟨dq, osq⟩, hw''⟩ := hw'
    subst hw''
    go_wp2
    go_ret
    exact ⟨ret_str (by rw [HS.out, ← HX.out]), below_regrown _ _ _⟩

end Go.Proofs.YtcockjjilcapaaaGreatDoor
