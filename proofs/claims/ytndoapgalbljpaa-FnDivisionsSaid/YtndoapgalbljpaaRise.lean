/-
  YtndoapgalbljpaaRise: which lists of numbers rise within bounds: both contracts.
-/
import Derived.Test.YtndoapgalbljpaaIn
import Derived.BigQuiet
import Derived.Deep.QuietTactic
namespace Go.Proofs.Ytndoapgalbljpaa
open Go Go.RowKit Go.Sort
set_option linter.unusedVariables false

/-- The number at place i is within the bounds and more than the one before. -/
def rok (l : List Int) (lo hi : Int) (i : Nat) : Bool := inB (l.getD i 0) lo hi && (decide (i = 0) || decide (l.getD (i - 1) 0 < l.getD i 0))
def risB (l : List Int) (lo hi : Int) : Bool := (List.range l.length).all (rok l lo hi)
theorem ris_fails {l : List Int} {lo hi : Int} {k : Nat} (hk : k < l.length) (h : rok l lo hi k = false) : risB l lo hi = false := List.all_eq_false.2 ⟨k, List.mem_range.2 hk, by simp [h]⟩
theorem ris_upto {l : List Int} {lo hi : Int} (h : ∀ j, j < l.length → rok l lo hi j = true) : risB l lo hi = true := List.all_eq_true.2 (fun j hj => h j (List.mem_range.1 hj))
theorem ris_at {l : List Int} {lo hi : Int} (h : risB l lo hi = true) {j : Nat} (hj : j < l.length) : rok l lo hi j = true := List.all_eq_true.1 h j (List.mem_range.2 hj)
theorem getD_of {l : List Int} {k : Nat} {x : Int} (hx : l[k]? = some x) : l.getD k 0 = x := by rw [List.getD, hx]; rfl
theorem rok_in {l : List Int} {lo hi : Int} {k : Nat} {x : Int} (hx : l[k]? = some x) (h : inB x lo hi = false) : rok l lo hi k = false := by unfold rok; rw [getD_of hx, h]; rfl
theorem rok_zero {l : List Int} {lo hi : Int} {x : Int} (hx : l[0]? = some x) (h : inB x lo hi = true) : rok l lo hi 0 = true := by unfold rok; rw [getD_of hx, h]; rfl
theorem rok_gt {l : List Int} {lo hi : Int} {k : Nat} {x y : Int} (h0 : 0 < k) (hx : l[k]? = some x) (hy : l[k - 1]? = some y) (h : x ≤ y) : rok l lo hi k = false := by
  unfold rok; rw [getD_of hx, getD_of hy, decide_eq_false (by omega), decide_eq_false (by omega)]; simp
theorem rok_yes {l : List Int} {lo hi : Int} {k : Nat} {x y : Int} (hx : l[k]? = some x) (hy : l[k - 1]? = some y) (h : inB x lo hi = true) (h1 : y < x) : rok l lo hi k = true := by
  unfold rok; rw [getD_of hx, getD_of hy, h, decide_eq_true h1]; simp

set_option maxRecDepth 100000 in
set_option maxHeartbeats 1000000 in
theorem ascending_any (A : Option Addr) (n c : Nat) (l : List Int) (lo hi : Int) (w : World) (ha : Rd inV 1 w A n c l) :
    Calls Try.prog 54 #[.slice A n c, .int .i64 lo, .int .i64 hi] w fun e w' => e = .returned (.bool (risB l lo hi)) ∧ w = w' := by
  have hm := ha.le
  have HL := Lib.hid ha.len
  go_enter Try.func54, Try.ntmps54
  go_wp2
  go_loop [11] (fun i => ∃ k : Nat, k ≤ n ∧ i = .int .i64 k ∧ ∀ j, j < k → rok l lo hi j = true) (fun i => n - (intOf i).toNat)
  case atStart => exact ⟨0, Nat.zero_le _, rfl, fun j hj => absurd hj (by omega)⟩
  case round =>
    obtain ⟨k, hk, rfl, hup⟩ := hrel
    have HU := Lib.hid hup
    clear hup
    by_cases hlt : k < n
    · obtain ⟨b1, o1, x, rfl, hs, c0⟩ := ha.in hlt
      have HS := Lib.hid hs
      clear hs
      cases h1 : inB x lo hi
      · have E := Lib.hid (ris_fails (lo := lo) (hi := hi) (by rw [HL.out]; exact hlt) (rok_in HS.out h1))
        clear ha
        go_wp2_with fail
        refine (inside_any _ _ _ _).mono ?_
        rintro e w1 ⟨rfl, rfl⟩
        go_wp2
        go_ret
        exact ⟨ret_bool E.out.symm, rfl⟩
      · have H1 := Lib.hid h1
        rcases Nat.eq_zero_or_pos k with h0 | h0
        · subst h0
          simp only [Nat.add_zero] at c0
          have HN : Hid (∀ j, j < 0 + 1 → rok l lo hi j = true) := fun j hj => by
            obtain rfl : j = 0 := by omega
            exact rok_zero HS.out H1.out
          clear ha
          go_wp2_with fail
          refine (inside_any _ _ _ _).mono ?_
          rintro e w1 ⟨rfl, rfl⟩
          go_wp2
          go_round
          case rel => exact ⟨1, by omega, by go_num, HN.out⟩
          case measure => simp [intOf]; omega
        · obtain ⟨b2, o2, y, hA, hy, d0⟩ := ha.in (i := k - 1) (by omega)
          injection hA with hA
          injection hA with hA1 hA2
          subst hA1 hA2
          have HY := Lib.hid hy
          have hk0 : (0 : Int) < (k : Int) := by omega
          clear hy ha
          by_cases h2 : x ≤ y
          · have E := Lib.hid (ris_fails (lo := lo) (hi := hi) (by rw [HL.out]; exact hlt) (rok_gt h0 HS.out HY.out h2))
            go_wp2_with fail
            refine (inside_any _ _ _ _).mono ?_
            rintro e w1 ⟨rfl, rfl⟩
            go_wp2
            go_ret
            exact ⟨ret_bool E.out.symm, rfl⟩
          · have h3 : y < x := by omega
            have HN : Hid (∀ j, j < k + 1 → rok l lo hi j = true) := fun j hj => by
              by_cases e : j = k
              · subst e; exact rok_yes HS.out HY.out H1.out h3
              · exact HU.out j (by omega)
            go_wp2_with fail
            refine (inside_any _ _ _ _).mono ?_
            rintro e w1 ⟨rfl, rfl⟩
            go_wp2
            go_round
            case rel => exact ⟨k + 1, by omega, by go_num, HN.out⟩
            case measure => simp [intOf]; omega
    · obtain rfl : k = n := by omega
      have E := Lib.hid (show risB l lo hi = true from ris_upto (by rw [HL.out]; exact HU.out))
      clear ha
      go_wp2
      go_ret
      exact ⟨ret_bool E.out.symm, rfl⟩

theorem l1In_v (x a b : Int) (v : Bool) (h : inB x a b = v) (w : World) : Calls Try.prog 32 #[.int .i64 x, .int .i64 a, .int .i64 b] w fun e w' => e = .returned (.bool v) ∧ w' = w := by
  subst h
  refine (l1In_any x a b w).mono ?_
  rintro e w' ⟨rfl, rfl⟩
  exact ⟨rfl, rfl⟩

set_option maxRecDepth 100000 in
set_option maxHeartbeats 1000000 in
theorem l1Rising_any (A : Option Addr) (n c : Nat) (l : List Int) (lo hi : Int) (w : World) (ha : Rd inV 1 w A n c l) :
    Calls Try.prog 61 #[.slice A n c, .int .i64 lo, .int .i64 hi] w fun e w' => e = .returned (.bool (risB l lo hi)) ∧ Below w.heap.size w w' := by
  have hm := ha.le
  have HL := Lib.hid ha.len
  go_enter Try.func61, Try.ntmps61
  go_wp2
  go_loopw [7] (fun i wr => ∃ k : Nat, k ≤ n ∧ i = .int .i64 k ∧ (∀ j, j < k → rok l lo hi j = true) ∧ Below w.heap.size w wr) (fun i _ => n - (intOf i).toNat)
  case atStart => exact ⟨0, Nat.zero_le _, rfl, fun j hj => absurd hj (by omega), Below.refl _ _⟩
  case round =>
    obtain ⟨k, hk, rfl, hup, hbw⟩ := hrel
    have HU := Lib.hid hup
    clear hup
    by_cases hlt : k < n
    · obtain ⟨b1, o1, x, rfl, hs, c0⟩ := (ha.below hbw).in hlt
      have HS := Lib.hid hs
      have hk0 : (0 : Int) ≤ (k : Int) := by omega
      have hkn : (k : Int) < (n : Int) := by omega
      clear hs
      cases h1 : inB x lo hi
      · have E := Lib.hid (ris_fails (lo := lo) (hi := hi) (by rw [HL.out]; exact hlt) (rok_in HS.out h1))
        have H1 := Lib.hid h1
        clear ha h1
        go_wp2_with fail
        go_quiet ((go_at_call 32; exact Calls.quiet_of_same (l1In_v _ _ _ _ H1.out _)))
        go_wp2
        go_ret
        exact ⟨ret_bool E.out.symm, below_drewN hbw _⟩
      · have H1 := Lib.hid h1
        rcases Nat.eq_zero_or_pos k with h0 | h0
        · subst h0
          simp only [Nat.add_zero] at c0
          have HN : Hid (∀ j, j < 0 + 1 → rok l lo hi j = true) := fun j hj => by
            obtain rfl : j = 0 := by omega
            exact rok_zero HS.out H1.out
          have hnp : 0 < n := hlt
          clear ha h1
          go_wp2_with fail
          go_quiet ((go_at_call 32; exact Calls.quiet_of_same (l1In_v _ _ _ _ H1.out _)))
          go_wp2
          go_roundw
          case rel => exact ⟨1, by omega, by go_num, HN.out, below_drewN hbw _⟩
          case measure => simp [intOf]; omega
        · obtain ⟨b2, o2, y, hA, hy, d0⟩ := (ha.below hbw).in (i := k - 1) (by omega)
          injection hA with hA
          injection hA with hA1 hA2
          subst hA1 hA2
          have HY := Lib.hid hy
          have hkw : IntKind.i64.wrap ((k : Int) - 1) = ((k - 1 : Nat) : Int) := by rw [IntWalk.i64_in _ (by omega)]; omega
          have hk1 : (0 : Int) ≤ ((k - 1 : Nat) : Int) := by omega
          have hk2 : ((k - 1 : Nat) : Int) < (n : Int) := by omega
          have hk3 : k - 1 < n := by omega
          have hpos : decide ((0 : Int) < (k : Int)) = true := decide_eq_true (by omega)
          clear hy ha h1
          by_cases h2 : x ≤ y
          · have E := Lib.hid (ris_fails (lo := lo) (hi := hi) (by rw [HL.out]; exact hlt) (rok_gt h0 HS.out HY.out h2))
            have h2' : decide (x ≤ y) = true := decide_eq_true h2
            go_wp2_with fail
            go_quiet ((go_at_call 32; exact Calls.quiet_of_same (l1In_v _ _ _ _ H1.out _)))
            go_wp2
            go_ret
            exact ⟨ret_bool E.out.symm, below_drewN hbw _⟩
          · have h3 : y < x := by omega
            have h2' : decide (x ≤ y) = false := decide_eq_false h2
            have HN : Hid (∀ j, j < k + 1 → rok l lo hi j = true) := fun j hj => by
              by_cases e : j = k
              · subst e; exact rok_yes HS.out HY.out H1.out h3
              · exact HU.out j (by omega)
            go_wp2_with fail
            go_quiet ((go_at_call 32; exact Calls.quiet_of_same (l1In_v _ _ _ _ H1.out _)))

            go_wp2
            go_roundw
            case rel => exact ⟨k + 1, by omega, by go_num, HN.out, below_drewN hbw _⟩
            case measure => simp [intOf]; omega
    · obtain rfl : k = n := by omega
      have E := Lib.hid (show risB l lo hi = true from ris_upto (by rw [HL.out]; exact HU.out))
      clear ha
      go_wp2
      go_ret
      exact ⟨ret_bool E.out.symm, hbw⟩

end Go.Proofs.Ytndoapgalbljpaa
