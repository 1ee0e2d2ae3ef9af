/-
  YtmmogpbbehgkiaaTraA: traces: which lists are traces, the kinds and the letters of a motion's steps, by contracts.
-/
import Derived.Test.YtmmogpbbehgkiaaHelp
namespace Go.Proofs.Ytmmogpbbehgkiaa
open Go Go.RowKit Go.Sort
set_option linter.unusedVariables false

def inB (x a b : Int) : Bool := decide (a ≤ x ∧ x ≤ b)
theorem inB_t {x a b : Int} (h1 : a ≤ x) (h2 : x ≤ b) : inB x a b = true := by simp [inB, h1, h2]
theorem inB_l {x a b : Int} (h1 : x < a) : inB x a b = false := by simp [inB]; omega
theorem inB_r {x a b : Int} (h1 : b < x) : inB x a b = false := by simp [inB]; omega
theorem inB_iff {x a b : Int} : inB x a b = true ↔ a ≤ x ∧ x ≤ b := by simp [inB]

theorem l1In_any (x a b : Int) (w : World) : Calls Try.prog 62 #[.int .i64 x, .int .i64 a, .int .i64 b] w fun e w' => e = .returned (.bool (inB x a b)) ∧ w = w' := by
  have hc : (a ≤ x ∧ x ≤ b) ∨ x < a ∨ (a ≤ x ∧ b < x) := by omega
  rcases hc with ⟨h1, h2⟩ | h1 | ⟨h1, h2⟩
  · rw [inB_t h1 h2]
    go_enter Try.func62, Try.ntmps62
    go_wp2
    go_ret
    exact ⟨rfl, rfl⟩
  · rw [inB_l h1]
    go_enter Try.func62, Try.ntmps62
    go_wp2
    go_ret
    exact ⟨rfl, rfl⟩
  · rw [inB_r h2]
    go_enter Try.func62, Try.ntmps62
    go_wp2
    go_ret
    exact ⟨ret_bool (decide_eq_false (by omega)), rfl⟩

theorem inside_any (x a b : Int) (w : World) : Calls Try.prog 58 #[.int .i64 x, .int .i64 a, .int .i64 b] w fun e w' => e = .returned (.bool (inB x a b)) ∧ w = w' := by
  have hc : (a ≤ x ∧ x ≤ b) ∨ x < a ∨ (a ≤ x ∧ b < x) := by omega
  rcases hc with ⟨h1, h2⟩ | h1 | ⟨h1, h2⟩
  · rw [inB_t h1 h2]
    go_enter Try.func58, Try.ntmps58
    go_wp2
    go_ret
    exact ⟨rfl, rfl⟩
  · rw [inB_l h1]
    go_enter Try.func58, Try.ntmps58
    go_wp2
    go_ret
    exact ⟨rfl, rfl⟩
  · rw [inB_r h2]
    go_enter Try.func58, Try.ntmps58
    go_wp2
    go_ret
    exact ⟨ret_bool (decide_eq_false (by omega)), rfl⟩

theorem l23Motion_any (x : Int) (w : World) : Calls Try.prog 48 #[.int .i64 x] w fun e w' => e = .returned (.bool (inB x 1 20)) ∧ w = w' := by
  go_enter Try.func48, Try.ntmps48
  go_wp2_with (go_at_call 62; refine (l1In_any _ _ _ _).mono ?_; rintro e w' ⟨rfl, rfl⟩)
  go_ret
  exact ⟨rfl, rfl⟩

theorem isMotion_any (x : Int) (w : World) : Calls Try.prog 42 #[.int .i64 x] w fun e w' => e = .returned (.bool (inB x 1 20)) ∧ w = w' := by
  go_enter Try.func42, Try.ntmps42
  go_wp2_with (go_at_call 58; refine (inside_any _ _ _ _).mono ?_; rintro e w' ⟨rfl, rfl⟩)
  go_ret
  exact ⟨rfl, rfl⟩

/-- A step that a trace may have. -/
def tsOK (s : TS) : Bool := inB s.m 1 20 && inB s.k 1 7
/-- A list that is a trace. -/
def goodL (l : List TS) : Bool := l.all tsOK && decide (l.length ≤ 24)

theorem all_upto {α : Type} {p : α → Bool} {l : List α} {n : Nat} (hl : l.length = n) (h : ∀ j x, j < n → l[j]? = some x → p x = true) : l.all p = true := by
  rw [List.all_eq_true]
  intro x hx
  obtain ⟨i, hi⟩ := List.mem_iff_getElem?.1 hx
  exact h i x (by rw [← hl]; exact (List.getElem?_eq_some_iff.1 hi).1) hi
theorem all_fails {α : Type} {p : α → Bool} {l : List α} {k : Nat} {x : α} (hx : l[k]? = some x) (h : p x = false) : l.all p = false := by
  rw [List.all_eq_false]
  exact ⟨x, List.mem_of_getElem? hx, by simp [h]⟩

set_option maxHeartbeats 400000 in
theorem l23Good_any (A : Option Addr) (n c : Nat) (l : List TS) (w : World) (ha : Rd tsV 2 w A n c l) :
    Calls Try.prog 47 #[.slice A n c] w fun e w' => e = .returned (.bool (goodL l)) ∧ w = w' := by
  have hm := ha.le
  have hlen := ha.len
  have HL := Lib.hid hlen
  clear hlen
  go_enter Try.func47, Try.ntmps47
  go_wp2
  go_loop [3] (fun i => ∃ k : Nat, k ≤ n ∧ i = .int .i64 k ∧ ∀ j x, j < k → l[j]? = some x → tsOK x = true) (fun i => n - (intOf i).toNat)
  case atStart => exact ⟨0, Nat.zero_le _, rfl, fun j x hj => absurd hj (by omega)⟩
  case round =>
    obtain ⟨k, hk, rfl, hup⟩ := hrel
    have HU := Lib.hid hup
    clear hup
    by_cases hlt : k < n
    · obtain ⟨b1, o1, s, rfl, hs, c0, c1⟩ := ha.ts hlt
      have HS := Lib.hid hs
      clear hs ha
      cases h1 : inB s.m 1 20
      · have E := Lib.hid (show goodL l = false by unfold goodL; rw [all_fails HS.out (by simp [tsOK, h1])]; rfl)
        go_wp2_with (first | (go_at_call 48; refine (l23Motion_any _ _).mono ?_; rintro e w' ⟨rfl, rfl⟩) | (go_at_call 62; refine (l1In_any _ _ _ _).mono ?_; rintro e w' ⟨rfl, rfl⟩))
        go_ret
        exact ⟨ret_bool E.out.symm, rfl⟩
      · cases h2 : inB s.k 1 7
        · have E := Lib.hid (show goodL l = false by unfold goodL; rw [all_fails HS.out (by simp [tsOK, h2])]; rfl)
          go_wp2_with (first | (go_at_call 48; refine (l23Motion_any _ _).mono ?_; rintro e w' ⟨rfl, rfl⟩) | (go_at_call 62; refine (l1In_any _ _ _ _).mono ?_; rintro e w' ⟨rfl, rfl⟩))
          go_ret
          exact ⟨ret_bool E.out.symm, rfl⟩
        · have hok : tsOK s = true := by simp [tsOK, h1, h2]
          have HN : Hid (∀ j x, j < k + 1 → l[j]? = some x → tsOK x = true) := fun j x hj hx => by
            by_cases e : j = k
            · subst e; rw [HS.out] at hx; injection hx with hx; rw [← hx]; exact hok
            · exact HU.out j x (by omega) hx
          clear hok
          go_wp2_with (first | (go_at_call 48; refine (l23Motion_any _ _).mono ?_; rintro e w' ⟨rfl, rfl⟩) | (go_at_call 62; refine (l1In_any _ _ _ _).mono ?_; rintro e w' ⟨rfl, rfl⟩))
          go_round
          case rel => exact ⟨k + 1, by omega, by go_num, HN.out⟩
          case measure => simp [intOf]; omega
    · obtain rfl : k = n := by omega
      have E := Lib.hid (show goodL l = decide ((k : Int) ≤ 24) by unfold goodL; rw [all_upto HL.out HU.out, HL.out]; simp; omega)
      clear ha
      go_wp2
      go_ret
      exact ⟨ret_bool E.out.symm, rfl⟩


end Go.Proofs.Ytmmogpbbehgkiaa
