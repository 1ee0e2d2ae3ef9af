/-
  YtmmogpbbehgkiaaTraB: traces: impl.IsTraceList by slices.ContainsFunc.
-/
import Derived.Test.YtmmogpbbehgkiaaTraA
namespace Go.Proofs.Ytmmogpbbehgkiaa
open Go Go.RowKit Go.Sort
set_option linter.unusedVariables false

theorem badStep_any (m k : Int) (w : World) : Calls Try.prog 57 #[.agg #[.int .i64 m, .int .i64 k]] w fun e w' => e = .returned (.bool (!tsOK ⟨m, k⟩)) ∧ Below w.heap.size w w' := by
  cases h1 : inB m 1 20
  · have E := Lib.hid (show tsOK ⟨m, k⟩ = false by simp [tsOK, h1])
    go_enter Try.func57, Try.ntmps57
    go_wp2_with (first | (go_at_call 42; refine (isMotion_any _ _).mono ?_; rintro e w' ⟨rfl, rfl⟩) | (go_at_call 58; refine (inside_any _ _ _ _).mono ?_; rintro e w' ⟨rfl, rfl⟩))
    go_ret
    exact ⟨ret_bool (by rw [E.out]; rfl), below_alloc _⟩
  · have E := Lib.hid (show tsOK ⟨m, k⟩ = inB k 1 7 by simp [tsOK, h1])
    go_enter Try.func57, Try.ntmps57
    go_wp2_with (first | (go_at_call 42; refine (isMotion_any _ _).mono ?_; rintro e w' ⟨rfl, rfl⟩) | (go_at_call 58; refine (inside_any _ _ _ _).mono ?_; rintro e w' ⟨rfl, rfl⟩))
    go_ret
    exact ⟨ret_bool (by rw [E.out]), below_alloc _⟩

set_option maxHeartbeats 400000 in
theorem IndexBad_any (A : Option Addr) (n c : Nat) (l : List TS) (w : World) (ha : Rd tsV 2 w A n c l) :
    Calls Try.prog 75 #[.slice A n c, .func (.func 57) #[] #[]] w fun e w' => (∃ r : Int, e = .returned (.int .i64 r) ∧ decide (0 ≤ r) = !l.all tsOK) ∧ Below w.heap.size w w' := by
  have hm := ha.le
  have hlen := ha.len
  have HL := Lib.hid hlen
  clear hlen
  go_enter Try.func75, Try.ntmps75
  go_wp2
  go_loopw [8] (fun i wr => ∃ k : Nat, k ≤ n ∧ i = .int .i64 k ∧ Below w.heap.size w wr ∧ ∀ j x, j < k → l[j]? = some x → tsOK x = true) (fun i _ => n - (intOf i).toNat)
  case atStart => exact ⟨0, Nat.zero_le _, rfl, Below.refl _ _, fun j x hj => absurd hj (by omega)⟩
  case round =>
    obtain ⟨k, hk, rfl, hbw, hup⟩ := hrel
    have HU := Lib.hid hup
    clear hup
    by_cases hlt : k < n
    · obtain ⟨b1, o1, s, rfl, hs, c0, c1⟩ := (ha.below hbw).ts hlt
      have HS := Lib.hid hs
      clear hs ha
      cases h1 : tsOK s
      · have E := Lib.hid (show l.all tsOK = false from all_fails HS.out h1)
        have h1' : (!tsOK ⟨s.m, s.k⟩) = true := by simpa using h1
        clear h1
        go_wp2_with fail
        refine (badStep_any _ _ _).mono ?_
        rintro e w2 ⟨rfl, hb2⟩
        go_wp2
        go_ret
        exact ⟨⟨_, rfl, by rw [E.out]; simp⟩, below_trans hbw hb2⟩
      · have h1' : (!tsOK ⟨s.m, s.k⟩) = false := by simpa using h1
        have HN : Hid (∀ j x, j < k + 1 → l[j]? = some x → tsOK x = true) := fun j x hj hx => by
            by_cases e : j = k
            · subst e; rw [HS.out] at hx; injection hx with hx; rw [← hx]; exact h1
            · exact HU.out j x (by omega) hx
        clear h1
        go_wp2_with fail
        refine (badStep_any _ _ _).mono ?_
        rintro e w2 ⟨rfl, hb2⟩
        go_wp2
        go_roundw
        case rel => exact ⟨k + 1, by omega, by go_num, below_trans hbw hb2, HN.out⟩
        case measure => simp [intOf]; omega
    · obtain rfl : k = n := by omega
      have E := Lib.hid (all_upto HL.out HU.out)
      clear ha
      go_wp2
      go_ret
      exact ⟨⟨_, rfl, by rw [E.out]; simp⟩, hbw⟩

theorem ContainsBad_any (A : Option Addr) (n c : Nat) (l : List TS) (w : World) (ha : Rd tsV 2 w A n c l) :
    Calls Try.prog 56 #[.slice A n c, .func (.func 57) #[] #[]] w fun e w' => e = .returned (.bool (!l.all tsOK)) ∧ Below w.heap.size w w' := by
  go_enter Try.func56, Try.ntmps56
  go_wp2_with fail
  refine (IndexBad_any _ _ _ _ _ ha).mono ?_
  rintro e w2 ⟨⟨r, rfl, hr⟩, hb2⟩
  have HR := Lib.hid hr
  clear hr
  go_wp2
  go_ret
  exact ⟨ret_bool HR.out, hb2⟩

theorem implIsTraceList_any (A : Option Addr) (n c : Nat) (l : List TS) (w : World) (ha : Rd tsV 2 w A n c l) :
    Calls Try.prog 41 #[.slice A n c] w fun e w' => e = .returned (.bool (goodL l)) ∧ Below w.heap.size w w' := by
  by_cases hn : (n : Int) ≤ 24
  · have E := Lib.hid (show (!!l.all tsOK) = goodL l by simp [goodL, ha.len]; intro; omega)
    go_enter Try.func41, Try.ntmps41
    go_wp2_with fail
    refine (ContainsBad_any _ _ _ _ _ ha).mono ?_
    rintro e w2 ⟨rfl, hb2⟩
    go_wp2
    go_ret
    exact ⟨ret_bool (by simpa using E.out), hb2⟩
  · have E := Lib.hid (show goodL l = false by simp [goodL, ha.len]; intro; omega)
    go_enter Try.func41, Try.ntmps41
    go_wp2
    go_ret
    exact ⟨ret_bool E.out.symm, Below.refl _ _⟩

end Go.Proofs.Ytmmogpbbehgkiaa
