/-
  YthphjncgbaknnaaGreatDoorMinL: minutes: which lists of entries are minutes, both sides. (Printed by wip/gen/minb.py.)
-/
import Derived.Test.YthphjncgbaknnaaGreatDoorMinA
import Derived.Deep.DeepCutAuto
namespace Go.Proofs.YthphjncgbaknnaaGreatDoor
open Go Go.RowKit Go.Sort
set_option linter.unusedVariables false

/-- Entries whose texts are not too long for the model. -/
def EnSz (x : EN) : Prop := x.who.size ≤ maxLen ∧ x.mo.size ≤ maxLen
/-- A list that is minutes. -/
def minB (l : List EN) : Bool := l.all enOK && decide (l.length ≤ 20)
theorem min_len {l : List EN} (h : minB l = true) : l.length ≤ 20 := by unfold minB at h; rw [Bool.and_eq_true] at h; exact of_decide_eq_true h.2


set_option maxRecDepth 100000 in
set_option maxHeartbeats 1000000 in
theorem badEntry_any (x : EN) (w : World) (h : EnSz x) : Calls Tryz.prog 56 #[.agg #[.int .i64 x.kind, .string x.who, .string x.mo, .int .i64 x.yes, .int .i64 x.no, .int .i64 x.ab, .bool x.pa]] w fun e w' => e = .returned (.bool (!enOK x)) ∧ Below w.heap.size w w' := by
  go_enter Tryz.func56, Tryz.ntmps56
  go_wp2_with fail
  refine (implEntry_any x _ h.1 h.2).mono ?_
  rintro e w1 ⟨rfl, b1⟩
  go_wp2
  go_ret
  exact ⟨rfl, below_trans (below_alloc _) b1⟩


set_option maxRecDepth 100000 in
set_option maxHeartbeats 1000000 in
theorem IndexBad_any (A : Option Addr) (n c : Nat) (l : List EN) (w : World) (ha : Rd enV 7 w A n c l) (hg : ∀ x ∈ l, EnSz x) :
    Calls Tryz.prog 66 #[.slice A n c, .func (.func 56) #[] #[]] w fun e w' => (∃ r : Int, e = .returned (.int .i64 r) ∧ decide (0 ≤ r) = !l.all enOK) ∧ Below w.heap.size w w' := by
  have hm := ha.le
  have HL := Lib.hid ha.len
  go_enter Tryz.func66, Tryz.ntmps66
  go_wp2
  go_loopw [8] (fun i wr => ∃ k : Nat, k ≤ n ∧ i = .int .i64 k ∧ (∀ j x, j < k → l[j]? = some x → enOK x = true) ∧ Below w.heap.size w wr) (fun i _ => n - (intOf i).toNat)
  case atStart => exact ⟨0, Nat.zero_le _, rfl, fun j x hj => absurd hj (by omega), Below.refl _ _⟩
  case round =>
    obtain ⟨k, hk, rfl, hup, hbw⟩ := hrel
    have HU := Lib.hid hup
    clear hup
    by_cases hlt : k < n
    · obtain ⟨b1, o1, x, rfl, hs, c0, c1, c2, c3, c4, c5, c6⟩ := (ha.below hbw).en hlt
      have HS := Lib.hid hs
      have hgx := (hg x (List.mem_of_getElem? hs))
      clear hs ha
      go_wp2_with fail
      refine (badEntry_any x _ hgx).mono ?_
      rintro e w2 ⟨rfl, b2⟩
      have t2 := below_trans hbw b2
      cases h1 : enOK x
      · have E := Lib.hid (show l.all enOK = false from all_fails HS.out h1)
        go_wp2
        go_ret
        exact ⟨⟨_, rfl, by rw [E.out]; simp⟩, t2⟩
      · have HN : Hid (∀ j x, j < k + 1 → l[j]? = some x → enOK x = true) := fun j y hj hy => by
          by_cases e : j = k
          · subst e; rw [HS.out] at hy; injection hy with hy; rw [← hy]; exact h1
          · exact HU.out j y (by omega) hy
        go_wp2
        go_roundw
        case rel => exact ⟨k + 1, by omega, by go_num, HN.out, t2⟩
        case measure => simp [intOf]; omega
    · obtain rfl : k = n := by omega
      have E := Lib.hid (all_upto HL.out HU.out)
      clear ha
      go_wp2
      go_ret
      exact ⟨⟨_, rfl, by rw [E.out]; simp⟩, hbw⟩

set_option maxRecDepth 100000 in
theorem ContainsBad_any (A : Option Addr) (n c : Nat) (l : List EN) (w : World) (ha : Rd enV 7 w A n c l) (hg : ∀ x ∈ l, EnSz x) :
    Calls Tryz.prog 55 #[.slice A n c, .func (.func 56) #[] #[]] w fun e w' => e = .returned (.bool (!l.all enOK)) ∧ Below w.heap.size w w' := by
  go_enter Tryz.func55, Tryz.ntmps55
  go_wp2_with fail
  refine (IndexBad_any _ _ _ _ _ ha hg).mono ?_
  rintro e w2 ⟨⟨r, rfl, hr⟩, b2⟩
  have HR := Lib.hid hr
  clear hr
  go_wp2
  go_ret
  exact ⟨ret_bool HR.out, b2⟩


set_option maxRecDepth 100000 in
theorem isMinutes_any (A : Option Addr) (n c : Nat) (l : List EN) (w : World) (ha : Rd enV 7 w A n c l) (hg : ∀ x ∈ l, EnSz x) :
    Calls Tryz.prog 31 #[.slice A n c] w fun e w' => e = .returned (.bool (minB l)) ∧ Below w.heap.size w w' := by
  have hm := ha.le
  by_cases hn : (n : Int) ≤ 20
  · have E := Lib.hid (show (!!l.all enOK) = minB l by simp [minB, ha.len]; intro; omega)
    go_enter Tryz.func31, Tryz.ntmps31
    go_wp2_with fail
    refine (ContainsBad_any _ _ _ _ _ ha hg).mono ?_
    rintro e w2 ⟨rfl, b2⟩
    go_wp2
    go_ret
    exact ⟨ret_bool (by simpa using E.out), b2⟩
  · have E := Lib.hid (show minB l = false by simp [minB, ha.len]; intro; omega)
    clear ha
    go_enter Tryz.func31, Tryz.ntmps31
    go_wp2
    go_ret
    exact ⟨ret_bool E.out.symm, Below.refl _ _⟩

set_option maxRecDepth 100000 in
set_option maxHeartbeats 1000000 in
theorem l21Good_any (A : Option Addr) (n c : Nat) (l : List EN) (w : World) (ha : Rd enV 7 w A n c l) (hg : ∀ x ∈ l, EnSz x) :
    Calls Tryz.prog 33 #[.slice A n c] w fun e w' => e = .returned (.bool (minB l)) ∧ Below w.heap.size w w' := by
  have hm := ha.le
  have HL := Lib.hid ha.len
  go_enter Tryz.func33, Tryz.ntmps33
  go_wp2
  go_loopw [3] (fun i wr => ∃ k : Nat, k ≤ n ∧ i = .int .i64 k ∧ (∀ j x, j < k → l[j]? = some x → enOK x = true) ∧ Below w.heap.size w wr) (fun i _ => n - (intOf i).toNat)
  case atStart => exact ⟨0, Nat.zero_le _, rfl, fun j x hj => absurd hj (by omega), Below.refl _ _⟩
  case round =>
    obtain ⟨k, hk, rfl, hup, hbw⟩ := hrel
    have HU := Lib.hid hup
    clear hup
    by_cases hlt : k < n
    · obtain ⟨b1, o1, x, rfl, hs, c0, c1, c2, c3, c4, c5, c6⟩ := (ha.below hbw).en hlt
      have HS := Lib.hid hs
      have hgx := hg x (List.mem_of_getElem? hs)
      clear hs ha
      go_wp2_with fail
      refine (l21One_any x _ hgx.1 hgx.2).mono ?_
      rintro e w2 ⟨rfl, b2⟩
      have t2 := below_trans hbw b2
      cases h1 : enOK x
      · have E := Lib.hid (show minB l = false by unfold minB; rw [all_fails HS.out h1]; rfl)
        go_wp2
        go_ret
        exact ⟨ret_bool E.out.symm, t2⟩
      · have HN : Hid (∀ j x, j < k + 1 → l[j]? = some x → enOK x = true) := fun j y hj hy => by
          by_cases e : j = k
          · subst e; rw [HS.out] at hy; injection hy with hy; rw [← hy]; exact h1
          · exact HU.out j y (by omega) hy
        go_wp2
        go_roundw
        case rel => exact ⟨k + 1, by omega, by go_num, HN.out, t2⟩
        case measure => simp [intOf]; omega
    · obtain rfl : k = n := by omega
      have E := Lib.hid (show minB l = decide ((k : Int) ≤ 20) by unfold minB; rw [all_upto HL.out HU.out, HL.out]; simp; omega)
      clear ha
      go_wp2
      go_ret
      exact ⟨ret_bool E.out.symm, hbw⟩


end Go.Proofs.YthphjncgbaknnaaGreatDoor
