/-
  YtcockjjilcapaaaGreatDoorBalA: ballots: which ballots and boxes are valid, by contracts. (Printed by wip/gen/bala.py.)
-/
import Derived.Test.YtcockjjilcapaaaGreatDoorWord
import Derived.Test.YtcockjjilcapaaaGreatDoorColl
namespace Go.Proofs.YtcockjjilcapaaaGreatDoor
open Go Go.RowKit Go.Sort
set_option linter.unusedVariables false

theorem Tryz.infoSt' : (Tryz.prog.info? 9).map (fun i => (i.zero, i.size, i.bytes)) = some (some (.string ByteArray.empty), 1, 16) := by kernel_rfl
theorem Tryz.infoIn' : (Tryz.prog.info? 3).map (fun i => (i.zero, i.size, i.bytes)) = some (some (.int .i64 0), 1, 8) := by kernel_rfl
def BaSz (x : BA) : Prop := x.ch.size ≤ maxLen
/-- A valid ballot. -/
def bOK (x : BA) : Bool := inB x.code 1 9999 && (x.ch.toList.isEmpty || wordB x.ch)
/-- A valid box. -/
def boxB (l : List BA) : Bool := l.all bOK && decide (l.length ≤ 12)
theorem box_len {l : List BA} (h : boxB l = true) : l.length ≤ 12 := by unfold boxB at h; rw [Bool.and_eq_true] at h; exact of_decide_eq_true h.2


theorem isCode_any (c : Int) (w : World) : Calls Tryz.prog 36 #[.int .i64 c] w fun e w' => e = .returned (.bool (inB c 1 9999)) ∧ w = w' := by
  go_enter Tryz.func36, Tryz.ntmps36
  go_wp2_with fail
  refine (inside_any _ _ _ _).mono ?_
  rintro e w1 ⟨rfl, rfl⟩
  go_wp2
  go_ret
  exact ⟨rfl, rfl⟩


set_option maxRecDepth 100000 in
theorem isBallot_any (x : BA) (w : World) (h : BaSz x) : Calls Tryz.prog 16 #[.agg #[.int .i64 x.code, .string x.ch]] w fun e w' => e = .returned (.bool (bOK x)) ∧ Below w.heap.size w w' := by
  obtain ⟨code, ch⟩ := x
  go_enter Tryz.func16, Tryz.ntmps16
  go_wp2_with (first
    | (go_at_call 36; refine (isCode_any _ _).mono ?_; rintro e w1 ⟨rfl, rfl⟩)
    | (go_at_call 37; refine (isWord_any _ _ h).mono ?_; rintro e w1 ⟨rfl, rfl⟩))
  all_goals go_ret
  all_goals exact ⟨ret_bool (by simp_all [bOK]), below_alloc _⟩


set_option maxRecDepth 100000 in
theorem l20One_any (x : BA) (w : World) (h : BaSz x) : Calls Tryz.prog 18 #[.agg #[.int .i64 x.code, .string x.ch]] w fun e w' => e = .returned (.bool (bOK x)) ∧ Below w.heap.size w w' := by
  obtain ⟨code, ch⟩ := x
  go_enter Tryz.func18, Tryz.ntmps18
  go_wp2_with (first
    | (go_at_call 41; refine (l1In_any _ _ _ _).mono ?_; rintro e w1 ⟨rfl, rfl⟩)
    | (go_at_call 42; refine (l2Word_any _ _ h).mono ?_; rintro e w1 ⟨rfl, rfl⟩))
  all_goals go_ret
  all_goals exact ⟨ret_bool (by simp_all [bOK]), below_alloc _⟩


set_option maxRecDepth 100000 in
theorem badBallot_any (x : BA) (w : World) (h : BaSz x) : Calls Tryz.prog 79 #[.agg #[.int .i64 x.code, .string x.ch]] w fun e w' => e = .returned (.bool (!bOK x)) ∧ Below w.heap.size w w' := by
  go_enter Tryz.func79, Tryz.ntmps79
  go_wp2_with fail
  refine (isBallot_any x _ h).mono ?_
  rintro e w1 ⟨rfl, b1⟩
  go_wp2
  go_ret
  exact ⟨rfl, below_trans (below_alloc _) b1⟩


set_option maxRecDepth 100000 in
set_option maxHeartbeats 1000000 in
theorem IndexBad_any (A : Option Addr) (n c : Nat) (l : List BA) (w : World) (ha : Rd baV 2 w A n c l) (hg : ∀ x ∈ l, BaSz x) :
    Calls Tryz.prog 97 #[.slice A n c, .func (.func 79) #[] #[]] w fun e w' => (∃ r : Int, e = .returned (.int .i64 r) ∧ decide (0 ≤ r) = !l.all bOK) ∧ Below w.heap.size w w' := by
  have hm := ha.le
  have HL := Lib.hid ha.len
  go_enter Tryz.func97, Tryz.ntmps97
  go_wp2
  go_loopw [8] (fun i wr => ∃ k : Nat, k ≤ n ∧ i = .int .i64 k ∧ (∀ j x, j < k → l[j]? = some x → bOK x = true) ∧ Below w.heap.size w wr) (fun i _ => n - (intOf i).toNat)
  case atStart => exact ⟨0, Nat.zero_le _, rfl, fun j x hj => absurd hj (by omega), Below.refl _ _⟩
  case round =>
    obtain ⟨k, hk, rfl, hup, hbw⟩ := hrel
    have HU := Lib.hid hup
    clear hup
    by_cases hlt : k < n
    · obtain ⟨b1, o1, x, rfl, hs, c0, c1⟩ := (ha.below hbw).ba hlt
      have HS := Lib.hid hs
      have hgx := hg x (List.mem_of_getElem? hs)
      clear hs ha
      go_wp2_with fail
      refine (badBallot_any x _ hgx).mono ?_
      rintro e w2 ⟨rfl, b2⟩
      have t2 := below_trans hbw b2
      cases h1 : bOK x
      · have E := Lib.hid (show l.all bOK = false from all_fails HS.out h1)
        go_wp2
        go_ret
        exact ⟨⟨_, rfl, by rw [E.out]; simp⟩, t2⟩
      · have HN : Hid (∀ j x, j < k + 1 → l[j]? = some x → bOK x = true) := fun j y hj hy => by
          by_cases e : j = k
          · subst e; rw [HS.out] at hy; injection hy with hy; rw [← hy]; exact h1
          · exact HU.out j y (by omega) hy
        go_wp2
        go_roundw
        case rel => exact ⟨k + 1, by omega, by go_num, HN.out, t2⟩
        case measure => simp [intOf]; omega
    · obtain rfl : k = n := by omega
      have E := Lib.hid (all_upto HL.out HU.out)
      clear ha
      go_wp2
      go_ret
      exact ⟨⟨_, rfl, by rw [E.out]; simp⟩, hbw⟩

set_option maxRecDepth 100000 in
theorem ContainsBad_any (A : Option Addr) (n c : Nat) (l : List BA) (w : World) (ha : Rd baV 2 w A n c l) (hg : ∀ x ∈ l, BaSz x) :
    Calls Tryz.prog 78 #[.slice A n c, .func (.func 79) #[] #[]] w fun e w' => e = .returned (.bool (!l.all bOK)) ∧ Below w.heap.size w w' := by
  go_enter Tryz.func78, Tryz.ntmps78
  go_wp2_with fail
  refine (IndexBad_any _ _ _ _ _ ha hg).mono ?_
  rintro e w2 ⟨⟨r, rfl, hr⟩, b2⟩
  have HR := Lib.hid hr
  clear hr
  go_wp2
  go_ret
  exact ⟨ret_bool HR.out, b2⟩


set_option maxRecDepth 100000 in
theorem IsBox_any (A : Option Addr) (n c : Nat) (l : List BA) (w : World) (ha : Rd baV 2 w A n c l) (hg : ∀ x ∈ l, BaSz x) :
    Calls Tryz.prog 51 #[.slice A n c] w fun e w' => e = .returned (.bool (boxB l)) ∧ Below w.heap.size w w' := by
  have hm := ha.le
  by_cases hn : (n : Int) ≤ 12
  · have E := Lib.hid (show (!!l.all bOK) = boxB l by simp [boxB, ha.len]; intro; omega)
    go_enter Tryz.func51, Tryz.ntmps51
    go_wp2_with fail
    refine (ContainsBad_any _ _ _ _ _ ha hg).mono ?_
    rintro e w2 ⟨rfl, b2⟩
    go_wp2
    go_ret
    exact ⟨ret_bool (by simpa using E.out), b2⟩
  · have E := Lib.hid (show boxB l = false by simp [boxB, ha.len]; intro; omega)
    clear ha
    go_enter Tryz.func51, Tryz.ntmps51
    go_wp2
    go_ret
    exact ⟨ret_bool E.out.symm, Below.refl _ _⟩

set_option maxRecDepth 100000 in
set_option maxHeartbeats 1000000 in
theorem l20Box_any (A : Option Addr) (n c : Nat) (l : List BA) (w : World) (ha : Rd baV 2 w A n c l) (hg : ∀ x ∈ l, BaSz x) :
    Calls Tryz.prog 55 #[.slice A n c] w fun e w' => e = .returned (.bool (boxB l)) ∧ Below w.heap.size w w' := by
  have hm := ha.le
  have HL := Lib.hid ha.len
  go_enter Tryz.func55, Tryz.ntmps55
  go_wp2
  go_loopw [3] (fun i wr => ∃ k : Nat, k ≤ n ∧ i = .int .i64 k ∧ (∀ j x, j < k → l[j]? = some x → bOK x = true) ∧ Below w.heap.size w wr) (fun i _ => n - (intOf i).toNat)
  case atStart => exact ⟨0, Nat.zero_le _, rfl, fun j x hj => absurd hj (by omega), Below.refl _ _⟩
  case round =>
    obtain ⟨k, hk, rfl, hup, hbw⟩ := hrel
    have HU := Lib.hid hup
    clear hup
    by_cases hlt : k < n
    · obtain ⟨b1, o1, x, rfl, hs, c0, c1⟩ := (ha.below hbw).ba hlt
      have HS := Lib.hid hs
      have hgx := hg x (List.mem_of_getElem? hs)
      clear hs ha
      go_wp2_with fail
      refine (l20One_any x _ hgx).mono ?_
      rintro e w2 ⟨rfl, b2⟩
      have t2 := below_trans hbw b2
      cases h1 : bOK x
      · have E := Lib.hid (show boxB l = false by unfold boxB; rw [all_fails HS.out h1]; rfl)
        go_wp2
        go_ret
        exact ⟨ret_bool E.out.symm, t2⟩
      · have HN : Hid (∀ j x, j < k + 1 → l[j]? = some x → bOK x = true) := fun j y hj hy => by
          by_cases e : j = k
          · subst e; rw [HS.out] at hy; injection hy with hy; rw [← hy]; exact h1
          · exact HU.out j y (by omega) hy
        go_wp2
        go_roundw
        case rel => exact ⟨k + 1, by omega, by go_num, HN.out, t2⟩
        case measure => simp [intOf]; omega
    · obtain rfl : k = n := by omega
      have E := Lib.hid (show boxB l = decide ((k : Int) ≤ 12) by unfold boxB; rw [all_upto HL.out HU.out, HL.out]; simp; omega)
      clear ha
      go_wp2
      go_ret
      exact ⟨ret_bool E.out.symm, hbw⟩


end Go.Proofs.YtcockjjilcapaaaGreatDoor
