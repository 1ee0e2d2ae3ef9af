/- FnExactWorkingDaysBetween: for every int argument the program and the reference return the same. No condition. (The frame of this text was written by the kit program proof-skeleton.mjs.)
  THE SHELL OF A PROOF OF 'Rows.FnExactWorkingDaysBetweenSaid' ('loop.example/g00909/laws.FnExactWorkingDaysBetween'), WRITTEN BY PROGRAM (proof-skeleton.mjs) off the guide's own print for that function. Not trusted: Lean checks it.
  YOURS ARE THE HOLES MARKED 'HOLE' (each bears 'sorry'). ALL ELSE IS THE GUIDE's TEMPLATE (howto/template/XProofs.lean) at this function's number and types: leave it.
-/
import Derived.Test.YtgjadejckebonaaRows
import Derived.WalkKit
import Derived.ProofKit
import Derived.OpenShut
import Derived.Lib.Hide
import Derived.Outline
import Derived.WalkLawsBesides
import Derived.WalkSpells
namespace Go.Proofs.Ytgjadejckebonaa.fnExactWorkingDaysBetween
open Go.ChangeShapes Go.WideShapes Go.ChangeAt Go.RowKit
set_option linter.unusedVariables false      -- a walk need not use every 'w<i>' (that an integer argument fits its kind)

theorem own : ownKnob Try.prog.godebug = none := by kernel_rfl


/-- How many of the days behind f, up to f + n, are working days. -/
def cnt (f : Int) : Nat → Int
  | 0 => 0
  | n + 1 => cnt f n + (if (f + n + 1) % 7 < 5 then 1 else 0)

theorem cnt_bd (f : Int) (n : Nat) : 0 ≤ cnt f n ∧ cnt f n ≤ n := by
  induction n with
  | zero => simp [cnt]
  | succ n ih => unfold cnt; split <;> omega

def okB (a b : Int) : Bool := decide (0 ≤ a ∧ a ≤ 3650 ∧ 0 ≤ b ∧ b ≤ 3650 ∧ a ≤ b)
def resN (a b : Int) : Int := if okB a b then cnt a (b - a).toNat else 0

theorem ret_two {a c : Int} {b d : Bool} (h : a = c) (h' : b = d) : Ending.returned (.tuple #[.int .i64 a, .bool b]) = .returned (.tuple #[.int .i64 c, .bool d]) := by rw [h, h']


set_option maxHeartbeats 400000 in
theorem specWD (a b : Int) (w : World) (l0 : -9223372036854775808 ≤ a) (u0 : a ≤ 9223372036854775807) (l1 : -9223372036854775808 ≤ b) (u1 : b ≤ 9223372036854775807) :
    Calls Try.prog 10 #[.int .i64 a, .int .i64 b] w fun e w' => e = .returned (.tuple #[.int .i64 (resN a b), .bool (okB a b)]) ∧ w = w' := by
  have hc : a < 0 ∨ 3650 < a ∨ ((0 ≤ a ∧ a ≤ 3650) ∧ (b < 0 ∨ 3650 < b ∨ ((0 ≤ b ∧ b ≤ 3650) ∧ (b < a ∨ a ≤ b)))) := by omega
  rcases hc with h | h | ⟨⟨h0, h1⟩, h | h | ⟨⟨h2, h3⟩, h | h⟩⟩
  iterate 5
    · have ho : okB a b = false := by simp [okB]; omega
      have hr : resN a b = 0 := by simp [resN, ho]
      rw [ho, hr]
      clear ho hr
      go_enter Try.func10, Try.ntmps10
      go_wp2
      go_ret2
      exact ⟨rfl, rfl⟩
  · have ho : okB a b = true := by simp [okB]; omega
    have hr : resN a b = cnt a (b - a).toNat := by simp [resN, ho]
    rw [ho, hr]
    clear ho hr
    go_enter Try.func10, Try.ntmps10
    go_wp2
    go_loop [6, 7] (fun n d => ∃ k : Nat, a + k ≤ b ∧ d = .int .i64 (a + k + 1) ∧ n = .int .i64 (cnt a k)) (fun _ d => (b + 1 - intOf d).toNat)
    case atStart => exact ⟨0, by omega, by simp, rfl⟩
    case round =>
      obtain ⟨k, hk, rfl, rfl⟩ := hrel
      obtain ⟨hcl, hcu⟩ := cnt_bd a k
      have hkk : (k : Int) ≤ 3650 := by omega
      by_cases hlt : a + k + 1 ≤ b
      · have hs : cnt a (k + 1) = cnt a k + (if (a + k + 1) % 7 < 5 then 1 else 0) := rfl
        have HS := Lib.hid hs
        clear hs
        go_wp2
        all_goals
          go_round
          case rel => exact ⟨k + 1, by omega, by go_num, by rw [HS.out]; first | rw [if_pos (by assumption)] | (rw [if_neg (by omega)]; go_num)⟩
          case measure => simp [intOf]; omega
      · have e : (b - a).toNat = k := by omega
        have E := Lib.hid e
        clear e
        go_wp2
        go_ret2
        exact ⟨ret_two (by rw [E.out]) rfl, rfl⟩

set_option maxHeartbeats 400000 in
theorem implWD (a b : Int) (w : World) (l0 : -9223372036854775808 ≤ a) (u0 : a ≤ 9223372036854775807) (l1 : -9223372036854775808 ≤ b) (u1 : b ≤ 9223372036854775807) :
    Calls Try.prog 11 #[.int .i64 a, .int .i64 b] w fun e w' => e = .returned (.tuple #[.int .i64 (resN a b), .bool (okB a b)]) ∧ w = w' := by
  have hc : a < 0 ∨ 3650 < a ∨ ((0 ≤ a ∧ a ≤ 3650) ∧ (b < 0 ∨ 3650 < b ∨ ((0 ≤ b ∧ b ≤ 3650) ∧ (b < a ∨ a ≤ b)))) := by omega
  rcases hc with h | h | ⟨⟨h0, h1⟩, h | h | ⟨⟨h2, h3⟩, h | h⟩⟩
  iterate 5
    · have ho : okB a b = false := by simp [okB]; omega
      have hr : resN a b = 0 := by simp [resN, ho]
      rw [ho, hr]
      clear ho hr
      go_enter Try.func11, Try.ntmps11
      go_wp2
      go_ret2
      exact ⟨rfl, rfl⟩
  · have ho : okB a b = true := by simp [okB]; omega
    have hr : resN a b = cnt a (b - a).toNat := by simp [resN, ho]
    rw [ho, hr]
    clear ho hr
    go_enter Try.func11, Try.ntmps11
    go_wp2
    go_loop [6, 7] (fun n d => ∃ k : Nat, a + k ≤ b ∧ d = .int .i64 (a + k + 1) ∧ n = .int .i64 (cnt a k)) (fun _ d => (b + 1 - intOf d).toNat)
    case atStart => exact ⟨0, by omega, by simp, rfl⟩
    case round =>
      obtain ⟨k, hk, rfl, rfl⟩ := hrel
      obtain ⟨hcl, hcu⟩ := cnt_bd a k
      have hkk : (k : Int) ≤ 3650 := by omega
      by_cases hlt : a + k + 1 ≤ b
      · have hs : cnt a (k + 1) = cnt a k + (if (a + k + 1) % 7 < 5 then 1 else 0) := rfl
        have HS := Lib.hid hs
        clear hs
        go_wp2
        all_goals
          go_round
          case rel => exact ⟨k + 1, by omega, by go_num, by rw [HS.out]; first | rw [if_pos (by assumption)] | (rw [if_neg (by omega)]; go_num)⟩
          case measure => simp [intOf]; omega
      · have e : (b - a).toNat = k := by omega
        have E := Lib.hid e
        clear e
        go_wp2
        go_ret2
        exact ⟨ret_two (by rw [E.out]) rfl, rfl⟩

/-! ### STEP 1: THE WALK: the Go text returns true. 'Grown w w'': the world has at most new blocks (Derived/RowKit3.lean). Part the cases AHEAD of 'go_enter' where a test parts the walk; take each callee by a contract of your own. -/
theorem walk (a0 : Int) (a1 : Int) (w0 : (Lit.int .i64 a0).wf = true) (w1 : (Lit.int .i64 a1).wf = true) (w : World) :
    Calls Try.prog 5 #[.int .i64 a0, .int .i64 a1] w fun e w' => e = .returned (.bool true) ∧ Grown w w' := by
  have hb : -9223372036854775808 ≤ a0 ∧ a0 ≤ 9223372036854775807 := by simpa [Lit.wf, IntKind.min, IntKind.max, IntKind.signed, IntKind.bits] using w0
  have hb1 : -9223372036854775808 ≤ a1 ∧ a1 ≤ 9223372036854775807 := by simpa [Lit.wf, IntKind.min, IntKind.max, IntKind.signed, IntKind.bits] using w1
  clear w0 w1
  obtain ⟨l0, u0⟩ := hb
  obtain ⟨l1, u1⟩ := hb1
  go_enter Try.func5, Try.ntmps5
  go_wp2_with (first | (go_at_call 10; refine (specWD _ _ _ l0 u0 l1 u1).mono ?_; rintro e w' ⟨rfl, rfl⟩) | (go_at_call 11; refine (implWD _ _ _ l0 u0 l1 u1).mono ?_; rintro e w' ⟨rfl, rfl⟩))
  all_goals go_ret
  all_goals exact ⟨rfl, by repeat (first | exact Grown.refl _ | apply Grown.drew | apply Grown.alloc)⟩

/-! ### THE ROW's STEP: WRITTEN OUT: LEAVE IT -/
set_option maxRecDepth 100000 in
theorem lifted (os : Os) (started : os.Started) (H : Type) (enc : TypeId × Value → H) :
    ReturnsInHanded {} Try.checked os 5 .any (Rows.fnExactWorkingDaysBetweenSpec.pre6 enc Try.prog Try.f5 Rows.fnExactWorkingDaysBetweenRow.domain false) (Rows.fnExactWorkingDaysBetweenSpec.post enc Try.prog Try.f5 false true false false) := by
  refine returnsInHanded_of_change (C := Try.checked) own started (by kernel_rfl) Try.func5
    (ChangeSpec.witness6 (enc := enc) (C := Try.checked) false ⟨#[], #[.int .i64 0, .int .i64 0], []⟩ 8 (by kernel_rfl) (by kernel_rfl) (by kernel_rfl) (by kernel_rfl)) ?_
  intro W base args ds gs before hval0 hW hcnd _
  have hval : ∀ (j : Nat) t v, Try.f5.params[j]? = some t → args[j]? = some v → Value.okWide Try.prog W .any base t v := hval0
  have hW' := hW
  obtain ⟨p, q, hA0, hV, rfl, hfz, hnd⟩ := hW
  have hA : DataW.TrodAll enc Try.prog W 0 (fun _ => true) true Try.f5.params.toList args.toList ds p := hA0
  rw [Try.params5] at hA hval
  obtain ⟨v0, vs0, d0, ds0, p0, q0, hargs, rfl, rfl, h0, r0⟩ := trodAll_cons hA
  obtain ⟨v1, vs1, d1, ds1, p1, q1, rfl, rfl, rfl, h1, r1⟩ := trodAll_cons r0
  obtain ⟨rfl, rfl, rfl⟩ := trodAll_nil r1
  obtain rfl : args = #[v0, v1] := by cases args; simp_all
  obtain ⟨rfl, rfl⟩ := trodVars_none hV
  obtain ⟨a0, rfl, rfl, rfl, w0⟩ := open_int Try.underlying3 (hval 0 3 v0 rfl rfl) h0
  obtain ⟨a1, rfl, rfl, rfl, w1⟩ := open_int Try.underlying3 (hval 1 3 v1 rfl rfl) h1
  clear hA0 hval0
  simp only [List.append_nil] at hW'
  refine (walk a0 a1 w0 w1 W).mono fun e W' ⟨he, hg⟩ => ?_
  subst he
  exact ⟨_, rfl, post_of_same (pa := []) (pv := []) hW' (fun _ _ _ => (trodAll_cons_mk (shut_bool Try.underlying4 _) trodAll_mk0)) (fun sp _ => (trodAll_cons_mk (shut_int Try.underlying3 w0) (trodAll_cons_mk (shut_int Try.underlying3 w1) trodAll_mk0))) (fun _ _ => rfl) rfl
    (hg.frame _) hg.2.1 (ok_one (by kernel_rfl) rfl (okWide_bool_mk Try.underlying4 _))⟩

theorem over : Rows.fnExactWorkingDaysBetweenRow.holds Try.pinned (OpenSpec.ofChange Rows.fnExactWorkingDaysBetweenSpec) :=
  OpenClaim.holds_of_wide 5 Try.f5 rfl rfl rfl rfl rfl rfl rfl ⟨rfl, rfl, rfl, rfl, rfl⟩ rfl rfl rfl rfl rfl (by kernel_rfl) Try.func5 (by kernel_rfl)
    (of_decide_eq_true (by kernel_rfl)) (by unfold Func.isWrapper; first | (rw [if_pos (by decide +kernel)]; kernel_rfl) | (rw [if_neg (by decide +kernel)]; exact ⟨rfl, rfl⟩))
    (fun os started H enc _ => lifted os started H enc)

/-- ████ THE STATEMENT ████ -/
theorem proved : Rows.FnExactWorkingDaysBetweenSaid :=
  over
#print axioms proved
end Go.Proofs.Ytgjadejckebonaa.fnExactWorkingDaysBetween
