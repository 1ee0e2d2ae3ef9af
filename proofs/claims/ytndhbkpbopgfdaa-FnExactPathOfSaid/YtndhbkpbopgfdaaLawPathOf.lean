/- FnExactPathOf: for every list of steps and every number of a motion the program's PathOf and the reference's return the same, and the list is left as it was. No condition.
-/
import Derived.Test.YtndhbkpbopgfdaaRead
import Derived.Test.YtndhbkpbopgfdaaTraC
namespace Go.Proofs.Ytndhbkpbopgfdaa.fnExactPathOf
open Go Go.ChangeShapes Go.WideShapes Go.ChangeAt Go.RowKit Go.Sort
open Go.ChangeMaps (open_string)
set_option linter.unusedVariables false

theorem own : ownKnob Try.prog.godebug = none := by kernel_rfl
theorem laidOut : laidOutB Try.prog = true := by kernel_rfl

set_option maxHeartbeats 1000000 in
theorem walk (A : Option Addr) (n c : Nat) (l : List TS) (m : Int) (w : World) (ha : Rd tsV 2 w A n c l) (hg : ∀ x ∈ l, tsGood x) (hm : in64 m) :
    Calls Try.prog 4 #[.slice A n c, .int .i64 m] w fun e w' => e = .returned (.bool true) ∧ Below w.heap.size w w' := by
  by_cases hs : (1048576 : Int) < n
  · go_enter Try.func4, Try.ntmps4
    go_wp2_with fail
    refine (szTraceStepS_no _ _ _ _ _ _ ha (by omega) (by omega) hs).mono ?_
    rintro e w1 ⟨rfl, rfl⟩
    go_wp2
    go_ret
    exact ⟨rfl, Below.refl _ _⟩
  · have hn : n ≤ 1048576 := by omega
    cases hc : (goodL l && inB m 1 20)
    · go_enter Try.func4, Try.ntmps4
      go_wp2_with fail
      refine (szTraceStepS_yes _ _ _ _ _ _ ha (by omega) (by omega) (by omega)).mono ?_
      rintro e wx ⟨rfl, rfl⟩
      go_wp2_with fail
      refine (toTraceStepS_any _ _ _ _ _ ha hn).mono ?_
      rintro e w1 ⟨B1, e1, rfl, o1, b1⟩
      go_wp2_with fail
      refine (specPathOf_no _ _ _ _ _ _ (o1.rd tsV_len) hc).mono ?_
      rintro e wx ⟨rfl, rfl⟩
      go_wp2_with fail
      refine (toTraceStepS_any _ _ _ _ _ (ha.below b1) hn).mono ?_
      rintro e w2 ⟨B2, e2, rfl, o2, b2⟩
      replace o1 := o1.below b2
      go_wp2_with fail
      refine (implPathOf_no _ _ _ _ _ _ (o2.rd tsV_len) hc).mono ?_
      rintro e w3 ⟨rfl, b3⟩
      replace o1 := o1.below b3
      replace o2 := o2.below b3
      go_wp2_with fail
      refine (toTraceStepS_any _ _ _ _ _ (ha.below (below_trans (below_trans b1 b2) b3)) hn).mono ?_
      rintro e w4 ⟨B3, e3, rfl, o3, b4⟩
      replace o1 := o1.below b4
      replace o2 := o2.below b4
      go_wp2_with fail
      refine (eqTraceStepS_same _ _ _ _ _ _ _ (o2.rd tsV_len) (o3.rd tsV_len)).mono ?_
      rintro e w5 ⟨rfl, b5⟩
      replace o1 := o1.below b5
      replace o2 := o2.below b5
      replace o3 := o3.below b5
      go_wp2
      go_ret
      exact ⟨rfl, (below_trans (below_trans (below_trans (below_trans b1 b2) b3) b4) b5)⟩
    · rw [Bool.and_eq_true] at hc
      go_enter Try.func4, Try.ntmps4
      go_wp2_with fail
      refine (szTraceStepS_yes _ _ _ _ _ _ ha (by omega) (by omega) (by omega)).mono ?_
      rintro e wx ⟨rfl, rfl⟩
      go_wp2_with fail
      refine (toTraceStepS_any _ _ _ _ _ ha hn).mono ?_
      rintro e w1 ⟨B1, e1, rfl, o1, b1⟩
      go_wp2_with fail
      refine (specPathOf_yes _ _ _ _ _ _ (o1.rd tsV_len) hc.1 hc.2).mono ?_
      rintro e wx ⟨rfl, rfl⟩
      go_wp2_with fail
      refine (toTraceStepS_any _ _ _ _ _ (ha.below b1) hn).mono ?_
      rintro e w2 ⟨B2, e2, rfl, o2, b2⟩
      replace o1 := o1.below b2
      go_wp2_with fail
      refine (implPathOf_yes _ _ _ _ _ _ (o2.rd tsV_len) hc.1 hc.2).mono ?_
      rintro e w3 ⟨rfl, b3⟩
      replace o1 := o1.below b3
      replace o2 := o2.below b3
      go_wp2_with fail
      refine (toTraceStepS_any _ _ _ _ _ (ha.below (below_trans (below_trans b1 b2) b3)) hn).mono ?_
      rintro e w4 ⟨B3, e3, rfl, o3, b4⟩
      replace o1 := o1.below b4
      replace o2 := o2.below b4
      go_wp2_with fail
      refine (eqTraceStepS_same _ _ _ _ _ _ _ (o2.rd tsV_len) (o3.rd tsV_len)).mono ?_
      rintro e w5 ⟨rfl, b5⟩
      replace o1 := o1.below b5
      replace o2 := o2.below b5
      replace o3 := o3.below b5
      go_wp2
      go_ret
      exact ⟨rfl, (below_trans (below_trans (below_trans (below_trans b1 b2) b3) b4) b5)⟩

set_option maxRecDepth 100000 in
theorem lifted (os : Os) (started : os.Started) (H : Type) (enc : TypeId × Value → H) :
    ReturnsInHanded {} Try.checked os 4 .any (Rows.fnExactPathOfSpec.pre6 enc Try.prog Try.f4 Rows.fnExactPathOfRow.domain false) (Rows.fnExactPathOfSpec.post enc Try.prog Try.f4 false true false false) := by
  refine returnsInHanded_of_change (C := Try.checked) own started (by kernel_rfl) Try.func4
    (ChangeSpec.witness6 (enc := enc) (C := Try.checked) false ⟨#[], #[.slice none 0 0, .int .i64 0], []⟩ 8 (by kernel_rfl) (by kernel_rfl) (by kernel_rfl) (by kernel_rfl)) ?_
  intro W base args ds gs before hval0 hW hcnd _
  have hval : ∀ (j : Nat) t v, Try.f4.params[j]? = some t → args[j]? = some v → Value.okWide Try.prog W .any base t v := hval0
  have hW' := hW
  obtain ⟨p, q, hA0, hV, rfl, hfz, hnd⟩ := hW
  have hA : DataW.TrodAll enc Try.prog W 0 (fun _ => true) true Try.f4.params.toList args.toList ds p := hA0
  rw [Try.params4] at hA hval
  obtain ⟨v0, vs0, d0, ds0, p0, q0, hargs, rfl, rfl, h0, r0⟩ := trodAll_cons hA
  obtain ⟨v1, vs1, d1, ds1, p1, q1, rfl, rfl, rfl, h1, r1⟩ := trodAll_cons r0
  obtain ⟨rfl, rfl, rfl⟩ := trodAll_nil r1
  obtain rfl : args = #[v0, v1] := by cases args; simp_all
  obtain ⟨rfl, rfl⟩ := trodVars_none hV
  obtain ⟨A0, n0, c0, l0, rfl, R0, G0⟩ := open_rd (ec := tsV) Try.underlying22 (by kernel_rfl) (read_ts) (by omega) tsV_len (hval 0 22 v0 rfl rfl) h0
  obtain ⟨x1, rfl, -, -, w1⟩ := open_int Try.underlying3 (hval 1 3 v1 rfl rfl) h1
  refine (walk A0 n0 c0 l0 x1 W R0 G0 (in64_of_wf w1)).mono fun e W' ⟨he, hb⟩ => ?_
  subst he
  exact ⟨_, rfl, law_post laidOut (by kernel_rfl) (by kernel_rfl) Try.underlying4 rfl hW' rfl rfl rfl hb⟩

theorem over : Rows.fnExactPathOfRow.holds Try.pinned (OpenSpec.ofChange Rows.fnExactPathOfSpec) :=
  OpenClaim.holds_of_wide 4 Try.f4 rfl rfl rfl rfl rfl rfl rfl ⟨rfl, rfl, rfl, rfl, rfl⟩ rfl rfl rfl rfl rfl (by kernel_rfl) Try.func4 (by kernel_rfl)
    (of_decide_eq_true (by kernel_rfl)) (by unfold Func.isWrapper; rw [if_neg (of_decide_eq_false (by kernel_rfl))]; exact ⟨rfl, rfl⟩)
    (fun os started H enc _ => lifted os started H enc)

theorem proved : Rows.FnExactPathOfSaid :=
  over
#print axioms proved
end Go.Proofs.Ytndhbkpbopgfdaa.fnExactPathOf
