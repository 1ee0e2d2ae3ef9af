/- FnExactIsOrderly: for every list of steps the program's IsOrderly and the reference's return the same, and the list is left as it was. No condition.
-/
import Derived.Test.YtndhbkpbopgfdaaRead
import Derived.Test.YtndhbkpbopgfdaaTraF
namespace Go.Proofs.Ytndhbkpbopgfdaa.fnExactIsOrderly
open Go Go.ChangeShapes Go.WideShapes Go.ChangeAt Go.RowKit Go.Sort
open Go.ChangeMaps (open_string)
set_option linter.unusedVariables false

theorem own : ownKnob Try.prog.godebug = none := by kernel_rfl
theorem laidOut : laidOutB Try.prog = true := by kernel_rfl

set_option maxRecDepth 100000 in
set_option maxHeartbeats 4000000 in
theorem walk (A : Option Addr) (n c : Nat) (l : List TS) (w : World) (ha : Rd tsV 2 w A n c l) (hg : ∀ x ∈ l, tsGood x) :
    Calls Try.prog 5 #[.slice A n c] w fun e w' => e = .returned (.bool true) ∧ Below w.heap.size w w' := by
  by_cases hs : (1048576 : Int) < n
  · go_enter Try.func5, Try.ntmps5
    go_wp2_with fail
    refine (szTraceStepS_no _ _ _ _ _ _ ha (by omega) (by omega) hs).mono ?_
    rintro e w1 ⟨rfl, rfl⟩
    go_wp2
    go_ret
    exact ⟨rfl, Below.refl _ _⟩
  · have hn : n ≤ 1048576 := by omega
    go_enter Try.func5, Try.ntmps5
    go_wp2_with fail
    refine (szTraceStepS_yes _ _ _ _ _ _ ha (by omega) (by omega) (by omega)).mono ?_
    rintro e wx ⟨rfl, rfl⟩
    go_wp2_with fail
    refine (toTraceStepS_any _ _ _ _ _ ha hn).mono ?_
    rintro e w1 ⟨A1, c1, rfl, o1, b1⟩
    have t1 := b1
    have o1_b := o1
    go_wp2_with fail
    refine (specIsOrderly_any _ _ _ _ _ (o1.rd tsV_len)).mono ?_
    rintro e wx ⟨rfl, rfl⟩
    go_wp2_with fail
    refine (toTraceStepS_any _ _ _ _ _ (ha.below t1) hn).mono ?_
    rintro e w2 ⟨A2, c2, rfl, o2, b2⟩
    have t2 := below_trans t1 b2
    have o1 := o1.below b2
    have o2_b := o2
    go_wp2_with fail
    refine (implIsOrderly_any _ _ _ _ _ (o2.rd tsV_len)).mono ?_
    rintro e w3 ⟨rfl, b3⟩
    have t3 := below_trans t2 b3
    have o1 := o1.below b3
    have o2 := o2.below b3
    go_wp2_with fail
    refine (toTraceStepS_any _ _ _ _ _ (ha.below t3) hn).mono ?_
    rintro e w4 ⟨A3, c3, rfl, o3, b4⟩
    have t4 := below_trans t3 b4
    have o1 := o1.below b4
    have o2 := o2.below b4
    have o3_b := o3
    go_wp2_with fail
    refine (eqTraceStepS_same _ _ _ _ _ _ _ (o2.rd tsV_len) (o3.rd tsV_len)).mono ?_
    rintro e w5 ⟨rfl, b5⟩
    have t5 := below_trans t4 b5
    have o1 := o1.below b5
    have o2 := o2.below b5
    have o3 := o3.below b5
    go_wp2
    go_ret
    exact ⟨rfl, t5⟩

set_option maxRecDepth 100000 in
theorem lifted (os : Os) (started : os.Started) (H : Type) (enc : TypeId × Value → H) :
    ReturnsInHanded {} Try.checked os 5 .any (Rows.fnExactIsOrderlySpec.pre6 enc Try.prog Try.f5 Rows.fnExactIsOrderlyRow.domain false) (Rows.fnExactIsOrderlySpec.post enc Try.prog Try.f5 false true false false) := by
  refine returnsInHanded_of_change (C := Try.checked) own started (by kernel_rfl) Try.func5
    (ChangeSpec.witness6 (enc := enc) (C := Try.checked) false ⟨#[], #[.slice none 0 0], []⟩ 8 (by kernel_rfl) (by kernel_rfl) (by kernel_rfl) (by kernel_rfl)) ?_
  intro W base args ds gs before hval0 hW hcnd _
  have hval : ∀ (j : Nat) t v, Try.f5.params[j]? = some t → args[j]? = some v → Value.okWide Try.prog W .any base t v := hval0
  have hW' := hW
  obtain ⟨p, q, hA0, hV, rfl, hfz, hnd⟩ := hW
  have hA : DataW.TrodAll enc Try.prog W 0 (fun _ => true) true Try.f5.params.toList args.toList ds p := hA0
  rw [Try.params5] at hA hval
  obtain ⟨v0, vs0, d0, ds0, p0, q0, hargs, rfl, rfl, h0, r0⟩ := trodAll_cons hA
  obtain ⟨rfl, rfl, rfl⟩ := trodAll_nil r0
  obtain rfl : args = #[v0] := by cases args; simp_all
  obtain ⟨rfl, rfl⟩ := trodVars_none hV
  obtain ⟨A0, n0, c0, l0, rfl, R0, G0⟩ := open_rd (ec := tsV) Try.underlying22 (by kernel_rfl) (read_ts) (by omega) tsV_len (hval 0 22 v0 rfl rfl) h0
  refine (walk A0 n0 c0 l0 W R0 G0).mono fun e W' ⟨he, hb⟩ => ?_
  subst he
  exact ⟨_, rfl, law_post laidOut (by kernel_rfl) (by kernel_rfl) Try.underlying4 rfl hW' rfl rfl rfl hb⟩

theorem over : Rows.fnExactIsOrderlyRow.holds Try.pinned (OpenSpec.ofChange Rows.fnExactIsOrderlySpec) :=
  OpenClaim.holds_of_wide 5 Try.f5 rfl rfl rfl rfl rfl rfl rfl ⟨rfl, rfl, rfl, rfl, rfl⟩ rfl rfl rfl rfl rfl (by kernel_rfl) Try.func5 (by kernel_rfl)
    (of_decide_eq_true (by kernel_rfl)) (by unfold Func.isWrapper; rw [if_neg (of_decide_eq_false (by kernel_rfl))]; exact ⟨rfl, rfl⟩)
    (fun os started H enc _ => lifted os started H enc)

theorem proved : Rows.FnExactIsOrderlySaid :=
  over
#print axioms proved
end Go.Proofs.Ytndhbkpbopgfdaa.fnExactIsOrderly
