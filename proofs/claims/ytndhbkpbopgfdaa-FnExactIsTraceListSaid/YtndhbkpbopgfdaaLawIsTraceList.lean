/- FnExactIsTraceList: for every list of steps the program's IsTraceList and the reference's return the same, and the list is left as it was. No condition.
-/
import Derived.Test.YtndhbkpbopgfdaaRead
import Derived.Test.YtndhbkpbopgfdaaTraB
namespace Go.Proofs.Ytndhbkpbopgfdaa.fnExactIsTraceList
open Go Go.ChangeShapes Go.WideShapes Go.ChangeAt Go.RowKit Go.Sort
open Go.ChangeMaps (open_string)
set_option linter.unusedVariables false

theorem own : ownKnob Try.prog.godebug = none := by kernel_rfl
theorem laidOut : laidOutB Try.prog = true := by kernel_rfl


set_option maxHeartbeats 400000 in
theorem walk (A : Option Addr) (n c : Nat) (l : List TS) (w : World) (ha : Rd tsV 2 w A n c l) (hg : ∀ x ∈ l, tsGood x) :
    Calls Try.prog 3 #[.slice A n c] w fun e w' => e = .returned (.bool true) ∧ Below w.heap.size w w' := by
  by_cases hs : (1048576 : Int) < n
  · go_enter Try.func3, Try.ntmps3
    go_wp2_with fail
    refine (szTraceStepS_no _ _ _ _ _ _ ha (by omega) (by omega) hs).mono ?_
    rintro e w1 ⟨rfl, rfl⟩
    go_wp2
    go_ret
    exact ⟨rfl, Below.refl _ _⟩
  · have hn : n ≤ 1048576 := by omega
    go_enter Try.func3, Try.ntmps3
    go_wp2_with fail
    refine (szTraceStepS_yes _ _ _ _ _ _ ha (by omega) (by omega) (by omega)).mono ?_
    rintro e w1 ⟨rfl, rfl⟩
    go_wp2_with fail
    refine (toTraceStepS_any _ _ _ _ _ ha hn).mono ?_
    rintro e w1 ⟨B1, c1, rfl, o1, b1⟩
    go_wp2_with fail
    refine (specIsTraceList_any _ _ _ _ _ (o1.rd tsV_len)).mono ?_
    rintro e w2 ⟨rfl, rfl⟩
    go_wp2_with fail
    refine (toTraceStepS_any _ _ _ _ _ (ha.below b1) hn).mono ?_
    rintro e w2 ⟨B2, c2, rfl, o2, b2⟩
    go_wp2_with fail
    refine (implIsTraceList_any _ _ _ _ _ (o2.rd tsV_len)).mono ?_
    rintro e w3 ⟨rfl, b3⟩
    have t3 := below_trans (below_trans b1 b2) b3
    go_wp2_with fail
    refine (toTraceStepS_any _ _ _ _ _ (ha.below t3) hn).mono ?_
    rintro e w4 ⟨B4, c4, rfl, o4, b4⟩
    go_wp2_with fail
    refine (eqTraceStepS_same _ _ _ _ _ _ _ (((o2.below b3).below b4).rd tsV_len) (o4.rd tsV_len)).mono ?_
    rintro e w5 ⟨rfl, b5⟩
    go_wp2
    go_ret
    exact ⟨rfl, below_trans (below_trans t3 b4) b5⟩

set_option maxRecDepth 100000 in
theorem lifted (os : Os) (started : os.Started) (H : Type) (enc : TypeId × Value → H) :
    ReturnsInHanded {} Try.checked os 3 .any (Rows.fnExactIsTraceListSpec.pre6 enc Try.prog Try.f3 Rows.fnExactIsTraceListRow.domain false) (Rows.fnExactIsTraceListSpec.post enc Try.prog Try.f3 false true false false) := by
  refine returnsInHanded_of_change (C := Try.checked) own started (by kernel_rfl) Try.func3
    (ChangeSpec.witness6 (enc := enc) (C := Try.checked) false ⟨#[], #[.slice none 0 0], []⟩ 8 (by kernel_rfl) (by kernel_rfl) (by kernel_rfl) (by kernel_rfl)) ?_
  intro W base args ds gs before hval0 hW hcnd _
  have hval : ∀ (j : Nat) t v, Try.f3.params[j]? = some t → args[j]? = some v → Value.okWide Try.prog W .any base t v := hval0
  have hW' := hW
  obtain ⟨p, q, hA0, hV, rfl, hfz, hnd⟩ := hW
  have hA : DataW.TrodAll enc Try.prog W 0 (fun _ => true) true Try.f3.params.toList args.toList ds p := hA0
  rw [Try.params3] at hA hval
  obtain ⟨v0, vs0, d0, ds0, p0, q0, hargs, rfl, rfl, h0, r0⟩ := trodAll_cons hA
  obtain ⟨rfl, rfl, rfl⟩ := trodAll_nil r0
  obtain rfl : args = #[v0] := by cases args; simp_all
  obtain ⟨rfl, rfl⟩ := trodVars_none hV
  obtain ⟨A0, n0, c0, l0, rfl, R0, G0⟩ := open_rd (ec := tsV) Try.underlying22 (by kernel_rfl) (read_ts) (by omega) tsV_len (hval 0 22 v0 rfl rfl) h0
  refine (walk A0 n0 c0 l0 W R0 G0).mono fun e W' ⟨he, hb⟩ => ?_
  subst he
  exact ⟨_, rfl, law_post laidOut (by kernel_rfl) (by kernel_rfl) Try.underlying4 rfl hW' rfl rfl rfl hb⟩

theorem over : Rows.fnExactIsTraceListRow.holds Try.pinned (OpenSpec.ofChange Rows.fnExactIsTraceListSpec) :=
  OpenClaim.holds_of_wide 3 Try.f3 rfl rfl rfl rfl rfl rfl rfl ⟨rfl, rfl, rfl, rfl, rfl⟩ rfl rfl rfl rfl rfl (by kernel_rfl) Try.func3 (by kernel_rfl)
    (of_decide_eq_true (by kernel_rfl)) (by unfold Func.isWrapper; rw [if_neg (of_decide_eq_false (by kernel_rfl))]; exact ⟨rfl, rfl⟩)
    (fun os started H enc _ => lifted os started H enc)

theorem proved : Rows.FnExactIsTraceListSaid :=
  over
#print axioms proved
end Go.Proofs.Ytndhbkpbopgfdaa.fnExactIsTraceList
