/- FnExactDearestClause: for all arguments the program's DearestClause and the reference's return the same, the arguments are left as they were. No condition.
-/
import Derived.Test.YtmpnpbanelehcaaRead
import Derived.Test.YtmpnpbanelehcaaFrameN
import Derived.Test.YtmpnpbanelehcaaDivD
namespace Go.Proofs.Ytmpnpbanelehcaa.fnExactDearestClause
open Go Go.ChangeShapes Go.WideShapes Go.ChangeAt Go.RowKit Go.Sort
open Go.ChangeMaps (open_string)
set_option linter.unusedVariables false

theorem own : ownKnob Try.prog.godebug = none := by kernel_rfl
theorem laidOut : laidOutB Try.prog = true := by kernel_rfl

set_option maxRecDepth 100000 in
set_option maxHeartbeats 4000000 in
theorem walk (Al : Option Addr) (nl cl : Nat) (hsl : List HC) (l : List CL) (w : World) (hal : RdC w Al nl cl hsl l) (hgl : ∀ s ∈ l, CLgood s) :
    Calls Try.prog 4 #[.slice Al nl cl] w fun e w' => e = .returned (.bool true) ∧ Below w.heap.size w w' := by
  go_enter Try.func4, Try.ntmps4
  have hwl : ∀ s ∈ l, ∀ t ∈ s.ws, t.size ≤ maxLen := fun s hs => (hgl s hs).1
  go_wp2_with fail
  refine (szClauseS_any _ _ _ _ _ _ _ hal (by omega) (by omega) hwl).mono ?_
  rintro e w1 ⟨⟨r1, rfl, hr⟩, b1⟩
  have t1 := b1
  rcases hr with rfl | hr
  · go_wp2
    go_ret
    exact ⟨rfl, t1⟩
  obtain ⟨hra, hrb, hstl⟩ := hr
  have hnl : nl ≤ 1048576 := by have := hal.len; omega
  have httl : totC l ≤ 1048576 := by omega
  have hinl : ∀ s ∈ l, s.ws.length ≤ 1048576 ∧ s.ns.length ≤ 1048576 := fun s hs => by
    obtain ⟨j, hj⟩ := List.mem_iff_getElem?.1 hs
    have := totC_mem hj
    simp only [sizC] at this
    exact ⟨by omega, by omega⟩
  have hst := Lib.hid hstl
  clear hstl hrb
  have hsz : ∀ x ∈ l, ClSz x := fun x hx => (hgl x hx).1
  go_wp2_with fail
  refine (toClauseS_any _ _ _ _ _ _ (hal.below t1) hnl hinl).mono ?_
  rintro e w2 ⟨A1, c1, hs1, rfl, o1, b2⟩
  have t2 := below_trans t1 b2
  go_wp2_with fail
  refine (specDearest_any _ _ _ _ l _ o1.rd hsz).mono ?_
  rintro e w3 ⟨rfl, b3⟩
  have t3 := below_trans t2 b3
  have o1 := o1.below b3
  go_wp2_with fail
  refine (toClauseS_any _ _ _ _ _ _ (hal.below t3) hnl hinl).mono ?_
  rintro e w4 ⟨A2, c2, hs2, rfl, o2, b4⟩
  have t4 := below_trans t3 b4
  have o1 := o1.below b4
  go_wp2_with fail
  refine (implDearest_any _ _ _ _ l _ o2.rd hsz).mono ?_
  rintro e w5 ⟨rfl, b5⟩
  have t5 := below_trans t4 b5
  have o1 := o1.below b5
  have o2 := o2.below b5
  go_wp2_with fail
  refine (toClauseS_any _ _ _ _ _ _ (hal.below t5) hnl hinl).mono ?_
  rintro e w6 ⟨A3, c3, hs3, rfl, o3, b6⟩
  have t6 := below_trans t5 b6
  have o1 := o1.below b6
  have o2 := o2.below b6
  go_wp2_with fail
  refine (eqClauseS_same _ _ _ _ _ _ _ _ _ _ o2.rd o3.rd).mono ?_
  rintro e w7 ⟨rfl, b7⟩
  have t7 := below_trans t6 b7
  have o1 := o1.below b7
  have o2 := o2.below b7
  have o3 := o3.below b7
  go_wp2
  go_ret
  exact ⟨rfl, t7⟩

set_option maxRecDepth 100000 in
theorem lifted (os : Os) (started : os.Started) (H : Type) (enc : TypeId × Value → H) :
    ReturnsInHanded {} Try.checked os 4 .any (Rows.fnExactDearestClauseSpec.pre6 enc Try.prog Try.f4 Rows.fnExactDearestClauseRow.domain false) (Rows.fnExactDearestClauseSpec.post enc Try.prog Try.f4 false true false false) := by
  refine returnsInHanded_of_change (C := Try.checked) own started (by kernel_rfl) Try.func4
    (ChangeSpec.witness6 (enc := enc) (C := Try.checked) false ⟨#[], #[.slice none 0 0], []⟩ 8 (by kernel_rfl) (by kernel_rfl) (by kernel_rfl) (by kernel_rfl)) ?_
  intro W base args ds gs before hval0 hW hcnd _
  have hval : ∀ (j : Nat) t v, Try.f4.params[j]? = some t → args[j]? = some v → Value.okWide Try.prog W .any base t v := hval0
  have hW' := hW
  obtain ⟨p, q, hA0, hV, rfl, hfz, hnd⟩ := hW
  have hA : DataW.TrodAll enc Try.prog W 0 (fun _ => true) true Try.f4.params.toList args.toList ds p := hA0
  rw [Try.params4] at hA hval
  obtain ⟨v0, vs0, d0, ds0, p0, q0, hargs, rfl, rfl, h0, r0⟩ := trodAll_cons hA
  obtain ⟨rfl, rfl, rfl⟩ := trodAll_nil r0
  obtain rfl : args = #[v0] := by cases args; simp_all
  obtain ⟨rfl, rfl⟩ := trodVars_none hV
  obtain ⟨A0, n0, c0, hs0, l0, rfl, R0, G0⟩ := open_cls (hval 0 22 v0 rfl rfl) h0
  refine (walk A0 n0 c0 hs0 l0 W R0 G0).mono fun e W' ⟨he, hb⟩ => ?_
  subst he
  exact ⟨_, rfl, law_post laidOut (by kernel_rfl) (by kernel_rfl) Try.underlying4 rfl hW' rfl rfl rfl hb⟩

theorem over : Rows.fnExactDearestClauseRow.holds Try.pinned (OpenSpec.ofChange Rows.fnExactDearestClauseSpec) :=
  OpenClaim.holds_of_wide 4 Try.f4 rfl rfl rfl rfl rfl rfl rfl ⟨rfl, rfl, rfl, rfl, rfl⟩ rfl rfl rfl rfl rfl (by kernel_rfl) Try.func4 (by kernel_rfl)
    (of_decide_eq_true (by kernel_rfl)) (by unfold Func.isWrapper; rw [if_neg (of_decide_eq_false (by kernel_rfl))]; exact ⟨rfl, rfl⟩)
    (fun os started H enc _ => lifted os started H enc)

theorem proved : Rows.FnExactDearestClauseSaid :=
  over
#print axioms proved
end Go.Proofs.Ytmpnpbanelehcaa.fnExactDearestClause
