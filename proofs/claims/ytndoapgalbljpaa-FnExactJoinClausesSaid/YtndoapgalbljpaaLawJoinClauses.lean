/- FnExactJoinClauses: for all arguments the program's JoinClauses and the reference's return the same, the arguments are left as they were, and the result's memory is shared with nothing. No condition.
-/
import Derived.Test.YtndoapgalbljpaaRead
import Derived.Test.YtndoapgalbljpaaFrameN
import Derived.Test.YtndoapgalbljpaaJoiN
namespace Go.Proofs.Ytndoapgalbljpaa.fnExactJoinClauses
open Go Go.ChangeShapes Go.WideShapes Go.ChangeAt Go.RowKit Go.Sort
open Go.ChangeMaps (open_string)
set_option linter.unusedVariables false

theorem own : ownKnob Try.prog.godebug = none := by kernel_rfl
theorem laidOut : laidOutB Try.prog = true := by kernel_rfl

set_option maxRecDepth 100000 in
set_option maxHeartbeats 4000000 in
theorem walk (Al : Option Addr) (nl cl : Nat) (hsl : List HC) (l : List CL) (i : Int) (w : World) (hal : RdC w Al nl cl hsl l) (hgl : ∀ s ∈ l, CLgood s) (gi : in64 i) :
    Calls Try.prog 3 #[.slice Al nl cl, .int .i64 i] w fun e w' => e = .returned (.bool true) ∧ Below w.heap.size w w' := by
  go_enter Try.func3, Try.ntmps3
  have hwl : ∀ s ∈ l, ∀ t ∈ s.ws, t.size ≤ maxLen := fun s hs => (hgl s hs).1
  go_wp2_with fail
  refine (szClauseS_any _ _ _ _ _ _ _ hal (by omega) (by omega) hwl).mono ?_
  rintro e w1 ⟨⟨r1, rfl, hr⟩, b1⟩
  have t1 := b1
  rcases hr with rfl | hr
  · go_wp2
    go_ret
    exact ⟨rfl, t1⟩
  obtain ⟨hra, hrb, hstl⟩ := hr
  have hnl : nl ≤ 1048576 := by have := hal.len; omega
  have httl : totC l ≤ 1048576 := by omega
  have hinl : ∀ s ∈ l, s.ws.length ≤ 1048576 ∧ s.ns.length ≤ 1048576 := fun s hs => by
    obtain ⟨j, hj⟩ := List.mem_iff_getElem?.1 hs
    have := totC_mem hj
    simp only [sizC] at this
    exact ⟨by omega, by omega⟩
  have hst := Lib.hid hstl
  clear hstl hrb
  have hsz : ∀ x ∈ l, ClSz x := fun x hx => (hgl x hx).1
  have hlen : (joinL l i).length ≤ 8 := joinL_len l i
  have htot : totC (joinL l i) ≤ 104 := joinL_tot l i
  go_wp2_with fail
  refine (toClauseS_any _ _ _ _ _ _ (hal.below t1) hnl hinl).mono ?_
  rintro e w2 ⟨A1, c1, hs1, rfl, o1, b2⟩
  have t2 := below_trans t1 b2
  go_wp2_with fail
  refine (specJoin_any _ _ _ _ l i _ o1.rd hsz).mono ?_
  rintro e w3 ⟨⟨A2, q2, c2, hs2, rfl, o2⟩, b3⟩
  have t3 := below_trans t2 b3
  have o1 := o1.below b3
  go_wp2_with fail
  refine (toClauseS_any _ _ _ _ _ _ (hal.below t3) hnl hinl).mono ?_
  rintro e w4 ⟨A3, c3, hs3, rfl, o3, b4⟩
  have t4 := below_trans t3 b4
  have o1 := o1.below b4
  have o2 := o2.below b4
  go_wp2_with fail
  refine (implJoin_any _ _ _ _ l i _ o3.rd hsz).mono ?_
  rintro e w5 ⟨⟨A4, q4, c4, hs4, rfl, o4⟩, b5⟩
  have t5 := below_trans t4 b5
  have o1 := o1.below b5
  have o2 := o2.below b5
  have o3 := o3.below b5
  have hqg : q4 ≤ 1048577 := by rw [← o4.len]; omega
  go_wp2_with fail
  refine (eqClauseS_same _ _ _ _ _ _ _ _ _ _ o4.rd o2.rd).mono ?_
  rintro e w6 ⟨rfl, b6⟩
  have t6 := below_trans t5 b6
  have o1 := o1.below b6
  have o2 := o2.below b6
  have o3 := o3.below b6
  have o4 := o4.below b6
  go_wp2_with fail
  refine (toClauseS_any _ _ _ _ _ _ (hal.below t6) hnl hinl).mono ?_
  rintro e w7 ⟨A5, c5, hs5, rfl, o5, b7⟩
  have t7 := below_trans t6 b7
  have o1 := o1.below b7
  have o2 := o2.below b7
  have o3 := o3.below b7
  have o4 := o4.below b7
  go_wp2_with fail
  refine (eqClauseS_same _ _ _ _ _ _ _ _ _ _ o3.rd o5.rd).mono ?_
  rintro e w8 ⟨rfl, b8⟩
  have t8 := below_trans t7 b8
  have o1 := o1.below b8
  have o2 := o2.below b8
  have o3 := o3.below b8
  have o4 := o4.below b8
  have o5 := o5.below b8
  go_wp2_with fail
  refine (markClauseS_any _ _ _ _ _ _ _ _ _ o3 (by omega) (by omega) (by omega) (by omega) (Nat.le_trans (Nat.le_trans (Nat.le_trans (Nat.le_trans b4.size b5.size) b6.size) b7.size) b8.size)).mono ?_
  rintro e w9 ⟨rfl, o3_m, g9⟩
  have o1_n := o1.turned g9 (.inr b3.size)
  have o2_n := o2.turned g9 (.inr (Nat.le_refl w3.heap.size))
  have o4_n := o4.turned g9 (.inl (Nat.le_refl w4.heap.size))
  have o5_n := o5.turned g9 (.inl (Nat.le_trans b5.size b6.size))
  have t9 := t8.trans (g9.below t3.size t8.size)
  clear o3 o1 o2 o4 o5
  have o1 := o1_n
  have o2 := o2_n
  have o4 := o4_n
  have o5 := o5_n
  have o3 := o3_m
  clear o3_m o1_n o2_n o4_n o5_n
  go_wp2_with fail
  refine (eqClauseS_same _ _ _ _ _ _ _ _ _ _ o4.rd o2.rd).mono ?_
  rintro e w10 ⟨rfl, b10⟩
  have t10 := below_trans t9 b10
  have o1 := o1.below b10
  have o2 := o2.below b10
  have o3 := o3.below b10
  have o4 := o4.below b10
  have o5 := o5.below b10
  go_wp2_with fail
  refine (markClauseS_any _ _ _ _ _ _ _ _ _ o4 (by omega) (by omega) (by omega) (by omega) (Nat.le_trans (Nat.le_trans (Nat.le_trans (Nat.le_trans (Nat.le_trans b5.size b6.size) b7.size) b8.size) g9.size) b10.size)).mono ?_
  rintro e w11 ⟨rfl, o4_m, g11⟩
  have o1_n := o1.turned g11 (.inr (Nat.le_trans b3.size b4.size))
  have o2_n := o2.turned g11 (.inr b4.size)
  have o3_n := o3.turned g11 (.inr (Nat.le_refl w4.heap.size))
  have o5_n := o5.turned g11 (.inl b6.size)
  have t11 := t10.trans (g11.below t4.size t10.size)
  clear o4 o1 o2 o3 o5
  have o1 := o1_n
  have o2 := o2_n
  have o3 := o3_n
  have o5 := o5_n
  have o4 := o4_m
  clear o4_m o1_n o2_n o3_n o5_n
  go_wp2_with fail
  refine (heldClauseS_any _ _ _ _ _ _ _ o4.rd (by omega) (by omega) (by omega) (by omega)).mono ?_
  rintro e w12 ⟨rfl, b12⟩
  have t12 := below_trans t11 b12
  have o1 := o1.below b12
  have o2 := o2.below b12
  have o3 := o3.below b12
  have o4 := o4.below b12
  have o5 := o5.below b12
  go_wp2_with fail
  refine (toClauseS_any _ _ _ _ _ _ (hal.below t12) hnl hinl).mono ?_
  rintro e w13 ⟨A6, c6, hs6, rfl, o6, b13⟩
  have t13 := below_trans t12 b13
  have o1 := o1.below b13
  have o2 := o2.below b13
  have o3 := o3.below b13
  have o4 := o4.below b13
  have o5 := o5.below b13
  go_wp2_with fail
  refine (implJoin_any _ _ _ _ l i _ o6.rd hsz).mono ?_
  rintro e w14 ⟨⟨A7, q7, c7, hs7, rfl, o7⟩, b14⟩
  have t14 := below_trans t13 b14
  have o1 := o1.below b14
  have o2 := o2.below b14
  have o3 := o3.below b14
  have o4 := o4.below b14
  have o5 := o5.below b14
  have o6 := o6.below b14
  go_wp2_with fail
  refine (eqClauseS_same _ _ _ _ _ _ _ _ _ _ o7.rd o2.rd).mono ?_
  rintro e w15 ⟨rfl, b15⟩
  have t15 := below_trans t14 b15
  have o1 := o1.below b15
  have o2 := o2.below b15
  have o3 := o3.below b15
  have o4 := o4.below b15
  have o5 := o5.below b15
  have o6 := o6.below b15
  have o7 := o7.below b15
  go_wp2_with fail
  refine (heldClauseS_any _ _ _ _ _ _ _ o4.rd (by omega) (by omega) (by omega) (by omega)).mono ?_
  rintro e w16 ⟨rfl, b16⟩
  have t16 := below_trans t15 b16
  have o1 := o1.below b16
  have o2 := o2.below b16
  have o3 := o3.below b16
  have o4 := o4.below b16
  have o5 := o5.below b16
  have o6 := o6.below b16
  have o7 := o7.below b16
  go_wp2
  go_ret
  exact ⟨rfl, t16⟩

set_option maxRecDepth 100000 in
theorem lifted (os : Os) (started : os.Started) (H : Type) (enc : TypeId × Value → H) :
    ReturnsInHanded {} Try.checked os 3 .any (Rows.fnExactJoinClausesSpec.pre6 enc Try.prog Try.f3 Rows.fnExactJoinClausesRow.domain false) (Rows.fnExactJoinClausesSpec.post enc Try.prog Try.f3 false true false false) := by
  refine returnsInHanded_of_change (C := Try.checked) own started (by kernel_rfl) Try.func3
    (ChangeSpec.witness6 (enc := enc) (C := Try.checked) false ⟨#[], #[.slice none 0 0, .int .i64 0], []⟩ 8 (by kernel_rfl) (by kernel_rfl) (by kernel_rfl) (by kernel_rfl)) ?_
  intro W base args ds gs before hval0 hW hcnd _
  have hval : ∀ (j : Nat) t v, Try.f3.params[j]? = some t → args[j]? = some v → Value.okWide Try.prog W .any base t v := hval0
  have hW' := hW
  obtain ⟨p, q, hA0, hV, rfl, hfz, hnd⟩ := hW
  have hA : DataW.TrodAll enc Try.prog W 0 (fun _ => true) true Try.f3.params.toList args.toList ds p := hA0
  rw [Try.params3] at hA hval
  obtain ⟨v0, vs0, d0, ds0, p0, q0, hargs, rfl, rfl, h0, r0⟩ := trodAll_cons hA
  obtain ⟨v1, vs1, d1, ds1, p1, q1, rfl, rfl, rfl, h1, r1⟩ := trodAll_cons r0
  obtain ⟨rfl, rfl, rfl⟩ := trodAll_nil r1
  obtain rfl : args = #[v0, v1] := by cases args; simp_all
  obtain ⟨rfl, rfl⟩ := trodVars_none hV
  obtain ⟨A0, n0, c0, hs0, l0, rfl, R0, G0⟩ := open_cls (hval 0 22 v0 rfl rfl) h0
  obtain ⟨x1, rfl, -, -, w1⟩ := open_int Try.underlying3 (hval 1 3 v1 rfl rfl) h1
  refine (walk A0 n0 c0 hs0 l0 x1 W R0 G0 (in64_of_wf w1)).mono fun e W' ⟨he, hb⟩ => ?_
  subst he
  exact ⟨_, rfl, law_post laidOut (by kernel_rfl) (by kernel_rfl) Try.underlying4 rfl hW' rfl rfl rfl hb⟩

theorem over : Rows.fnExactJoinClausesRow.holds Try.pinned (OpenSpec.ofChange Rows.fnExactJoinClausesSpec) :=
  OpenClaim.holds_of_wide 3 Try.f3 rfl rfl rfl rfl rfl rfl rfl ⟨rfl, rfl, rfl, rfl, rfl⟩ rfl rfl rfl rfl rfl (by kernel_rfl) Try.func3 (by kernel_rfl)
    (of_decide_eq_true (by kernel_rfl)) (by unfold Func.isWrapper; rw [if_neg (of_decide_eq_false (by kernel_rfl))]; exact ⟨rfl, rfl⟩)
    (fun os started H enc _ => lifted os started H enc)

theorem proved : Rows.FnExactJoinClausesSaid :=
  over
#print axioms proved
end Go.Proofs.Ytndoapgalbljpaa.fnExactJoinClauses
