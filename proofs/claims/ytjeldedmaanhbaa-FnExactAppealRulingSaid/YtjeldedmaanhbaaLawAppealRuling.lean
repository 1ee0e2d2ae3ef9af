/- FnExactAppealRuling: for every list and every further argument the program's AppealRuling and the reference's return the same, the list is left as it was, and the result's memory is shared with nothing. No condition.
-/
import Derived.Test.YtjeldedmaanhbaaRead
import Derived.Test.YtjeldedmaanhbaaRulB
namespace Go.Proofs.Ytjeldedmaanhbaa.fnExactAppealRuling
open Go Go.ChangeShapes Go.WideShapes Go.ChangeAt Go.RowKit Go.Sort
open Go.ChangeMaps (open_string)
set_option linter.unusedVariables false

theorem own : ownKnob Try.prog.godebug = none := by kernel_rfl
theorem laidOut : laidOutB Try.prog = true := by kernel_rfl

set_option maxRecDepth 100000 in
set_option maxHeartbeats 4000000 in
theorem walk (Al : Option Addr) (nl cl : Nat) (l : List PT) (m : Int) (w : World) (hal : Rd ptV 7 w Al nl cl l) (hgl : ∀ s ∈ l, ptGood s) (gm : in64 m) :
    Calls Try.prog 4 #[.slice Al nl cl, .int .i64 m] w fun e w' => e = .returned (.bool true) ∧ Below w.heap.size w w' := by
  go_enter Try.func4, Try.ntmps4
  by_cases hsl : (1048576 : Int) < (nl : Nat)
  · go_wp2_with fail
    refine (szPointS_no _ _ _ _ _ _ hal (by omega) (by omega) hsl).mono ?_
    rintro e wx ⟨rfl, rfl⟩
    go_wp2
    go_ret
    exact ⟨rfl, (Below.refl _ _)⟩
  go_wp2_with fail
  refine (szPointS_yes _ _ _ _ _ _ hal (by omega) (by omega) (by omega)).mono ?_
  rintro e wx ⟨rfl, rfl⟩
  have hnl : nl ≤ 1048576 := by omega
  have hlen : (appL l m).length ≤ nl := by rw [← hal.len]; exact appL_len l m
  go_wp2_with fail
  refine (toPointS_any _ _ _ _ _ hal hnl).mono ?_
  rintro e w1 ⟨A1, c1, rfl, o1, b1⟩
  have t1 := b1
  have o1_b := o1
  go_wp2_with fail
  refine (specAppeal_any _ _ _ _ m _ (o1.rd ptV_len)).mono ?_
  rintro e w2 ⟨⟨A2, q2, c2, rfl, o2⟩, b2⟩
  have t2 := below_trans t1 b2
  have o1 := o1.below b2
  have o2_b := o2
  go_wp2_with fail
  refine (toPointS_any _ _ _ _ _ (hal.below t2) hnl).mono ?_
  rintro e w3 ⟨A3, c3, rfl, o3, b3⟩
  have t3 := below_trans t2 b3
  have o1 := o1.below b3
  have o2 := o2.below b3
  have o3_b := o3
  go_wp2_with fail
  refine (implAppeal_any _ _ _ _ m _ (o3.rd ptV_len)).mono ?_
  rintro e w4 ⟨⟨A4, q4, c4, rfl, o4⟩, b4⟩
  have t4 := below_trans t3 b4
  have o1 := o1.below b4
  have o2 := o2.below b4
  have o3 := o3.below b4
  have o4_b := o4
  have hqg : q4 ≤ 1048577 := by rw [← o4.len]; omega
  go_wp2_with fail
  refine (eqPointS_same _ _ _ _ _ _ _ _ (o4.rd ptV_len) (o2.rd ptV_len)).mono ?_
  rintro e w5 ⟨rfl, b5⟩
  have t5 := below_trans t4 b5
  have o1 := o1.below b5
  have o2 := o2.below b5
  have o3 := o3.below b5
  have o4 := o4.below b5
  go_wp2_with fail
  refine (toPointS_any _ _ _ _ _ (hal.below t5) hnl).mono ?_
  rintro e w6 ⟨A5, c5, rfl, o5, b6⟩
  have t6 := below_trans t5 b6
  have o1 := o1.below b6
  have o2 := o2.below b6
  have o3 := o3.below b6
  have o4 := o4.below b6
  have o5_b := o5
  go_wp2_with fail
  refine (eqPointS_same _ _ _ _ _ _ _ _ (o3.rd ptV_len) (o5.rd ptV_len)).mono ?_
  rintro e w7 ⟨rfl, b7⟩
  have t7 := below_trans t6 b7
  have o1 := o1.below b7
  have o2 := o2.below b7
  have o3 := o3.below b7
  have o4 := o4.below b7
  have o5 := o5.below b7
  go_wp2_with fail
  refine (markPointS_any _ _ _ _ _ _ _ _ o3 (by omega) (by omega) (by omega) (Nat.le_trans (Nat.le_trans (Nat.le_trans (Nat.le_trans b3.size b4.size) b5.size) b6.size) b7.size)).mono ?_
  rintro e w8 ⟨rfl, o3_m, g8⟩
  have o1_n := o1.grown g8 (Own.apart' o1_b o3 b2.size)
  have o2_n := o2.grown g8 (Own.apart' o2_b o3 (Nat.le_refl _))
  have o4_n := o4.grown g8 (Own.apart o3_b o4 (Nat.le_refl _))
  have o5_n := o5.grown g8 (Own.apart o3_b o5 (Nat.le_trans b4.size b5.size))
  have t8 := t7.trans (o3.below_of g8 t2.size t7.size)
  clear o3 o1 o2 o4 o5
  have o1 := o1_n
  have o2 := o2_n
  have o4 := o4_n
  have o5 := o5_n
  have o3 := o3_m
  clear o3_m o1_n o2_n o4_n o5_n
  go_wp2_with fail
  refine (eqPointS_same _ _ _ _ _ _ _ _ (o4.rd ptV_len) (o2.rd ptV_len)).mono ?_
  rintro e w9 ⟨rfl, b9⟩
  have t9 := below_trans t8 b9
  have o1 := o1.below b9
  have o2 := o2.below b9
  have o3 := o3.below b9
  have o4 := o4.below b9
  have o5 := o5.below b9
  go_wp2_with fail
  refine (markPointS_any _ _ _ _ _ _ _ _ o4 (by omega) (by omega) (by omega) (Nat.le_trans (Nat.le_trans (Nat.le_trans (Nat.le_trans (Nat.le_trans b4.size b5.size) b6.size) b7.size) g8.size) b9.size)).mono ?_
  rintro e w10 ⟨rfl, o4_m, g10⟩
  have o1_n := o1.grown g10 (Own.apart' o1_b o4 (Nat.le_trans b2.size b3.size))
  have o2_n := o2.grown g10 (Own.apart' o2_b o4 b3.size)
  have o3_n := o3.grown g10 (Own.apart' o3_b o4 (Nat.le_refl _))
  have o5_n := o5.grown g10 (Own.apart o4_b o5 b5.size)
  have t10 := t9.trans (o4.below_of g10 t3.size t9.size)
  clear o4 o1 o2 o3 o5
  have o1 := o1_n
  have o2 := o2_n
  have o3 := o3_n
  have o5 := o5_n
  have o4 := o4_m
  clear o4_m o1_n o2_n o3_n o5_n
  go_wp2_with fail
  refine (heldPointS_any _ _ _ _ _ (o4.rd ptV_len) (by omega) (by omega) (by omega)).mono ?_
  rintro e w11 ⟨rfl, b11⟩
  have t11 := below_trans t10 b11
  have o1 := o1.below b11
  have o2 := o2.below b11
  have o3 := o3.below b11
  have o4 := o4.below b11
  have o5 := o5.below b11
  go_wp2_with fail
  refine (toPointS_any _ _ _ _ _ (hal.below t11) hnl).mono ?_
  rintro e w12 ⟨A6, c6, rfl, o6, b12⟩
  have t12 := below_trans t11 b12
  have o1 := o1.below b12
  have o2 := o2.below b12
  have o3 := o3.below b12
  have o4 := o4.below b12
  have o5 := o5.below b12
  have o6_b := o6
  go_wp2_with fail
  refine (implAppeal_any _ _ _ _ m _ (o6.rd ptV_len)).mono ?_
  rintro e w13 ⟨⟨A7, q7, c7, rfl, o7⟩, b13⟩
  have t13 := below_trans t12 b13
  have o1 := o1.below b13
  have o2 := o2.below b13
  have o3 := o3.below b13
  have o4 := o4.below b13
  have o5 := o5.below b13
  have o6 := o6.below b13
  have o7_b := o7
  go_wp2_with fail
  refine (eqPointS_same _ _ _ _ _ _ _ _ (o7.rd ptV_len) (o2.rd ptV_len)).mono ?_
  rintro e w14 ⟨rfl, b14⟩
  have t14 := below_trans t13 b14
  have o1 := o1.below b14
  have o2 := o2.below b14
  have o3 := o3.below b14
  have o4 := o4.below b14
  have o5 := o5.below b14
  have o6 := o6.below b14
  have o7 := o7.below b14
  go_wp2_with fail
  refine (heldPointS_any _ _ _ _ _ (o4.rd ptV_len) (by omega) (by omega) (by omega)).mono ?_
  rintro e w15 ⟨rfl, b15⟩
  have t15 := below_trans t14 b15
  have o1 := o1.below b15
  have o2 := o2.below b15
  have o3 := o3.below b15
  have o4 := o4.below b15
  have o5 := o5.below b15
  have o6 := o6.below b15
  have o7 := o7.below b15
  go_wp2
  go_ret
  exact ⟨rfl, t15⟩

set_option maxRecDepth 100000 in
theorem lifted (os : Os) (started : os.Started) (H : Type) (enc : TypeId × Value → H) :
    ReturnsInHanded {} Try.checked os 4 .any (Rows.fnExactAppealRulingSpec.pre6 enc Try.prog Try.f4 Rows.fnExactAppealRulingRow.domain false) (Rows.fnExactAppealRulingSpec.post enc Try.prog Try.f4 false true false false) := by
  refine returnsInHanded_of_change (C := Try.checked) own started (by kernel_rfl) Try.func4
    (ChangeSpec.witness6 (enc := enc) (C := Try.checked) false ⟨#[], #[.slice none 0 0, .int .i64 0], []⟩ 8 (by kernel_rfl) (by kernel_rfl) (by kernel_rfl) (by kernel_rfl)) ?_
  intro W base args ds gs before hval0 hW hcnd _
  have hval : ∀ (j : Nat) t v, Try.f4.params[j]? = some t → args[j]? = some v → Value.okWide Try.prog W .any base t v := hval0
  have hW' := hW
  obtain ⟨p, q, hA0, hV, rfl, hfz, hnd⟩ := hW
  have hA : DataW.TrodAll enc Try.prog W 0 (fun _ => true) true Try.f4.params.toList args.toList ds p := hA0
  rw [Try.params4] at hA hval
  obtain ⟨v0, vs0, d0, ds0, p0, q0, hargs, rfl, rfl, h0, r0⟩ := trodAll_cons hA
  obtain ⟨v1, vs1, d1, ds1, p1, q1, rfl, rfl, rfl, h1, r1⟩ := trodAll_cons r0
  obtain ⟨rfl, rfl, rfl⟩ := trodAll_nil r1
  obtain rfl : args = #[v0, v1] := by cases args; simp_all
  obtain ⟨rfl, rfl⟩ := trodVars_none hV
  obtain ⟨A0, n0, c0, l0, rfl, R0, G0⟩ := open_rd (ec := ptV) Try.underlying22 (by kernel_rfl) (read_pt) (by omega) ptV_len (hval 0 22 v0 rfl rfl) h0
  obtain ⟨x1, rfl, -, -, w1⟩ := open_int Try.underlying3 (hval 1 3 v1 rfl rfl) h1
  refine (walk A0 n0 c0 l0 x1 W R0 G0 (in64_of_wf w1)).mono fun e W' ⟨he, hb⟩ => ?_
  subst he
  exact ⟨_, rfl, law_post laidOut (by kernel_rfl) (by kernel_rfl) Try.underlying4 rfl hW' rfl rfl rfl hb⟩

theorem over : Rows.fnExactAppealRulingRow.holds Try.pinned (OpenSpec.ofChange Rows.fnExactAppealRulingSpec) :=
  OpenClaim.holds_of_wide 4 Try.f4 rfl rfl rfl rfl rfl rfl rfl ⟨rfl, rfl, rfl, rfl, rfl⟩ rfl rfl rfl rfl rfl (by kernel_rfl) Try.func4 (by kernel_rfl)
    (of_decide_eq_true (by kernel_rfl)) (by unfold Func.isWrapper; rw [if_neg (of_decide_eq_false (by kernel_rfl))]; exact ⟨rfl, rfl⟩)
    (fun os started H enc _ => lifted os started H enc)

theorem proved : Rows.FnExactAppealRulingSaid :=
  over
#print axioms proved
end Go.Proofs.Ytjeldedmaanhbaa.fnExactAppealRuling
