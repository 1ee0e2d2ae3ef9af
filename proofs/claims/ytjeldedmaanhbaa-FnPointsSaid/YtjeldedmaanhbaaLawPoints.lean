/- FnPoints: for every code of at most 65536 bytes: RaisePoint, RulePoint, AppealRuling, IsInOrder and ArePoints answer as the reference at what is drawn, and a point that is raised, ruled on, appealed and decided has at each step the outcome that the law tells. No condition.
-/
import Derived.Test.YtjeldedmaanhbaaRead
import Derived.Test.YtjeldedmaanhbaaByt
import Derived.Test.YtjeldedmaanhbaaRulF
import Derived.Test.YtjeldedmaanhbaaRulM
import Derived.Test.YtjeldedmaanhbaaVee
namespace Go.Proofs.Ytjeldedmaanhbaa.fnPoints
open Go Go.ChangeShapes Go.WideShapes Go.ChangeAt Go.RowKit Go.Sort
open Go.ChangeMaps (open_string)
set_option linter.unusedVariables false

theorem own : ownKnob Try.prog.godebug = none := by kernel_rfl
theorem laidOut : laidOutB Try.prog = true := by kernel_rfl

set_option maxRecDepth 100000 in
set_option maxHeartbeats 8000000 in
theorem walk (A : Option Addr) (n c : Nat) (l : List Int) (w : World) (ha : Rd byV 1 w A n c l) (hb : ∀ x ∈ l, 0 ≤ x ∧ x ≤ 255) :
    Calls Try.prog 5 #[.slice A n c] w fun e w' => e = .returned (.bool true) ∧ Below w.heap.size w w' := by
  have hm := ha.le
  go_enter Try.func5, Try.ntmps5
  go_wp2_with fail
  refine (vBig_any _ _ _ _ hm).mono ?_
  rintro e wx ⟨rfl, rfl⟩
  by_cases hbig : (65536 : Int) < (n : Int)
  · go_wp2
    go_ret
    exact ⟨rfl, Below.refl _ _⟩
  go_wp2_with fail
  refine (drawRaise_any _ _ _ l _ ha hb).mono ?_
  rintro e w1 ⟨⟨A1, q1, c1, x, lp, rfl, hq1, hx0, hx1, o1⟩, b1⟩
  have t1 := b1
  have o1_b := o1
  go_wp2_with fail
  refine (implRaise_any _ _ _ lp x _ (o1.rd ptV_len)).mono ?_
  rintro e w2 ⟨⟨A2, q2, c2, rfl, o2⟩, b2⟩
  have t2 := below_trans t1 b2
  have o1 := o1.below b2
  have o2_b := o2
  go_wp2_with fail
  refine (specRaise_any _ _ _ lp x _ (o1.rd ptV_len)).mono ?_
  rintro e w3 ⟨⟨A3, q3, c3, rfl, o3⟩, b3⟩
  have t3 := below_trans t2 b3
  have o1 := o1.below b3
  have o2 := o2.below b3
  have o3_b := o3
  go_wp2_with fail
  refine (vPoints_same _ _ _ _ _ _ _ _ (o2.rd ptV_len) (o3.rd ptV_len)).mono ?_
  rintro e w4 ⟨rfl, b4⟩
  have t4 := below_trans t3 b4
  have o1 := o1.below b4
  have o2 := o2.below b4
  have o3 := o3.below b4
  go_wp2_with fail
  refine (ArePoints_any _ _ _ _ _ (o1.rd ptV_len)).mono ?_
  rintro e w5 ⟨rfl, b5⟩
  have t5 := below_trans t4 b5
  have o1 := o1.below b5
  have o2 := o2.below b5
  have o3 := o3.below b5
  go_wp2_with fail
  refine (specAre_any _ _ _ _ _ (o1.rd ptV_len)).mono ?_
  rintro e w6 ⟨rfl, b6⟩
  have t6 := below_trans t5 b6
  have o1 := o1.below b6
  have o2 := o2.below b6
  have o3 := o3.below b6
  cases hok : raiG lp x
  · clear hok
    go_wp2_with fail
    refine (drawRule_any _ _ _ l _ (ha.below t6) hb).mono ?_
    rintro e w7 ⟨⟨A4, q4, c4, t, lx, rfl, hqx, o4⟩, b7⟩
    have t7 := below_trans t6 b7
    have o1 := o1.below b7
    have o2 := o2.below b7
    have o3 := o3.below b7
    have o4_b := o4
    go_wp2_with fail
    refine (implRulePoint_any _ _ _ lx t _ (o4.rd ptV_len)).mono ?_
    rintro e w8 ⟨⟨A5, q5, c5, rfl, o5⟩, b8⟩
    have t8 := below_trans t7 b8
    have o1 := o1.below b8
    have o2 := o2.below b8
    have o3 := o3.below b8
    have o4 := o4.below b8
    have o5_b := o5
    go_wp2_with fail
    refine (specRulePoint_any _ _ _ lx t _ (o4.rd ptV_len)).mono ?_
    rintro e w9 ⟨⟨A6, q6, c6, rfl, o6⟩, b9⟩
    have t9 := below_trans t8 b9
    have o1 := o1.below b9
    have o2 := o2.below b9
    have o3 := o3.below b9
    have o4 := o4.below b9
    have o5 := o5.below b9
    have o6_b := o6
    go_wp2_with fail
    refine (vPoints_same _ _ _ _ _ _ _ _ (o5.rd ptV_len) (o6.rd ptV_len)).mono ?_
    rintro e w10 ⟨rfl, b10⟩
    have t10 := below_trans t9 b10
    have o1 := o1.below b10
    have o2 := o2.below b10
    have o3 := o3.below b10
    have o4 := o4.below b10
    have o5 := o5.below b10
    have o6 := o6.below b10
    go_wp2_with fail
    refine (drawAppeal_any _ _ _ l _ (ha.below t10) hb).mono ?_
    rintro e w11 ⟨⟨A7, q7, c7, u, lu, rfl, hqu, hu0, hu1, o7⟩, b11⟩
    have t11 := below_trans t10 b11
    have o1 := o1.below b11
    have o2 := o2.below b11
    have o3 := o3.below b11
    have o4 := o4.below b11
    have o5 := o5.below b11
    have o6 := o6.below b11
    have o7_b := o7
    go_wp2_with fail
    refine (implAppeal_any _ _ _ lu u _ (o7.rd ptV_len)).mono ?_
    rintro e w12 ⟨⟨A8, q8, c8, rfl, o8⟩, b12⟩
    have t12 := below_trans t11 b12
    have o1 := o1.below b12
    have o2 := o2.below b12
    have o3 := o3.below b12
    have o4 := o4.below b12
    have o5 := o5.below b12
    have o6 := o6.below b12
    have o7 := o7.below b12
    have o8_b := o8
    go_wp2_with fail
    refine (specAppeal_any _ _ _ lu u _ (o7.rd ptV_len)).mono ?_
    rintro e w13 ⟨⟨A9, q9, c9, rfl, o9⟩, b13⟩
    have t13 := below_trans t12 b13
    have o1 := o1.below b13
    have o2 := o2.below b13
    have o3 := o3.below b13
    have o4 := o4.below b13
    have o5 := o5.below b13
    have o6 := o6.below b13
    have o7 := o7.below b13
    have o8 := o8.below b13
    have o9_b := o9
    go_wp2_with fail
    refine (vPoints_same _ _ _ _ _ _ _ _ (o8.rd ptV_len) (o9.rd ptV_len)).mono ?_
    rintro e w14 ⟨rfl, b14⟩
    have t14 := below_trans t13 b14
    have o1 := o1.below b14
    have o2 := o2.below b14
    have o3 := o3.below b14
    have o4 := o4.below b14
    have o5 := o5.below b14
    have o6 := o6.below b14
    have o7 := o7.below b14
    have o8 := o8.below b14
    have o9 := o9.below b14
    go_wp2_with fail
    refine (drawOrder_any _ _ _ l _ (ha.below t14) hb).mono ?_
    rintro e w15 ⟨⟨A10, q10, c10, lz, rfl, hqz, o10⟩, b15⟩
    have t15 := below_trans t14 b15
    have o1 := o1.below b15
    have o2 := o2.below b15
    have o3 := o3.below b15
    have o4 := o4.below b15
    have o5 := o5.below b15
    have o6 := o6.below b15
    have o7 := o7.below b15
    have o8 := o8.below b15
    have o9 := o9.below b15
    have o10_b := o10
    go_wp2_with fail
    refine (implOrder_any _ _ _ _ _ (o10.rd ptV_len)).mono ?_
    rintro e w16 ⟨rfl, b16⟩
    have t16 := below_trans t15 b16
    have o1 := o1.below b16
    have o2 := o2.below b16
    have o3 := o3.below b16
    have o4 := o4.below b16
    have o5 := o5.below b16
    have o6 := o6.below b16
    have o7 := o7.below b16
    have o8 := o8.below b16
    have o9 := o9.below b16
    have o10 := o10.below b16
    go_wp2_with fail
    refine (specOrder_any _ _ _ _ _ (o10.rd ptV_len)).mono ?_
    rintro e w17 ⟨rfl, b17⟩
    have t17 := below_trans t16 b17
    have o1 := o1.below b17
    have o2 := o2.below b17
    have o3 := o3.below b17
    have o4 := o4.below b17
    have o5 := o5.below b17
    have o6 := o6.below b17
    have o7 := o7.below b17
    have o8 := o8.below b17
    have o9 := o9.below b17
    have o10 := o10.below b17
    go_wp2
    go_ret
    exact ⟨rfl, t17⟩
  · have hqk : q2 = lp.length + 1 := by rw [← o2.len, raiL_yes hok]; simp
    have hik : ((q2 : Int) - 1) = (lp.length : Int) := by omega
    have CH := Lib.hid (chain_of (x := x) hok hik)
    obtain ⟨-, hx2, hx3⟩ := rai_base hok
    have hq7 : q2 ≤ 7 := by have := raiL_len lp x; rw [o2.len] at this; omega
    clear hok hik hqk
    go_wp2_with fail
    refine (implOutcome_any _ _ _ (raiL lp x) ((q2 : Int) - 1) _ (o2.rd ptV_len)).mono ?_
    rintro e w7 ⟨rfl, b7⟩
    have t7 := below_trans t6 b7
    have o1 := o1.below b7
    have o2 := o2.below b7
    have o3 := o3.below b7
    rw [CH.out.a1, CH.out.a2]
    go_wp2_with fail
    refine (implRulePoint_any _ _ _ (raiL lp x) true _ (o2.rd ptV_len)).mono ?_
    rintro e w8 ⟨⟨A4, q4, c4, rfl, o4⟩, b8⟩
    have t8 := below_trans t7 b8
    have o1 := o1.below b8
    have o2 := o2.below b8
    have o3 := o3.below b8
    have o4_b := o4
    rw [CH.out.b1]
    go_wp2_with fail
    refine (implOutcome_any _ _ _ (rulL (raiL lp x) true) ((q2 : Int) - 1) _ (o4.rd ptV_len)).mono ?_
    rintro e w9 ⟨rfl, b9⟩
    have t9 := below_trans t8 b9
    have o1 := o1.below b9
    have o2 := o2.below b9
    have o3 := o3.below b9
    have o4 := o4.below b9
    rw [CH.out.c1, CH.out.c2]
    go_wp2_with fail
    refine (implAppeal_any _ _ _ (rulL (raiL lp x) true) x _ (o4.rd ptV_len)).mono ?_
    rintro e w10 ⟨⟨A5, q5, c5, rfl, o5⟩, b10⟩
    have t10 := below_trans t9 b10
    have o1 := o1.below b10
    have o2 := o2.below b10
    have o3 := o3.below b10
    have o4 := o4.below b10
    have o5_b := o5
    rw [CH.out.d1]
    go_wp2_with fail
    refine (implAppeal_any _ _ _ (rulL (raiL lp x) true) (x % 99 + 1) _ (o4.rd ptV_len)).mono ?_
    rintro e w11 ⟨⟨A6, q6, c6, rfl, o6⟩, b11⟩
    have t11 := below_trans t10 b11
    have o1 := o1.below b11
    have o2 := o2.below b11
    have o3 := o3.below b11
    have o4 := o4.below b11
    have o5 := o5.below b11
    have o6_b := o6
    rw [CH.out.d2]
    go_wp2_with fail
    refine (implOrder_any _ _ _ (appL (rulL (raiL lp x) true) (x % 99 + 1)) _ (o6.rd ptV_len)).mono ?_
    rintro e w12 ⟨rfl, b12⟩
    have t12 := below_trans t11 b12
    have o1 := o1.below b12
    have o2 := o2.below b12
    have o3 := o3.below b12
    have o4 := o4.below b12
    have o5 := o5.below b12
    have o6 := o6.below b12
    rw [CH.out.e1, CH.out.e2]
    go_wp2_with fail
    refine (implDecide_any _ _ _ (appL (rulL (raiL lp x) true) (x % 99 + 1)) 1 2 0 _ (o6.rd ptV_len)).mono ?_
    rintro e w13 ⟨⟨A7, q7, c7, rfl, o7⟩, b13⟩
    have t13 := below_trans t12 b13
    have o1 := o1.below b13
    have o2 := o2.below b13
    have o3 := o3.below b13
    have o4 := o4.below b13
    have o5 := o5.below b13
    have o6 := o6.below b13
    have o7_b := o7
    rw [CH.out.f1]
    go_wp2_with fail
    refine (implOutcome_any _ _ _ (decL (appL (rulL (raiL lp x) true) (x % 99 + 1)) 1 2 0) ((q2 : Int) - 1) _ (o7.rd ptV_len)).mono ?_
    rintro e w14 ⟨rfl, b14⟩
    have t14 := below_trans t13 b14
    have o1 := o1.below b14
    have o2 := o2.below b14
    have o3 := o3.below b14
    have o4 := o4.below b14
    have o5 := o5.below b14
    have o6 := o6.below b14
    have o7 := o7.below b14
    rw [CH.out.g1, CH.out.g2]
    go_wp2_with fail
    refine (drawRule_any _ _ _ l _ (ha.below t14) hb).mono ?_
    rintro e w15 ⟨⟨A8, q8, c8, t, lx, rfl, hqx, o8⟩, b15⟩
    have t15 := below_trans t14 b15
    have o1 := o1.below b15
    have o2 := o2.below b15
    have o3 := o3.below b15
    have o4 := o4.below b15
    have o5 := o5.below b15
    have o6 := o6.below b15
    have o7 := o7.below b15
    have o8_b := o8
    go_wp2_with fail
    refine (implRulePoint_any _ _ _ lx t _ (o8.rd ptV_len)).mono ?_
    rintro e w16 ⟨⟨A9, q9, c9, rfl, o9⟩, b16⟩
    have t16 := below_trans t15 b16
    have o1 := o1.below b16
    have o2 := o2.below b16
    have o3 := o3.below b16
    have o4 := o4.below b16
    have o5 := o5.below b16
    have o6 := o6.below b16
    have o7 := o7.below b16
    have o8 := o8.below b16
    have o9_b := o9
    go_wp2_with fail
    refine (specRulePoint_any _ _ _ lx t _ (o8.rd ptV_len)).mono ?_
    rintro e w17 ⟨⟨A10, q10, c10, rfl, o10⟩, b17⟩
    have t17 := below_trans t16 b17
    have o1 := o1.below b17
    have o2 := o2.below b17
    have o3 := o3.below b17
    have o4 := o4.below b17
    have o5 := o5.below b17
    have o6 := o6.below b17
    have o7 := o7.below b17
    have o8 := o8.below b17
    have o9 := o9.below b17
    have o10_b := o10
    go_wp2_with fail
    refine (vPoints_same _ _ _ _ _ _ _ _ (o9.rd ptV_len) (o10.rd ptV_len)).mono ?_
    rintro e w18 ⟨rfl, b18⟩
    have t18 := below_trans t17 b18
    have o1 := o1.below b18
    have o2 := o2.below b18
    have o3 := o3.below b18
    have o4 := o4.below b18
    have o5 := o5.below b18
    have o6 := o6.below b18
    have o7 := o7.below b18
    have o8 := o8.below b18
    have o9 := o9.below b18
    have o10 := o10.below b18
    go_wp2_with fail
    refine (drawAppeal_any _ _ _ l _ (ha.below t18) hb).mono ?_
    rintro e w19 ⟨⟨A11, q11, c11, u, lu, rfl, hqu, hu0, hu1, o11⟩, b19⟩
    have t19 := below_trans t18 b19
    have o1 := o1.below b19
    have o2 := o2.below b19
    have o3 := o3.below b19
    have o4 := o4.below b19
    have o5 := o5.below b19
    have o6 := o6.below b19
    have o7 := o7.below b19
    have o8 := o8.below b19
    have o9 := o9.below b19
    have o10 := o10.below b19
    have o11_b := o11
    go_wp2_with fail
    refine (implAppeal_any _ _ _ lu u _ (o11.rd ptV_len)).mono ?_
    rintro e w20 ⟨⟨A12, q12, c12, rfl, o12⟩, b20⟩
    have t20 := below_trans t19 b20
    have o1 := o1.below b20
    have o2 := o2.below b20
    have o3 := o3.below b20
    have o4 := o4.below b20
    have o5 := o5.below b20
    have o6 := o6.below b20
    have o7 := o7.below b20
    have o8 := o8.below b20
    have o9 := o9.below b20
    have o10 := o10.below b20
    have o11 := o11.below b20
    have o12_b := o12
    go_wp2_with fail
    refine (specAppeal_any _ _ _ lu u _ (o11.rd ptV_len)).mono ?_
    rintro e w21 ⟨⟨A13, q13, c13, rfl, o13⟩, b21⟩
    have t21 := below_trans t20 b21
    have o1 := o1.below b21
    have o2 := o2.below b21
    have o3 := o3.below b21
    have o4 := o4.below b21
    have o5 := o5.below b21
    have o6 := o6.below b21
    have o7 := o7.below b21
    have o8 := o8.below b21
    have o9 := o9.below b21
    have o10 := o10.below b21
    have o11 := o11.below b21
    have o12 := o12.below b21
    have o13_b := o13
    go_wp2_with fail
    refine (vPoints_same _ _ _ _ _ _ _ _ (o12.rd ptV_len) (o13.rd ptV_len)).mono ?_
    rintro e w22 ⟨rfl, b22⟩
    have t22 := below_trans t21 b22
    have o1 := o1.below b22
    have o2 := o2.below b22
    have o3 := o3.below b22
    have o4 := o4.below b22
    have o5 := o5.below b22
    have o6 := o6.below b22
    have o7 := o7.below b22
    have o8 := o8.below b22
    have o9 := o9.below b22
    have o10 := o10.below b22
    have o11 := o11.below b22
    have o12 := o12.below b22
    have o13 := o13.below b22
    go_wp2_with fail
    refine (drawOrder_any _ _ _ l _ (ha.below t22) hb).mono ?_
    rintro e w23 ⟨⟨A14, q14, c14, lz, rfl, hqz, o14⟩, b23⟩
    have t23 := below_trans t22 b23
    have o1 := o1.below b23
    have o2 := o2.below b23
    have o3 := o3.below b23
    have o4 := o4.below b23
    have o5 := o5.below b23
    have o6 := o6.below b23
    have o7 := o7.below b23
    have o8 := o8.below b23
    have o9 := o9.below b23
    have o10 := o10.below b23
    have o11 := o11.below b23
    have o12 := o12.below b23
    have o13 := o13.below b23
    have o14_b := o14
    go_wp2_with fail
    refine (implOrder_any _ _ _ _ _ (o14.rd ptV_len)).mono ?_
    rintro e w24 ⟨rfl, b24⟩
    have t24 := below_trans t23 b24
    have o1 := o1.below b24
    have o2 := o2.below b24
    have o3 := o3.below b24
    have o4 := o4.below b24
    have o5 := o5.below b24
    have o6 := o6.below b24
    have o7 := o7.below b24
    have o8 := o8.below b24
    have o9 := o9.below b24
    have o10 := o10.below b24
    have o11 := o11.below b24
    have o12 := o12.below b24
    have o13 := o13.below b24
    have o14 := o14.below b24
    go_wp2_with fail
    refine (specOrder_any _ _ _ _ _ (o14.rd ptV_len)).mono ?_
    rintro e w25 ⟨rfl, b25⟩
    have t25 := below_trans t24 b25
    have o1 := o1.below b25
    have o2 := o2.below b25
    have o3 := o3.below b25
    have o4 := o4.below b25
    have o5 := o5.below b25
    have o6 := o6.below b25
    have o7 := o7.below b25
    have o8 := o8.below b25
    have o9 := o9.below b25
    have o10 := o10.below b25
    have o11 := o11.below b25
    have o12 := o12.below b25
    have o13 := o13.below b25
    have o14 := o14.below b25
    go_wp2
    go_ret
    exact ⟨rfl, t25⟩

set_option maxRecDepth 100000 in
theorem lifted (os : Os) (started : os.Started) (H : Type) (enc : TypeId × Value → H) :
    ReturnsInHanded {} Try.checked os 5 .any (Rows.fnPointsSpec.pre6 enc Try.prog Try.f5 Rows.fnPointsRow.domain false) (Rows.fnPointsSpec.post enc Try.prog Try.f5 false true false false) := by
  refine returnsInHanded_of_change (C := Try.checked) own started (by kernel_rfl) Try.func5
    (ChangeSpec.witness6 (enc := enc) (C := Try.checked) false ⟨#[], #[.slice none 0 0], []⟩ 8 (by kernel_rfl) (by kernel_rfl) (by kernel_rfl) (by kernel_rfl)) ?_
  intro W base args ds gs before hval0 hW hcnd _
  have hval : ∀ (j : Nat) t v, Try.f5.params[j]? = some t → args[j]? = some v → Value.okWide Try.prog W .any base t v := hval0
  have hW' := hW
  obtain ⟨p, q, hA0, hV, rfl, hfz, hnd⟩ := hW
  have hA : DataW.TrodAll enc Try.prog W 0 (fun _ => true) true Try.f5.params.toList args.toList ds p := hA0
  rw [Try.params5] at hA hval
  obtain ⟨v0, vs0, d0, ds0, p0, q0, hargs, rfl, rfl, h0, r0⟩ := trodAll_cons hA
  obtain ⟨rfl, rfl, rfl⟩ := trodAll_nil r0
  obtain rfl : args = #[v0] := by cases args; simp_all
  obtain ⟨rfl, rfl⟩ := trodVars_none hV
  obtain ⟨A0, n0, c0, l0, rfl, R0, G0⟩ := open_rd (ec := byV) Try.underlying33 (by kernel_rfl) (read_bytes) (by omega) byV_len (hval 0 33 v0 rfl rfl) h0
  refine (walk A0 n0 c0 l0 W R0 G0).mono fun e W' ⟨he, hb⟩ => ?_
  subst he
  exact ⟨_, rfl, law_post laidOut (by kernel_rfl) (by kernel_rfl) Try.underlying4 rfl hW' rfl rfl rfl hb⟩

theorem over : Rows.fnPointsRow.holds Try.pinned (OpenSpec.ofChange Rows.fnPointsSpec) :=
  OpenClaim.holds_of_wide 5 Try.f5 rfl rfl rfl rfl rfl rfl rfl ⟨rfl, rfl, rfl, rfl, rfl⟩ rfl rfl rfl rfl rfl (by kernel_rfl) Try.func5 (by kernel_rfl)
    (of_decide_eq_true (by kernel_rfl)) (by unfold Func.isWrapper; rw [if_neg (of_decide_eq_false (by kernel_rfl))]; exact ⟨rfl, rfl⟩)
    (fun os started H enc _ => lifted os started H enc)

theorem proved : Rows.FnPointsSaid :=
  over
#print axioms proved
end Go.Proofs.Ytjeldedmaanhbaa.fnPoints
