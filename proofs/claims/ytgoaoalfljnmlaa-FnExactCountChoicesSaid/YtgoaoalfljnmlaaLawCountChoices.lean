/- FnExactCountChoices: for all arguments the program's CountChoices and the reference's return the same, the arguments are left as they were, and the results' memory is shared with nothing. No condition.
-/
import Derived.Test.YtgoaoalfljnmlaaRead
import Derived.Test.YtgoaoalfljnmlaaBalK
namespace Go.Proofs.Ytgoaoalfljnmlaa.fnExactCountChoices
open Go Go.ChangeShapes Go.WideShapes Go.ChangeAt Go.RowKit Go.Sort
open Go.ChangeMaps (open_string)
set_option linter.unusedVariables false

theorem own : ownKnob Try.prog.godebug = none := by kernel_rfl
theorem laidOut : laidOutB Try.prog = true := by kernel_rfl

set_option maxRecDepth 100000 in
set_option maxHeartbeats 4000000 in
theorem walk (Al : Option Addr) (nl cl : Nat) (l : List BA) (Ar : Option Addr) (nr cr : Nat) (r : List Int) (w : World) (hal : Rd baV 2 w Al nl cl l) (hgl : ∀ s ∈ l, baGood s) (har : Rd inV 1 w Ar nr cr r) (hgr : ∀ s ∈ r, in64 s) :
    Calls Try.prog 10 #[.slice Al nl cl, .slice Ar nr cr] w fun e w' => e = .returned (.bool true) ∧ Below w.heap.size w w' := by
  go_enter Try.func10, Try.ntmps10
  by_cases hsr : (1048576 : Int) < (nr : Nat)
  · go_wp2
    go_ret
    exact ⟨rfl, (Below.refl _ _)⟩
  have hnr : nr ≤ 1048576 := by omega
  go_wp2_with fail
  refine (szBallotS_any _ _ _ _ _ _ hal (by omega) (by omega) (fun s hs => (hgl s hs).2)).mono ?_
  rintro e w1 ⟨⟨r1, rfl, hr⟩, b1⟩
  have t1 := b1
  rcases hr with rfl | hr
  · go_wp2
    go_ret
    exact ⟨rfl, t1⟩
  obtain ⟨hr1a, hr1b, hln, hstl⟩ := hr
  have hnl : nl ≤ 1048576 := by have := hal.len; omega
  clear hln
  have hzl : ∀ s ∈ l, s.ch.size ≤ 1048576 := fun s hs => by have := hstl s hs; omega
  have hsz : ∀ s ∈ l, BaSz s := fun s hs => (hgl s hs).2
  have hlen : (couL l r).length ≤ nl := by rw [← hal.len]; exact couL_len l r
  go_wp2_with fail
  refine (toBallotS_any _ _ _ _ _ (hal.below t1) hnl).mono ?_
  rintro e w2 ⟨A1, c1, rfl, o1, b2⟩
  have t2 := below_trans t1 b2
  have o1_b := o1
  go_wp2_with fail
  refine (toIntS_any _ _ _ _ _ (har.below t2) hnr).mono ?_
  rintro e w3 ⟨A2, c2, rfl, o2, b3⟩
  have t3 := below_trans t2 b3
  have o1 := o1.below b3
  have o2_b := o2
  go_wp2_with fail
  refine (specCount_any _ _ _ l _ _ _ r _ (o1.rd baV_len) (o2.rd inV_len) hnl hsz).mono ?_
  rintro e w4 ⟨⟨A3, q3, c3, A4, c4, rfl, o3, o4⟩, b4⟩
  have t4 := below_trans t3 b4
  have o1 := o1.below b4
  have o2 := o2.below b4
  have o3_b := o3
  have o4_b := o4
  go_wp2_with fail
  refine (toBallotS_any _ _ _ _ _ (hal.below t4) hnl).mono ?_
  rintro e w5 ⟨A5, c5, rfl, o5, b5⟩
  have t5 := below_trans t4 b5
  have o1 := o1.below b5
  have o2 := o2.below b5
  have o3 := o3.below b5
  have o4 := o4.below b5
  have o5_b := o5
  go_wp2_with fail
  refine (toIntS_any _ _ _ _ _ (har.below t5) hnr).mono ?_
  rintro e w6 ⟨A6, c6, rfl, o6, b6⟩
  have t6 := below_trans t5 b6
  have o1 := o1.below b6
  have o2 := o2.below b6
  have o3 := o3.below b6
  have o4 := o4.below b6
  have o5 := o5.below b6
  have o6_b := o6
  go_wp2_with fail
  refine (implCount_any _ _ _ l _ _ _ r _ (o5.rd baV_len) (o6.rd inV_len) hnl hsz).mono ?_
  rintro e w7 ⟨⟨A7, q7, c7, A8, c8, rfl, o7, o8⟩, b7⟩
  have t7 := below_trans t6 b7
  have o1 := o1.below b7
  have o2 := o2.below b7
  have o3 := o3.below b7
  have o4 := o4.below b7
  have o5 := o5.below b7
  have o6 := o6.below b7
  have o7_b := o7
  have o8_b := o8
  have hqg : q7 ≤ 1048577 := by have h9 := o7.len; simp only [List.length_map] at h9; omega
  go_wp2_with fail
  refine (eqStringS_same _ _ _ _ _ _ _ _ (o7.rd stV_len) (o3.rd stV_len)).mono ?_
  rintro e w8 ⟨rfl, b8⟩
  have t8 := below_trans t7 b8
  have o1 := o1.below b8
  have o2 := o2.below b8
  have o3 := o3.below b8
  have o4 := o4.below b8
  have o5 := o5.below b8
  have o6 := o6.below b8
  have o7 := o7.below b8
  have o8 := o8.below b8
  go_wp2_with fail
  refine (eqIntS_same _ _ _ _ _ _ _ _ (o8.rd inV_len) (o4.rd inV_len)).mono ?_
  rintro e w9 ⟨rfl, b9⟩
  have t9 := below_trans t8 b9
  have o1 := o1.below b9
  have o2 := o2.below b9
  have o3 := o3.below b9
  have o4 := o4.below b9
  have o5 := o5.below b9
  have o6 := o6.below b9
  have o7 := o7.below b9
  have o8 := o8.below b9
  go_wp2_with fail
  refine (toBallotS_any _ _ _ _ _ (hal.below t9) hnl).mono ?_
  rintro e w10 ⟨A9, c9, rfl, o9, b10⟩
  have t10 := below_trans t9 b10
  have o1 := o1.below b10
  have o2 := o2.below b10
  have o3 := o3.below b10
  have o4 := o4.below b10
  have o5 := o5.below b10
  have o6 := o6.below b10
  have o7 := o7.below b10
  have o8 := o8.below b10
  have o9_b := o9
  go_wp2_with fail
  refine (eqBallotS_same _ _ _ _ _ _ _ _ (o5.rd baV_len) (o9.rd baV_len)).mono ?_
  rintro e w11 ⟨rfl, b11⟩
  have t11 := below_trans t10 b11
  have o1 := o1.below b11
  have o2 := o2.below b11
  have o3 := o3.below b11
  have o4 := o4.below b11
  have o5 := o5.below b11
  have o6 := o6.below b11
  have o7 := o7.below b11
  have o8 := o8.below b11
  have o9 := o9.below b11
  go_wp2_with fail
  refine (toIntS_any _ _ _ _ _ (har.below t11) hnr).mono ?_
  rintro e w12 ⟨A10, c10, rfl, o10, b12⟩
  have t12 := below_trans t11 b12
  have o1 := o1.below b12
  have o2 := o2.below b12
  have o3 := o3.below b12
  have o4 := o4.below b12
  have o5 := o5.below b12
  have o6 := o6.below b12
  have o7 := o7.below b12
  have o8 := o8.below b12
  have o9 := o9.below b12
  have o10_b := o10
  go_wp2_with fail
  refine (eqIntS_same _ _ _ _ _ _ _ _ (o6.rd inV_len) (o10.rd inV_len)).mono ?_
  rintro e w13 ⟨rfl, b13⟩
  have t13 := below_trans t12 b13
  have o1 := o1.below b13
  have o2 := o2.below b13
  have o3 := o3.below b13
  have o4 := o4.below b13
  have o5 := o5.below b13
  have o6 := o6.below b13
  have o7 := o7.below b13
  have o8 := o8.below b13
  have o9 := o9.below b13
  have o10 := o10.below b13
  go_wp2_with fail
  refine (markBallotS_any _ _ _ _ _ _ _ _ o5 (by omega) (by omega) (by omega) (Nat.le_trans (Nat.le_trans (Nat.le_trans (Nat.le_trans (Nat.le_trans (Nat.le_trans (Nat.le_trans (Nat.le_trans b5.size b6.size) b7.size) b8.size) b9.size) b10.size) b11.size) b12.size) b13.size)).mono ?_
  rintro e w14 ⟨rfl, o5_m, g14⟩
  have o1_n := o1.grown g14 (Own.apart' o1_b o5 (Nat.le_trans b3.size b4.size))
  have o2_n := o2.grown g14 (Own.apart' o2_b o5 b4.size)
  have o3_n := o3.grown g14 (Own.apart' o3_b o5 (Nat.le_refl _))
  have o4_n := o4.grown g14 (Own.apart' o4_b o5 (Nat.le_refl _))
  have o6_n := o6.grown g14 (Own.apart o5_b o6 (Nat.le_refl _))
  have o7_n := o7.grown g14 (Own.apart o5_b o7 b6.size)
  have o8_n := o8.grown g14 (Own.apart o5_b o8 b6.size)
  have o9_n := o9.grown g14 (Own.apart o5_b o9 (Nat.le_trans (Nat.le_trans (Nat.le_trans b6.size b7.size) b8.size) b9.size))
  have o10_n := o10.grown g14 (Own.apart o5_b o10 (Nat.le_trans (Nat.le_trans (Nat.le_trans (Nat.le_trans (Nat.le_trans b6.size b7.size) b8.size) b9.size) b10.size) b11.size))
  have t14 := t13.trans (o5.below_of g14 t4.size t13.size)
  clear o5 o1 o2 o3 o4 o6 o7 o8 o9 o10
  have o1 := o1_n
  have o2 := o2_n
  have o3 := o3_n
  have o4 := o4_n
  have o6 := o6_n
  have o7 := o7_n
  have o8 := o8_n
  have o9 := o9_n
  have o10 := o10_n
  have o5 := o5_m
  clear o5_m o1_n o2_n o3_n o4_n o6_n o7_n o8_n o9_n o10_n
  go_wp2_with fail
  refine (markIntS_any _ _ _ _ _ _ _ _ o6 (by omega) (by omega) (by omega) (Nat.le_trans (Nat.le_trans (Nat.le_trans (Nat.le_trans (Nat.le_trans (Nat.le_trans (Nat.le_trans (Nat.le_trans b6.size b7.size) b8.size) b9.size) b10.size) b11.size) b12.size) b13.size) g14.size)).mono ?_
  rintro e w15 ⟨rfl, o6_m, g15⟩
  have o1_n := o1.grown g15 (Own.apart' o1_b o6 (Nat.le_trans (Nat.le_trans b3.size b4.size) b5.size))
  have o2_n := o2.grown g15 (Own.apart' o2_b o6 (Nat.le_trans b4.size b5.size))
  have o3_n := o3.grown g15 (Own.apart' o3_b o6 b5.size)
  have o4_n := o4.grown g15 (Own.apart' o4_b o6 b5.size)
  have o5_n := o5.grown g15 (Own.apart' o5_b o6 (Nat.le_refl _))
  have o7_n := o7.grown g15 (Own.apart o6_b o7 (Nat.le_refl _))
  have o8_n := o8.grown g15 (Own.apart o6_b o8 (Nat.le_refl _))
  have o9_n := o9.grown g15 (Own.apart o6_b o9 (Nat.le_trans (Nat.le_trans b7.size b8.size) b9.size))
  have o10_n := o10.grown g15 (Own.apart o6_b o10 (Nat.le_trans (Nat.le_trans (Nat.le_trans (Nat.le_trans b7.size b8.size) b9.size) b10.size) b11.size))
  have t15 := t14.trans (o6.below_of g15 t5.size t14.size)
  clear o6 o1 o2 o3 o4 o5 o7 o8 o9 o10
  have o1 := o1_n
  have o2 := o2_n
  have o3 := o3_n
  have o4 := o4_n
  have o5 := o5_n
  have o7 := o7_n
  have o8 := o8_n
  have o9 := o9_n
  have o10 := o10_n
  have o6 := o6_m
  clear o6_m o1_n o2_n o3_n o4_n o5_n o7_n o8_n o9_n o10_n
  go_wp2_with fail
  refine (eqStringS_same _ _ _ _ _ _ _ _ (o7.rd stV_len) (o3.rd stV_len)).mono ?_
  rintro e w16 ⟨rfl, b16⟩
  have t16 := below_trans t15 b16
  have o1 := o1.below b16
  have o2 := o2.below b16
  have o3 := o3.below b16
  have o4 := o4.below b16
  have o5 := o5.below b16
  have o6 := o6.below b16
  have o7 := o7.below b16
  have o8 := o8.below b16
  have o9 := o9.below b16
  have o10 := o10.below b16
  go_wp2_with fail
  refine (eqIntS_same _ _ _ _ _ _ _ _ (o8.rd inV_len) (o4.rd inV_len)).mono ?_
  rintro e w17 ⟨rfl, b17⟩
  have t17 := below_trans t16 b17
  have o1 := o1.below b17
  have o2 := o2.below b17
  have o3 := o3.below b17
  have o4 := o4.below b17
  have o5 := o5.below b17
  have o6 := o6.below b17
  have o7 := o7.below b17
  have o8 := o8.below b17
  have o9 := o9.below b17
  have o10 := o10.below b17
  go_wp2_with fail
  refine (markStringS_any _ _ _ _ _ _ _ _ o7 (by omega) (by omega) (by omega) (Nat.le_trans (Nat.le_trans (Nat.le_trans (Nat.le_trans (Nat.le_trans (Nat.le_trans (Nat.le_trans (Nat.le_trans (Nat.le_trans (Nat.le_trans b7.size b8.size) b9.size) b10.size) b11.size) b12.size) b13.size) g14.size) g15.size) b16.size) b17.size)).mono ?_
  rintro e w18 ⟨rfl, o7_m, g18⟩
  have o1_n := o1.grown g18 (Own.apart' o1_b o7 (Nat.le_trans (Nat.le_trans (Nat.le_trans b3.size b4.size) b5.size) b6.size))
  have o2_n := o2.grown g18 (Own.apart' o2_b o7 (Nat.le_trans (Nat.le_trans b4.size b5.size) b6.size))
  have o3_n := o3.grown g18 (Own.apart' o3_b o7 (Nat.le_trans b5.size b6.size))
  have o4_n := o4.grown g18 (Own.apart' o4_b o7 (Nat.le_trans b5.size b6.size))
  have o5_n := o5.grown g18 (Own.apart' o5_b o7 b6.size)
  have o6_n := o6.grown g18 (Own.apart' o6_b o7 (Nat.le_refl _))
  have o8_n := o8.grown g18 (o8.ne_block o7 (by decide))
  have o9_n := o9.grown g18 (Own.apart o7_b o9 (Nat.le_trans b8.size b9.size))
  have o10_n := o10.grown g18 (Own.apart o7_b o10 (Nat.le_trans (Nat.le_trans (Nat.le_trans b8.size b9.size) b10.size) b11.size))
  have t18 := t17.trans (o7.below_of g18 t6.size t17.size)
  clear o7 o1 o2 o3 o4 o5 o6 o8 o9 o10
  have o1 := o1_n
  have o2 := o2_n
  have o3 := o3_n
  have o4 := o4_n
  have o5 := o5_n
  have o6 := o6_n
  have o8 := o8_n
  have o9 := o9_n
  have o10 := o10_n
  have o7 := o7_m
  clear o7_m o1_n o2_n o3_n o4_n o5_n o6_n o8_n o9_n o10_n
  go_wp2_with fail
  refine (markIntS_any _ _ _ _ _ _ _ _ o8 (by omega) (by omega) (by omega) (Nat.le_trans (Nat.le_trans (Nat.le_trans (Nat.le_trans (Nat.le_trans (Nat.le_trans (Nat.le_trans (Nat.le_trans (Nat.le_trans (Nat.le_trans (Nat.le_trans b7.size b8.size) b9.size) b10.size) b11.size) b12.size) b13.size) g14.size) g15.size) b16.size) b17.size) g18.size)).mono ?_
  rintro e w19 ⟨rfl, o8_m, g19⟩
  have o1_n := o1.grown g19 (Own.apart' o1_b o8 (Nat.le_trans (Nat.le_trans (Nat.le_trans b3.size b4.size) b5.size) b6.size))
  have o2_n := o2.grown g19 (Own.apart' o2_b o8 (Nat.le_trans (Nat.le_trans b4.size b5.size) b6.size))
  have o3_n := o3.grown g19 (Own.apart' o3_b o8 (Nat.le_trans b5.size b6.size))
  have o4_n := o4.grown g19 (Own.apart' o4_b o8 (Nat.le_trans b5.size b6.size))
  have o5_n := o5.grown g19 (Own.apart' o5_b o8 b6.size)
  have o6_n := o6.grown g19 (Own.apart' o6_b o8 (Nat.le_refl _))
  have o7_n := o7.grown g19 (o7.ne_block o8 (by decide))
  have o9_n := o9.grown g19 (Own.apart o8_b o9 (Nat.le_trans b8.size b9.size))
  have o10_n := o10.grown g19 (Own.apart o8_b o10 (Nat.le_trans (Nat.le_trans (Nat.le_trans b8.size b9.size) b10.size) b11.size))
  have t19 := t18.trans (o8.below_of g19 t6.size t18.size)
  clear o8 o1 o2 o3 o4 o5 o6 o7 o9 o10
  have o1 := o1_n
  have o2 := o2_n
  have o3 := o3_n
  have o4 := o4_n
  have o5 := o5_n
  have o6 := o6_n
  have o7 := o7_n
  have o9 := o9_n
  have o10 := o10_n
  have o8 := o8_m
  clear o8_m o1_n o2_n o3_n o4_n o5_n o6_n o7_n o9_n o10_n
  go_wp2_with fail
  refine (heldStringS_any _ _ _ _ _ (o7.rd stV_len) (by omega) (by omega) (by omega)).mono ?_
  rintro e w20 ⟨rfl, b20⟩
  have t20 := below_trans t19 b20
  have o1 := o1.below b20
  have o2 := o2.below b20
  have o3 := o3.below b20
  have o4 := o4.below b20
  have o5 := o5.below b20
  have o6 := o6.below b20
  have o7 := o7.below b20
  have o8 := o8.below b20
  have o9 := o9.below b20
  have o10 := o10.below b20
  go_wp2_with fail
  refine (heldIntS_any _ _ _ _ _ (o8.rd inV_len) (by omega) (by omega) (by omega)).mono ?_
  rintro e w21 ⟨rfl, b21⟩
  have t21 := below_trans t20 b21
  have o1 := o1.below b21
  have o2 := o2.below b21
  have o3 := o3.below b21
  have o4 := o4.below b21
  have o5 := o5.below b21
  have o6 := o6.below b21
  have o7 := o7.below b21
  have o8 := o8.below b21
  have o9 := o9.below b21
  have o10 := o10.below b21
  go_wp2_with fail
  refine (toBallotS_any _ _ _ _ _ (hal.below t21) hnl).mono ?_
  rintro e w22 ⟨A11, c11, rfl, o11, b22⟩
  have t22 := below_trans t21 b22
  have o1 := o1.below b22
  have o2 := o2.below b22
  have o3 := o3.below b22
  have o4 := o4.below b22
  have o5 := o5.below b22
  have o6 := o6.below b22
  have o7 := o7.below b22
  have o8 := o8.below b22
  have o9 := o9.below b22
  have o10 := o10.below b22
  have o11_b := o11
  go_wp2_with fail
  refine (toIntS_any _ _ _ _ _ (har.below t22) hnr).mono ?_
  rintro e w23 ⟨A12, c12, rfl, o12, b23⟩
  have t23 := below_trans t22 b23
  have o1 := o1.below b23
  have o2 := o2.below b23
  have o3 := o3.below b23
  have o4 := o4.below b23
  have o5 := o5.below b23
  have o6 := o6.below b23
  have o7 := o7.below b23
  have o8 := o8.below b23
  have o9 := o9.below b23
  have o10 := o10.below b23
  have o11 := o11.below b23
  have o12_b := o12
  go_wp2_with fail
  refine (implCount_any _ _ _ l _ _ _ r _ (o11.rd baV_len) (o12.rd inV_len) hnl hsz).mono ?_
  rintro e w24 ⟨⟨A13, q13, c13, A14, c14, rfl, o13, o14⟩, b24⟩
  have t24 := below_trans t23 b24
  have o1 := o1.below b24
  have o2 := o2.below b24
  have o3 := o3.below b24
  have o4 := o4.below b24
  have o5 := o5.below b24
  have o6 := o6.below b24
  have o7 := o7.below b24
  have o8 := o8.below b24
  have o9 := o9.below b24
  have o10 := o10.below b24
  have o11 := o11.below b24
  have o12 := o12.below b24
  have o13_b := o13
  have o14_b := o14
  go_wp2_with fail
  refine (eqStringS_same _ _ _ _ _ _ _ _ (o13.rd stV_len) (o3.rd stV_len)).mono ?_
  rintro e w25 ⟨rfl, b25⟩
  have t25 := below_trans t24 b25
  have o1 := o1.below b25
  have o2 := o2.below b25
  have o3 := o3.below b25
  have o4 := o4.below b25
  have o5 := o5.below b25
  have o6 := o6.below b25
  have o7 := o7.below b25
  have o8 := o8.below b25
  have o9 := o9.below b25
  have o10 := o10.below b25
  have o11 := o11.below b25
  have o12 := o12.below b25
  have o13 := o13.below b25
  have o14 := o14.below b25
  go_wp2_with fail
  refine (eqIntS_same _ _ _ _ _ _ _ _ (o14.rd inV_len) (o4.rd inV_len)).mono ?_
  rintro e w26 ⟨rfl, b26⟩
  have t26 := below_trans t25 b26
  have o1 := o1.below b26
  have o2 := o2.below b26
  have o3 := o3.below b26
  have o4 := o4.below b26
  have o5 := o5.below b26
  have o6 := o6.below b26
  have o7 := o7.below b26
  have o8 := o8.below b26
  have o9 := o9.below b26
  have o10 := o10.below b26
  have o11 := o11.below b26
  have o12 := o12.below b26
  have o13 := o13.below b26
  have o14 := o14.below b26
  go_wp2_with fail
  refine (heldStringS_any _ _ _ _ _ (o7.rd stV_len) (by omega) (by omega) (by omega)).mono ?_
  rintro e w27 ⟨rfl, b27⟩
  have t27 := below_trans t26 b27
  have o1 := o1.below b27
  have o2 := o2.below b27
  have o3 := o3.below b27
  have o4 := o4.below b27
  have o5 := o5.below b27
  have o6 := o6.below b27
  have o7 := o7.below b27
  have o8 := o8.below b27
  have o9 := o9.below b27
  have o10 := o10.below b27
  have o11 := o11.below b27
  have o12 := o12.below b27
  have o13 := o13.below b27
  have o14 := o14.below b27
  go_wp2_with fail
  refine (heldIntS_any _ _ _ _ _ (o8.rd inV_len) (by omega) (by omega) (by omega)).mono ?_
  rintro e w28 ⟨rfl, b28⟩
  have t28 := below_trans t27 b28
  have o1 := o1.below b28
  have o2 := o2.below b28
  have o3 := o3.below b28
  have o4 := o4.below b28
  have o5 := o5.below b28
  have o6 := o6.below b28
  have o7 := o7.below b28
  have o8 := o8.below b28
  have o9 := o9.below b28
  have o10 := o10.below b28
  have o11 := o11.below b28
  have o12 := o12.below b28
  have o13 := o13.below b28
  have o14 := o14.below b28
  go_wp2
  go_ret
  exact ⟨rfl, t28⟩

set_option maxRecDepth 100000 in
theorem lifted (os : Os) (started : os.Started) (H : Type) (enc : TypeId × Value → H) :
    ReturnsInHanded {} Try.checked os 10 .any (Rows.fnExactCountChoicesSpec.pre6 enc Try.prog Try.f10 Rows.fnExactCountChoicesRow.domain false) (Rows.fnExactCountChoicesSpec.post enc Try.prog Try.f10 false true false false) := by
  refine returnsInHanded_of_change (C := Try.checked) own started (by kernel_rfl) Try.func10
    (ChangeSpec.witness6 (enc := enc) (C := Try.checked) false ⟨#[], #[.slice none 0 0, .slice none 0 0], []⟩ 8 (by kernel_rfl) (by kernel_rfl) (by kernel_rfl) (by kernel_rfl)) ?_
  intro W base args ds gs before hval0 hW hcnd _
  have hval : ∀ (j : Nat) t v, Try.f10.params[j]? = some t → args[j]? = some v → Value.okWide Try.prog W .any base t v := hval0
  have hW' := hW
  obtain ⟨p, q, hA0, hV, rfl, hfz, hnd⟩ := hW
  have hA : DataW.TrodAll enc Try.prog W 0 (fun _ => true) true Try.f10.params.toList args.toList ds p := hA0
  rw [Try.params10] at hA hval
  obtain ⟨v0, vs0, d0, ds0, p0, q0, hargs, rfl, rfl, h0, r0⟩ := trodAll_cons hA
  obtain ⟨v1, vs1, d1, ds1, p1, q1, rfl, rfl, rfl, h1, r1⟩ := trodAll_cons r0
  obtain ⟨rfl, rfl, rfl⟩ := trodAll_nil r1
  obtain rfl : args = #[v0, v1] := by cases args; simp_all
  obtain ⟨rfl, rfl⟩ := trodVars_none hV
  obtain ⟨A0, n0, c0, l0, rfl, R0, G0⟩ := open_rd (ec := baV) Try.underlying22 (by kernel_rfl) (read_ba) (by omega) baV_len (hval 0 22 v0 rfl rfl) h0
  obtain ⟨A1, n1, c1, l1, rfl, R1, G1⟩ := open_rd (ec := inV) Try.underlying29 (by kernel_rfl) (read_ints) (by omega) inV_len (hval 1 29 v1 rfl rfl) h1
  refine (walk A0 n0 c0 l0 A1 n1 c1 l1 W R0 G0 R1 G1).mono fun e W' ⟨he, hb⟩ => ?_
  subst he
  exact ⟨_, rfl, law_post laidOut (by kernel_rfl) (by kernel_rfl) Try.underlying4 rfl hW' rfl rfl rfl hb⟩

theorem over : Rows.fnExactCountChoicesRow.holds Try.pinned (OpenSpec.ofChange Rows.fnExactCountChoicesSpec) :=
  OpenClaim.holds_of_wide 10 Try.f10 rfl rfl rfl rfl rfl rfl rfl ⟨rfl, rfl, rfl, rfl, rfl⟩ rfl rfl rfl rfl rfl (by kernel_rfl) Try.func10 (by kernel_rfl)
    (of_decide_eq_true (by kernel_rfl)) (by unfold Func.isWrapper; rw [if_neg (of_decide_eq_false (by kernel_rfl))]; exact ⟨rfl, rfl⟩)
    (fun os started H enc _ => lifted os started H enc)

theorem proved : Rows.FnExactCountChoicesSaid :=
  over
#print axioms proved
end Go.Proofs.Ytgoaoalfljnmlaa.fnExactCountChoices
