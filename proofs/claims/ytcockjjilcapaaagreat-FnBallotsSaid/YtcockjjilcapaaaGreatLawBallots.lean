/- FnBallots: for every code of at most 65536 bytes: CountChoices, GoodBallots, BlankBallots, StrayCodes, UnusedCodes and SortBox answer as the reference at what is drawn; the counts and the blank ballots make the good ones, a sorted box has the same counts, and no good ballot's code is stray or unused. No condition.
-/
import Derived.Test.YtcockjjilcapaaaGreatRead
import Derived.Test.YtcockjjilcapaaaGreatByt
import Derived.Test.YtcockjjilcapaaaGreatBalDC
import Derived.Test.YtcockjjilcapaaaGreatVee
import Derived.Deep.DeepCutAuto
namespace Go.Proofs.YtcockjjilcapaaaGreat.fnBallots
open Go Go.ChangeShapes Go.WideShapes Go.ChangeAt Go.RowKit Go.Sort
open Go.ChangeMaps (open_string)
set_option linter.unusedVariables false

theorem own : ownKnob Tryz.prog.godebug = none := by kernel_rfl
theorem laidOut : laidOutB Tryz.prog = true := by kernel_rfl

set_option maxRecDepth 100000 in
set_option maxHeartbeats 16000000 in
theorem walk (A : Option Addr) (n c : Nat) (l : List Int) (w : World) (ha : Rd byV 1 w A n c l) (hb : ∀ x ∈ l, 0 ≤ x ∧ x ≤ 255) :
    Calls Tryz.prog 3 #[.slice A n c] w fun e w' => e = .returned (.bool true) ∧ Below w.heap.size w w' := by
  have hm := ha.le
  go_enter Tryz.func3, Tryz.ntmps3
  go_wp2_with fail
  refine (vBig_any _ _ _ _ hm).mono ?_
  rintro e wx ⟨rfl, rfl⟩
  by_cases hbig : (65536 : Int) < (n : Int)
  · go_wp2
    go_ret
    exact ⟨rfl, Below.refl _ _⟩
  go_wp2_with fail
  refine (drawCount_any _ _ _ l _ ha hb).mono ?_
  rintro e w1 ⟨⟨A1, q1, c1, l1, A2, q2, c2, r1, rfl, hq1, hq2, ⟨o1, hg1⟩, o2⟩, b1⟩
  have t1 := b1
  have o1_b := o1
  have o2_b := o2
  have HG1 : Hid (∀ x ∈ l1, BaSz x) := Lib.hid (fun x hx => bas_sz (hg1 x hx))
  clear hg1
  go_wp2_with fail
  refine (implCount_any _ _ _ l1 _ _ _ r1 _ (o1.rd baV_len) (o2.rd inV_len) (by omega) HG1.out).mono ?_
  rintro e w2 ⟨⟨A3, q3, c3, A4, c4, rfl, o3, o4⟩, b2⟩
  have t2 := below_trans t1 b2
  have o1 := o1.below b2
  have o2 := o2.below b2
  have o3_b := o3
  have o4_b := o4
  go_wp2_with fail
  refine (specCount_any _ _ _ l1 _ _ _ r1 _ (o1.rd baV_len) (o2.rd inV_len) (by omega) HG1.out).mono ?_
  rintro e w3 ⟨⟨A5, q5, c5, A6, c6, rfl, o5, o6⟩, b3⟩
  have t3 := below_trans t2 b3
  have o1 := o1.below b3
  have o2 := o2.below b3
  have o3 := o3.below b3
  have o4 := o4.below b3
  have o5_b := o5
  have o6_b := o6
  go_wp2_with fail
  refine (vTexts_same _ _ _ _ _ _ _ _ (o3.rd stV_len) (o5.rd stV_len)).mono ?_
  rintro e w4 ⟨rfl, b4⟩
  have t4 := below_trans t3 b4
  have o1 := o1.below b4
  have o2 := o2.below b4
  have o3 := o3.below b4
  have o4 := o4.below b4
  have o5 := o5.below b4
  have o6 := o6.below b4
  go_wp2_with fail
  refine (vInts_same _ _ _ _ _ _ _ _ (o4.rd inV_len) (o6.rd inV_len)).mono ?_
  rintro e w5 ⟨rfl, b5⟩
  have t5 := below_trans t4 b5
  have o1 := o1.below b5
  have o2 := o2.below b5
  have o3 := o3.below b5
  have o4 := o4.below b5
  have o5 := o5.below b5
  have o6 := o6.below b5
  go_wp2_with fail
  refine (implGood_any _ _ _ l1 _ _ _ r1 _ (o1.rd baV_len) (o2.rd inV_len) (by omega) HG1.out).mono ?_
  rintro e w6 ⟨⟨A7, q7, c7, rfl, o7⟩, b6⟩
  have t6 := below_trans t5 b6
  have o1 := o1.below b6
  have o2 := o2.below b6
  have o3 := o3.below b6
  have o4 := o4.below b6
  have o5 := o5.below b6
  have o6 := o6.below b6
  have o7_b := o7
  go_wp2_with fail
  refine (implBlank_any _ _ _ l1 _ _ _ r1 _ (o1.rd baV_len) (o2.rd inV_len) (by omega) HG1.out).mono ?_
  rintro e w7 ⟨rfl, b7⟩
  have t7 := below_trans t6 b7
  have o1 := o1.below b7
  have o2 := o2.below b7
  have o3 := o3.below b7
  have o4 := o4.below b7
  have o5 := o5.below b7
  have o6 := o6.below b7
  have o7 := o7.below b7
  go_wp2_with fail
  refine (specGood_any _ _ _ l1 _ _ _ r1 _ (o1.rd baV_len) (o2.rd inV_len) (by omega) HG1.out).mono ?_
  rintro e w8 ⟨⟨A8, q8, c8, rfl, o8⟩, b8⟩
  have t8 := below_trans t7 b8
  have o1 := o1.below b8
  have o2 := o2.below b8
  have o3 := o3.below b8
  have o4 := o4.below b8
  have o5 := o5.below b8
  have o6 := o6.below b8
  have o7 := o7.below b8
  have o8_b := o8
  go_wp2_with fail
  refine (vInts_same _ _ _ _ _ _ _ _ (o7.rd inV_len) (o8.rd inV_len)).mono ?_
  rintro e w9 ⟨rfl, b9⟩
  have t9 := below_trans t8 b9
  have o1 := o1.below b9
  have o2 := o2.below b9
  have o3 := o3.below b9
  have o4 := o4.below b9
  have o5 := o5.below b9
  have o6 := o6.below b9
  have o7 := o7.below b9
  have o8 := o8.below b9
  go_wp2_with fail
  refine (specBlank_any _ _ _ l1 _ _ _ r1 _ (o1.rd baV_len) (o2.rd inV_len) (by omega) HG1.out).mono ?_
  rintro e w10 ⟨rfl, b10⟩
  have t10 := below_trans t9 b10
  have o1 := o1.below b10
  have o2 := o2.below b10
  have o3 := o3.below b10
  have o4 := o4.below b10
  have o5 := o5.below b10
  have o6 := o6.below b10
  have o7 := o7.below b10
  have o8 := o8.below b10
  cases hp : pollB l1 r1
  · clear hp
    go_wp2_with fail
    refine (implStray_any _ _ _ l1 _ _ _ r1 _ (o1.rd baV_len) (o2.rd inV_len) (by omega) HG1.out).mono ?_
    rintro e w11 ⟨⟨A9, q9, c9, rfl, o9⟩, b11⟩
    have t11 := below_trans t10 b11
    have o1 := o1.below b11
    have o2 := o2.below b11
    have o3 := o3.below b11
    have o4 := o4.below b11
    have o5 := o5.below b11
    have o6 := o6.below b11
    have o7 := o7.below b11
    have o8 := o8.below b11
    have o9_b := o9
    go_wp2_with fail
    refine (implUnused_any _ _ _ l1 _ _ _ r1 _ (o1.rd baV_len) (o2.rd inV_len) (by omega) HG1.out (by omega)).mono ?_
    rintro e w12 ⟨⟨A10, q10, c10, rfl, o10⟩, b12⟩
    have t12 := below_trans t11 b12
    have o1 := o1.below b12
    have o2 := o2.below b12
    have o3 := o3.below b12
    have o4 := o4.below b12
    have o5 := o5.below b12
    have o6 := o6.below b12
    have o7 := o7.below b12
    have o8 := o8.below b12
    have o9 := o9.below b12
    have o10_b := o10
    go_wp2_with fail
    refine (specStray_any _ _ _ l1 _ _ _ r1 _ (o1.rd baV_len) (o2.rd inV_len) (by omega) HG1.out).mono ?_
    rintro e w13 ⟨⟨A11, q11, c11, rfl, o11⟩, b13⟩
    have t13 := below_trans t12 b13
    have o1 := o1.below b13
    have o2 := o2.below b13
    have o3 := o3.below b13
    have o4 := o4.below b13
    have o5 := o5.below b13
    have o6 := o6.below b13
    have o7 := o7.below b13
    have o8 := o8.below b13
    have o9 := o9.below b13
    have o10 := o10.below b13
    have o11_b := o11
    go_wp2_with fail
    refine (vInts_same _ _ _ _ _ _ _ _ (o9.rd inV_len) (o11.rd inV_len)).mono ?_
    rintro e w14 ⟨rfl, b14⟩
    have t14 := below_trans t13 b14
    have o1 := o1.below b14
    have o2 := o2.below b14
    have o3 := o3.below b14
    have o4 := o4.below b14
    have o5 := o5.below b14
    have o6 := o6.below b14
    have o7 := o7.below b14
    have o8 := o8.below b14
    have o9 := o9.below b14
    have o10 := o10.below b14
    have o11 := o11.below b14
    go_wp2_with fail
    refine (specUnused_any _ _ _ l1 _ _ _ r1 _ (o1.rd baV_len) (o2.rd inV_len) (by omega) HG1.out (by omega)).mono ?_
    rintro e w15 ⟨⟨A12, q12, c12, rfl, o12⟩, b15⟩
    have t15 := below_trans t14 b15
    have o1 := o1.below b15
    have o2 := o2.below b15
    have o3 := o3.below b15
    have o4 := o4.below b15
    have o5 := o5.below b15
    have o6 := o6.below b15
    have o7 := o7.below b15
    have o8 := o8.below b15
    have o9 := o9.below b15
    have o10 := o10.below b15
    have o11 := o11.below b15
    have o12_b := o12
    go_wp2_with fail
    refine (vInts_same _ _ _ _ _ _ _ _ (o10.rd inV_len) (o12.rd inV_len)).mono ?_
    rintro e w16 ⟨rfl, b16⟩
    have t16 := below_trans t15 b16
    have o1 := o1.below b16
    have o2 := o2.below b16
    have o3 := o3.below b16
    have o4 := o4.below b16
    have o5 := o5.below b16
    have o6 := o6.below b16
    have o7 := o7.below b16
    have o8 := o8.below b16
    have o9 := o9.below b16
    have o10 := o10.below b16
    have o11 := o11.below b16
    have o12 := o12.below b16
    have BX := Lib.hid (o1.rd baV_len)
    have GX := Lib.hid (o7.rd inV_len)
    have SX := Lib.hid (o9.rd inV_len)
    have UX := Lib.hid (o10.rd inV_len)
    have TT := Lib.hid t16
    have hq13 : q7 ≤ 13 := by rw [← o7.len]; exact Nat.le_trans (gooL_len _ _) (by rw [BX.out.len]; exact hq1)
    clear o1 o1_b o2 o2_b o3 o3_b o4 o4_b o5 o5_b o6 o6_b o7 o7_b o8 o8_b o9 o9_b o10 o10_b o11 o11_b o12 o12_b
    go_wp2
    go_loopw [32] (fun iv wr => ∃ i : Nat, i ≤ q7 ∧ iv = .int .i64 i ∧ Below w16.heap.size w16 wr) (fun iv _ => q7 - (intOf iv).toNat)
    case atStart => exact ⟨0, Nat.zero_le _, rfl, Below.refl _ _⟩
    case round =>
      obtain ⟨i, hi, rfl, hbw⟩ := hrel
      by_cases hiq : i < q7
      · obtain ⟨bg, og, g, hAg, hg, cg⟩ := (GX.out.below hbw).in hiq
        obtain ⟨ix, x, rfl, hx, hns, hnu⟩ := good_out2 hg
        have hixl := (List.getElem?_eq_some_iff.1 hx).1
        rw [BX.out.len] at hixl
        obtain ⟨bb, ob, x', hAb, hx', d0, d1⟩ := (BX.out.below hbw).ba hixl
        obtain rfl : x = x' := by rw [hx] at hx'; injection hx'
        have hi0 : (0 : Int) ≤ (i : Int) := by omega
        have hi1 : (i : Int) < (q7 : Int) := by omega
        have hx0 : (0 : Int) ≤ (ix : Int) := by omega
        have hx1 : (ix : Int) < (q1 : Int) := by omega
        rw [hAg, hAb]
        have HAG := Lib.hid hAg
        have HAB := Lib.hid hAb
        clear hg hx hx' hAg hAb
        go_wp2_with fail
        refine (vHas_any _ _ _ (strL l1 r1) x.code _ (SX.out.below hbw)).mono ?_
        rintro e wa ⟨rfl, rfl⟩
        rw [hns]
        go_wp2_with fail
        refine (vHas_any _ _ _ (unuL l1 r1) x.code _ (UX.out.below hbw)).mono ?_
        rintro e wa ⟨rfl, rfl⟩
        rw [hnu]
        go_wp2
        go_roundw
        case rel => exact ⟨i + 1, by omega, by go_num, hbw⟩
        case measure => first | (simp [intOf]; done) | (simp [intOf]; omega)
      · have TF := below_trans TT.out hbw
        obtain ⟨w17, hwn⟩ : ∃ x : World, x = wr := ⟨_, rfl⟩
        subst hwn
        have t17 := TF
        go_wp2_with fail
        refine (drawSort_any _ _ _ l _ (ha.below t17) hb).mono ?_
        rintro e w18 ⟨⟨A13, q13, c13, l2, rfl, hq3, ⟨o13, hg2⟩⟩, b18⟩
        have t18 := below_trans t17 b18
        have o13_b := o13
        have HG2 : Hid (∀ x ∈ l2, BaSz x) := Lib.hid (fun x hx => bas_sz (hg2 x hx))
        clear hg2
        go_wp2_with fail
        refine (implSortBox_any _ _ _ l2 _ (o13.rd baV_len) HG2.out).mono ?_
        rintro e w19 ⟨⟨A14, q14, c14, rfl, o14⟩, b19⟩
        have t19 := below_trans t18 b19
        have o13 := o13.below b19
        have o14_b := o14
        go_wp2_with fail
        refine (specSortBox_any _ _ _ l2 _ (o13.rd baV_len) HG2.out).mono ?_
        rintro e w20 ⟨⟨A15, q15, c15, rfl, o15⟩, b20⟩
        have t20 := below_trans t19 b20
        have o13 := o13.below b20
        have o14 := o14.below b20
        have o15_b := o15
        go_wp2_with fail
        refine (rBoxes_same _ _ _ _ _ _ _ _ (o14.rd baV_len) (o15.rd baV_len)).mono ?_
        rintro e w21 ⟨rfl, b21⟩
        have t21 := below_trans t20 b21
        have o13 := o13.below b21
        have o14 := o14.below b21
        have o15 := o15.below b21
        go_wp2_with fail
        refine (IsBox_any _ _ _ l2 _ (o13.rd baV_len) HG2.out).mono ?_
        rintro e w22 ⟨rfl, b22⟩
        have t22 := below_trans t21 b22
        have o13 := o13.below b22
        have o14 := o14.below b22
        have o15 := o15.below b22
        go_wp2
        go_ret
        exact ⟨rfl, t22⟩
  · have HP := Lib.hid hp
    clear hp
    go_wp2_with fail
    refine (implSortBox_any _ _ _ l1 _ (o1.rd baV_len) HG1.out).mono ?_
    rintro e w11 ⟨⟨A9, q9, c9, rfl, o9⟩, b11⟩
    have t11 := below_trans t10 b11
    have o1 := o1.below b11
    have o2 := o2.below b11
    have o3 := o3.below b11
    have o4 := o4.below b11
    have o5 := o5.below b11
    have o6 := o6.below b11
    have o7 := o7.below b11
    have o8 := o8.below b11
    have o9_b := o9
    have HB := Lib.hid (poll_box HP.out).1
    rw [HB.out]
    have PM := Lib.hid (srt_perm HB.out)
    have HGS : Hid (∀ x ∈ srtL l1, BaSz x) := Lib.hid (fun x hx => HG1.out x (PM.out.mem_iff.1 hx))
    have hqs : q9 ≤ 13 := by rw [← o9.len, PM.out.length_eq, o1.len]; exact hq1
    go_wp2_with fail
    refine (implCount_any _ _ _ (srtL l1) _ _ _ r1 _ (o9.rd baV_len) (o2.rd inV_len) (by omega) HGS.out).mono ?_
    rintro e w12 ⟨⟨A10, q10, c10, A11, c11, rfl, o10, o11⟩, b12⟩
    have t12 := below_trans t11 b12
    have o1 := o1.below b12
    have o2 := o2.below b12
    have o3 := o3.below b12
    have o4 := o4.below b12
    have o5 := o5.below b12
    have o6 := o6.below b12
    have o7 := o7.below b12
    have o8 := o8.below b12
    have o9 := o9.below b12
    have o10_b := o10
    have o11_b := o11
    rw [poll_perm PM.out r1, HP.out]
    have hK2 := o10
    rw [cou_perm PM.out r1] at hK2
    replace o10 := hK2
    replace o10_b := hK2
    clear hK2
    have hK2 := o11
    rw [cou_perm PM.out r1] at hK2
    replace o11 := hK2
    replace o11_b := hK2
    clear hK2
    have hcb := cou_bd HP.out (by rw [o1.len]; omega)
    have hcn : q3 ≤ 1048576 := by rw [← o4.len, List.length_map]; have h1 := couL_len l1 r1; have h2 := o1.len; omega
    go_wp2_with fail
    refine (rSum_any _ _ _ ((couL l1 r1).map Prod.snd) _ (o4.rd inV_len) hcb hcn).mono ?_
    rintro e wx ⟨rfl, rfl⟩
    have hsb := sum_nn _ (cou_nn (l := l1) (r := r1))
    have hbb := bla_nn l1 r1
    have hsum : ((couL l1 r1).map Prod.snd).sum + blaN l1 r1 = (q7 : Int) := by rw [cou_sum HP.out, o7.len]
    have hgn : q7 ≤ 13 := by rw [← o7.len]; exact Nat.le_trans (gooL_len _ _) (by rw [o1.len]; exact hq1)
    clear hcb
    generalize ((couL l1 r1).map Prod.snd).sum = sm at hsum hsb ⊢
    generalize blaN l1 r1 = bl at hsum hbb ⊢
    have hse : (sm + bl != (q7 : Int)) = false := by simp [hsum]
    have hsf : (sm + bl == (q7 : Int)) = true := by simp [hsum]
    have hsm : sm ≤ 13 := by omega
    have hbl : bl ≤ 13 := by omega
    go_wp2_with fail
    refine (vTexts_same _ _ _ _ _ _ _ _ (o10.rd stV_len) (o3.rd stV_len)).mono ?_
    rintro e w13 ⟨rfl, b13⟩
    have t13 := below_trans t12 b13
    have o1 := o1.below b13
    have o2 := o2.below b13
    have o3 := o3.below b13
    have o4 := o4.below b13
    have o5 := o5.below b13
    have o6 := o6.below b13
    have o7 := o7.below b13
    have o8 := o8.below b13
    have o9 := o9.below b13
    have o10 := o10.below b13
    have o11 := o11.below b13
    go_wp2_with fail
    refine (vInts_same _ _ _ _ _ _ _ _ (o11.rd inV_len) (o4.rd inV_len)).mono ?_
    rintro e w14 ⟨rfl, b14⟩
    have t14 := below_trans t13 b14
    have o1 := o1.below b14
    have o2 := o2.below b14
    have o3 := o3.below b14
    have o4 := o4.below b14
    have o5 := o5.below b14
    have o6 := o6.below b14
    have o7 := o7.below b14
    have o8 := o8.below b14
    have o9 := o9.below b14
    have o10 := o10.below b14
    have o11 := o11.below b14
    clear hsum hse hsf hsb hbb hsm hbl hgn hcn
    go_wp2_with fail
    refine (implStray_any _ _ _ l1 _ _ _ r1 _ (o1.rd baV_len) (o2.rd inV_len) (by omega) HG1.out).mono ?_
    rintro e w15 ⟨⟨A12, q12, c12, rfl, o12⟩, b15⟩
    have t15 := below_trans t14 b15
    have o1 := o1.below b15
    have o2 := o2.below b15
    have o3 := o3.below b15
    have o4 := o4.below b15
    have o5 := o5.below b15
    have o6 := o6.below b15
    have o7 := o7.below b15
    have o8 := o8.below b15
    have o9 := o9.below b15
    have o10 := o10.below b15
    have o11 := o11.below b15
    have o12_b := o12
    go_wp2_with fail
    refine (implUnused_any _ _ _ l1 _ _ _ r1 _ (o1.rd baV_len) (o2.rd inV_len) (by omega) HG1.out (by omega)).mono ?_
    rintro e w16 ⟨⟨A13, q13, c13, rfl, o13⟩, b16⟩
    have t16 := below_trans t15 b16
    have o1 := o1.below b16
    have o2 := o2.below b16
    have o3 := o3.below b16
    have o4 := o4.below b16
    have o5 := o5.below b16
    have o6 := o6.below b16
    have o7 := o7.below b16
    have o8 := o8.below b16
    have o9 := o9.below b16
    have o10 := o10.below b16
    have o11 := o11.below b16
    have o12 := o12.below b16
    have o13_b := o13
    go_wp2_with fail
    refine (specStray_any _ _ _ l1 _ _ _ r1 _ (o1.rd baV_len) (o2.rd inV_len) (by omega) HG1.out).mono ?_
    rintro e w17 ⟨⟨A14, q14, c14, rfl, o14⟩, b17⟩
    have t17 := below_trans t16 b17
    have o1 := o1.below b17
    have o2 := o2.below b17
    have o3 := o3.below b17
    have o4 := o4.below b17
    have o5 := o5.below b17
    have o6 := o6.below b17
    have o7 := o7.below b17
    have o8 := o8.below b17
    have o9 := o9.below b17
    have o10 := o10.below b17
    have o11 := o11.below b17
    have o12 := o12.below b17
    have o13 := o13.below b17
    have o14_b := o14
    go_wp2_with fail
    refine (vInts_same _ _ _ _ _ _ _ _ (o12.rd inV_len) (o14.rd inV_len)).mono ?_
    rintro e w18 ⟨rfl, b18⟩
    have t18 := below_trans t17 b18
    have o1 := o1.below b18
    have o2 := o2.below b18
    have o3 := o3.below b18
    have o4 := o4.below b18
    have o5 := o5.below b18
    have o6 := o6.below b18
    have o7 := o7.below b18
    have o8 := o8.below b18
    have o9 := o9.below b18
    have o10 := o10.below b18
    have o11 := o11.below b18
    have o12 := o12.below b18
    have o13 := o13.below b18
    have o14 := o14.below b18
    go_wp2_with fail
    refine (specUnused_any _ _ _ l1 _ _ _ r1 _ (o1.rd baV_len) (o2.rd inV_len) (by omega) HG1.out (by omega)).mono ?_
    rintro e w19 ⟨⟨A15, q15, c15, rfl, o15⟩, b19⟩
    have t19 := below_trans t18 b19
    have o1 := o1.below b19
    have o2 := o2.below b19
    have o3 := o3.below b19
    have o4 := o4.below b19
    have o5 := o5.below b19
    have o6 := o6.below b19
    have o7 := o7.below b19
    have o8 := o8.below b19
    have o9 := o9.below b19
    have o10 := o10.below b19
    have o11 := o11.below b19
    have o12 := o12.below b19
    have o13 := o13.below b19
    have o14 := o14.below b19
    have o15_b := o15
    go_wp2_with fail
    refine (vInts_same _ _ _ _ _ _ _ _ (o13.rd inV_len) (o15.rd inV_len)).mono ?_
    rintro e w20 ⟨rfl, b20⟩
    have t20 := below_trans t19 b20
    have o1 := o1.below b20
    have o2 := o2.below b20
    have o3 := o3.below b20
    have o4 := o4.below b20
    have o5 := o5.below b20
    have o6 := o6.below b20
    have o7 := o7.below b20
    have o8 := o8.below b20
    have o9 := o9.below b20
    have o10 := o10.below b20
    have o11 := o11.below b20
    have o12 := o12.below b20
    have o13 := o13.below b20
    have o14 := o14.below b20
    have o15 := o15.below b20
    have BX := Lib.hid (o1.rd baV_len)
    have GX := Lib.hid (o7.rd inV_len)
    have SX := Lib.hid (o12.rd inV_len)
    have UX := Lib.hid (o13.rd inV_len)
    have TT := Lib.hid t20
    have hq13 : q7 ≤ 13 := by rw [← o7.len]; exact Nat.le_trans (gooL_len _ _) (by rw [BX.out.len]; exact hq1)
    clear o1 o1_b o2 o2_b o3 o3_b o4 o4_b o5 o5_b o6 o6_b o7 o7_b o8 o8_b o9 o9_b o10 o10_b o11 o11_b o12 o12_b o13 o13_b o14 o14_b o15 o15_b
    go_wp2
    go_loopw [32] (fun iv wr => ∃ i : Nat, i ≤ q7 ∧ iv = .int .i64 i ∧ Below w20.heap.size w20 wr) (fun iv _ => q7 - (intOf iv).toNat)
    case atStart => exact ⟨0, Nat.zero_le _, rfl, Below.refl _ _⟩
    case round =>
      obtain ⟨i, hi, rfl, hbw⟩ := hrel
      by_cases hiq : i < q7
      · obtain ⟨bg, og, g, hAg, hg, cg⟩ := (GX.out.below hbw).in hiq
        obtain ⟨ix, x, rfl, hx, hns, hnu⟩ := good_out2 hg
        have hixl := (List.getElem?_eq_some_iff.1 hx).1
        rw [BX.out.len] at hixl
        obtain ⟨bb, ob, x', hAb, hx', d0, d1⟩ := (BX.out.below hbw).ba hixl
        obtain rfl : x = x' := by rw [hx] at hx'; injection hx'
        have hi0 : (0 : Int) ≤ (i : Int) := by omega
        have hi1 : (i : Int) < (q7 : Int) := by omega
        have hx0 : (0 : Int) ≤ (ix : Int) := by omega
        have hx1 : (ix : Int) < (q1 : Int) := by omega
        rw [hAg, hAb]
        have HAG := Lib.hid hAg
        have HAB := Lib.hid hAb
        clear hg hx hx' hAg hAb
        go_wp2_with fail
        refine (vHas_any _ _ _ (strL l1 r1) x.code _ (SX.out.below hbw)).mono ?_
        rintro e wa ⟨rfl, rfl⟩
        rw [hns]
        go_wp2_with fail
        refine (vHas_any _ _ _ (unuL l1 r1) x.code _ (UX.out.below hbw)).mono ?_
        rintro e wa ⟨rfl, rfl⟩
        rw [hnu]
        go_wp2
        go_roundw
        case rel => exact ⟨i + 1, by omega, by go_num, hbw⟩
        case measure => first | (simp [intOf]; done) | (simp [intOf]; omega)
      · have TF := below_trans TT.out hbw
        obtain ⟨w21, hwn⟩ : ∃ x : World, x = wr := ⟨_, rfl⟩
        subst hwn
        have t21 := TF
        go_wp2_with fail
        refine (drawSort_any _ _ _ l _ (ha.below t21) hb).mono ?_
        rintro e w22 ⟨⟨A16, q16, c16, l2, rfl, hq3, ⟨o16, hg2⟩⟩, b22⟩
        have t22 := below_trans t21 b22
        have o16_b := o16
        have HG2 : Hid (∀ x ∈ l2, BaSz x) := Lib.hid (fun x hx => bas_sz (hg2 x hx))
        clear hg2
        go_wp2_with fail
        refine (implSortBox_any _ _ _ l2 _ (o16.rd baV_len) HG2.out).mono ?_
        rintro e w23 ⟨⟨A17, q17, c17, rfl, o17⟩, b23⟩
        have t23 := below_trans t22 b23
        have o16 := o16.below b23
        have o17_b := o17
        go_wp2_with fail
        refine (specSortBox_any _ _ _ l2 _ (o16.rd baV_len) HG2.out).mono ?_
        rintro e w24 ⟨⟨A18, q18, c18, rfl, o18⟩, b24⟩
        have t24 := below_trans t23 b24
        have o16 := o16.below b24
        have o17 := o17.below b24
        have o18_b := o18
        go_wp2_with fail
        refine (rBoxes_same _ _ _ _ _ _ _ _ (o17.rd baV_len) (o18.rd baV_len)).mono ?_
        rintro e w25 ⟨rfl, b25⟩
        have t25 := below_trans t24 b25
        have o16 := o16.below b25
        have o17 := o17.below b25
        have o18 := o18.below b25
        go_wp2_with fail
        refine (IsBox_any _ _ _ l2 _ (o16.rd baV_len) HG2.out).mono ?_
        rintro e w26 ⟨rfl, b26⟩
        have t26 := below_trans t25 b26
        have o16 := o16.below b26
        have o17 := o17.below b26
        have o18 := o18.below b26
        go_wp2
        go_ret
        exact ⟨rfl, t26⟩

set_option maxRecDepth 100000 in
theorem lifted (os : Os) (started : os.Started) (H : Type) (enc : TypeId × Value → H) :
    ReturnsInHanded {} Tryz.checked os 3 .any (Rows.fnBallotsSpec.pre6 enc Tryz.prog Tryz.f3 Rows.fnBallotsRow.domain false) (Rows.fnBallotsSpec.post enc Tryz.prog Tryz.f3 false true false false) := by
  refine returnsInHanded_of_change (C := Tryz.checked) own started (by kernel_rfl) Tryz.func3
    (ChangeSpec.witness6 (enc := enc) (C := Tryz.checked) false ⟨#[], #[.slice none 0 0], []⟩ 8 (by kernel_rfl) (by kernel_rfl) (by kernel_rfl) (by kernel_rfl)) ?_
  intro W base args ds gs before hval0 hW hcnd _
  have hval : ∀ (j : Nat) t v, Tryz.f3.params[j]? = some t → args[j]? = some v → Value.okWide Tryz.prog W .any base t v := hval0
  have hW' := hW
  obtain ⟨p, q, hA0, hV, rfl, hfz, hnd⟩ := hW
  have hA : DataW.TrodAll enc Tryz.prog W 0 (fun _ => true) true Tryz.f3.params.toList args.toList ds p := hA0
  rw [Tryz.params3] at hA hval
  obtain ⟨v0, vs0, d0, ds0, p0, q0, hargs, rfl, rfl, h0, r0⟩ := trodAll_cons hA
  obtain ⟨rfl, rfl, rfl⟩ := trodAll_nil r0
  obtain rfl : args = #[v0] := by cases args; simp_all
  obtain ⟨rfl, rfl⟩ := trodVars_none hV
  obtain ⟨A0, n0, c0, l0, rfl, R0, G0⟩ := open_rd (ec := byV) Tryz.underlying22 (by kernel_rfl) (read_bytes) (by omega) byV_len (hval 0 22 v0 rfl rfl) h0
  refine (walk A0 n0 c0 l0 W R0 G0).mono fun e W' ⟨he, hb⟩ => ?_
  subst he
  exact ⟨_, rfl, law_post laidOut (by kernel_rfl) (by kernel_rfl) Tryz.underlying4 rfl hW' rfl rfl rfl hb⟩

theorem over : Rows.fnBallotsRow.holds Tryz.pinned (OpenSpec.ofChange Rows.fnBallotsSpec) :=
  OpenClaim.holds_of_wide 3 Tryz.f3 rfl rfl rfl rfl rfl rfl rfl ⟨rfl, rfl, rfl, rfl, rfl⟩ rfl rfl rfl rfl rfl (by kernel_rfl) Tryz.func3 (by kernel_rfl)
    (of_decide_eq_true (by kernel_rfl)) (by unfold Func.isWrapper; rw [if_neg (of_decide_eq_false (by kernel_rfl))]; exact ⟨rfl, rfl⟩)
    (fun os started H enc _ => lifted os started H enc)

theorem proved : Rows.FnBallotsSaid :=
  over
#print axioms proved
end Go.Proofs.YtcockjjilcapaaaGreat.fnBallots
