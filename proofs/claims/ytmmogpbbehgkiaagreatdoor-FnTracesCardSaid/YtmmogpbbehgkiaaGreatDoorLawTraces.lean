/- FnTraces: for every code of at most 65536 bytes: FirstDisorder, IsOrderly, AddStep, TraceText and ParseTrace answer as the reference at what is drawn; an orderly trace has no disorder, an added step keeps it orderly, and traces are recovered from their texts. No condition.
-/
import Derived.Test.YtmmogpbbehgkiaaGreatDoorRead
import Derived.Test.YtmmogpbbehgkiaaGreatDoorCards
import Derived.Test.YtmmogpbbehgkiaaGreatDoorTie
import Derived.ProofKit
import Derived.LaidMore
import Derived.OpenShut
import Derived.Stop.Joined
import Derived.SevenTiedAt
import Derived.Test.YtmmogpbbehgkiaaGreatDoorDoor
import Derived.Lay
import Derived.Test.YtmmogpbbehgkiaaGreatDoorErr
import Derived.Test.YtmmogpbbehgkiaaGreatDoorByt
import Derived.Test.YtmmogpbbehgkiaaGreatDoorTraDZ
import Derived.Test.YtmmogpbbehgkiaaGreatDoorVee
import Derived.HandedShaped
namespace Go.Proofs.YtmmogpbbehgkiaaGreatDoor.fnTraces
open Go Go.ChangeShapes Go.WideShapes Go.ChangeAt Go.RowKit Go.Sort
open Go.ChangeMaps (open_string)
set_option linter.unusedVariables false

theorem own : ownKnob Tryz.prog.godebug = none := by kernel_rfl
theorem laidOut : laidOutB Tryz.prog = true := by kernel_rfl

set_option maxRecDepth 100000 in
set_option maxHeartbeats 16000000 in
theorem walk (A : Option Addr) (n c : Nat) (l : List Int) (mx : Int) (w : World) (hT : Lib.TabIs Tryz.prog w "internal/strconv.uint64pow10" .u64 Lib.pow10Tab) (ev : Value) (hE : w.cell? ⟨1, 0, none⟩ = some ev) (hev : ev = .nilIface ∨ ∃ te pe, ev = .iface te pe) (ha : Rd byV 1 w A n c l) (hb : ∀ x ∈ l, 0 ≤ x ∧ x ≤ 255) (hM : w.cell? ⟨0, 0, none⟩ = some (.int .i64 mx)) :
    Calls Tryz.prog 3 #[.slice A n c] w fun e w' => e = .returned (.bool true) ∧ Below w.heap.size w w' := by
  have HM := Lib.hid hM
  have HT := Lib.hid hT
  have HE := Lib.hid hE
  have HEV := Lib.hid hev
  clear hM hT hE hev
  have hm := ha.le
  go_enter Tryz.func3, Tryz.ntmps3
  go_wp2_with fail
  refine (vBig_any _ _ _ _ hm).mono ?_
  rintro e wx ⟨rfl, rfl⟩
  by_cases hbig : (65536 : Int) < (n : Int)
  · go_wp2
    go_ret
    exact ⟨rfl, Below.refl _ _⟩
  go_wp2_with fail
  refine (drawFirst_any _ _ _ l _ ha hb).mono ?_
  rintro e w1 ⟨⟨Av1, qv1, cv1, l1, rfl, hq1, v1⟩, b1⟩
  have t1 := b1
  have r1 := v1.rd tsV_len
  clear v1
  go_wp2_with fail
  refine (implFirstDisorder_any _ _ _ l1 _ r1).mono ?_
  rintro e w2 ⟨rfl, b2⟩
  have t2 := below_trans t1 b2
  replace r1 := r1.below b2
  go_wp2_with fail
  refine (specFirstDisorder_any _ _ _ l1 _ r1).mono ?_
  rintro e w3 ⟨rfl, b3⟩
  have t3 := below_trans t2 b3
  replace r1 := r1.below b3
  go_wp2_with fail
  refine (implIsOrderly_any _ _ _ l1 _ r1).mono ?_
  rintro e w4 ⟨rfl, b4⟩
  have t4 := below_trans t3 b4
  replace r1 := r1.below b4
  go_wp2_with fail
  refine (specIsOrderly_any _ _ _ l1 _ r1).mono ?_
  rintro e wx ⟨rfl, rfl⟩
  cases hfd : fdB l1
  · cases hgd : goodL l1
    · have hgo : (false && ordL l1) = false := rfl
      clear hfd hgd
      skip
      go_wp2_with fail
      refine (drawAdd_any _ _ _ l _ (ha.below t4) hb).mono ?_
      rintro e w5 ⟨⟨Av2, qv2, cv2, l2, s, rfl, hq2, v2⟩, b5⟩
      have t5 := below_trans t4 b5
      replace r1 := r1.below b5
      have r2 := v2.rd tsV_len
      clear v2
      have b6 := below_alloc (w := w5) (.cells #[.int .i64 s.m, .int .i64 s.k] 31)
      have u0 : (w5.alloc (.cells #[.int .i64 s.m, .int .i64 s.k] 31)).cell? ⟨w5.heap.size, 0, none⟩ = some (.int .i64 s.m) := cell_of_row _ _ 0 _ _ _ (heap_new rfl)
      have u1 : (w5.alloc (.cells #[.int .i64 s.m, .int .i64 s.k] 31)).cell? ⟨w5.heap.size, 1, none⟩ = some (.int .i64 s.k) := cell_of_row _ _ 1 _ _ _ (heap_new rfl)
      have t6 := below_trans t5 b6
      replace r1 := r1.below b6
      replace r2 := r2.below b6
      go_wp2_with fail
      generalize hgw6 : w5.alloc (.cells #[.int .i64 s.m, .int .i64 s.k] 31) = w6 at *
      clear hgw6
      refine (implAddStep_any _ _ _ l2 s _ r2 (by omega)).mono ?_
      rintro e w7 ⟨⟨A1, q1, c1, rfl, o1⟩, b7⟩
      have t7 := below_trans t6 b7
      replace r1 := r1.below b7
      replace r2 := r2.below b7
      replace u0 := cell_below b7 u0
      replace u1 := cell_below b7 u1
      have o1_b := o1
      go_wp2_with fail
      refine (specAddStep_any _ _ _ l2 s _ r2 (by omega)).mono ?_
      rintro e w8 ⟨⟨A2, q2, c2, rfl, o2⟩, b8⟩
      have t8 := below_trans t7 b8
      have o1 := o1.below b8
      replace r1 := r1.below b8
      replace r2 := r2.below b8
      replace u0 := cell_below b8 u0
      replace u1 := cell_below b8 u1
      have o2_b := o2
      go_wp2_with fail
      refine (rTraces_same _ _ _ _ _ _ _ _ (o1.rd tsV_len) (o2.rd tsV_len)).mono ?_
      rintro e w9 ⟨rfl, b9⟩
      have t9 := below_trans t8 b9
      have o1 := o1.below b9
      have o2 := o2.below b9
      replace r1 := r1.below b9
      replace r2 := r2.below b9
      replace u0 := cell_below b9 u0
      replace u1 := cell_below b9 u1
      cases had : addB l2 s
      · clear had
        skip
        go_wp2_with fail
        refine (drawTraceText_any _ _ _ l _ (ha.below t9) hb).mono ?_
        rintro e w10 ⟨⟨Av3, qv3, cv3, l3, rfl, hq3, v3⟩, b10⟩
        have t10 := below_trans t9 b10
        have o1 := o1.below b10
        have o2 := o2.below b10
        replace r1 := r1.below b10
        replace r2 := r2.below b10
        replace u0 := cell_below b10 u0
        replace u1 := cell_below b10 u1
        have r3 := v3.rd tsV_len
        clear v3 r1 r2 u0 u1
        go_wp2_with fail
        refine (implTraceText_any _ _ _ l3 _ r3).mono ?_
        rintro e w11 ⟨rfl, b11⟩
        have t11 := below_trans t10 b11
        have o1 := o1.below b11
        have o2 := o2.below b11
        replace r3 := r3.below b11
        go_wp2_with fail
        refine (specTraceText_any _ _ _ l3 _ r3).mono ?_
        rintro e w12 ⟨rfl, b12⟩
        have t12 := below_trans t11 b12
        have o1 := o1.below b12
        have o2 := o2.below b12
        replace r3 := r3.below b12
        go_wp2_with fail
        refine (implIsTraceList_any _ _ _ l3 _ r3).mono ?_
        rintro e w13 ⟨rfl, b13⟩
        have t13 := below_trans t12 b13
        have o1 := o1.below b13
        have o2 := o2.below b13
        replace r3 := r3.below b13
        have hm96 := txtL_96 l3
        cases hgl : goodL l3
        · have HM96 := Lib.hid hm96
          generalize txtL l3 = t at *
          clear hgl
          have hm96 := HM96.out
          go_wp2_with fail
          refine (implParseTrace_any _ mx ev _ (cell_below t13 HM.out) (pow10_below HT.out t13) (cell_below t13 HE.out) HEV.out (by omega)).mono ?_
          rintro e w14 ⟨⟨A3, q3, c3, rfl, o3⟩, b14⟩
          have t14 := below_trans t13 b14
          have o1 := o1.below b14
          have o2 := o2.below b14
          replace r3 := r3.below b14
          have o3_b := o3
          go_wp2_with fail
          refine (drawParseTrace_any _ _ _ l _ (ha.below t14) hb).mono ?_
          rintro e w15 ⟨⟨u, rfl, hu⟩, b15⟩
          have t15 := below_trans t14 b15
          have o1 := o1.below b15
          have o2 := o2.below b15
          have o3 := o3.below b15
          replace r3 := r3.below b15
          clear r3
          go_wp2_with fail
          refine (implParseTrace_any u mx ev _ (cell_below t15 HM.out) (pow10_below HT.out t15) (cell_below t15 HE.out) HEV.out (by omega)).mono ?_
          rintro e w16 ⟨⟨A4, q4, c4, rfl, o4⟩, b16⟩
          have t16 := below_trans t15 b16
          have o1 := o1.below b16
          have o2 := o2.below b16
          have o3 := o3.below b16
          have o4_b := o4
          go_wp2_with fail
          refine (specParseTrace_any u _ (by omega)).mono ?_
          rintro e w17 ⟨⟨A5, q5, c5, rfl, o5⟩, b17⟩
          have t17 := below_trans t16 b17
          have o1 := o1.below b17
          have o2 := o2.below b17
          have o3 := o3.below b17
          have o4 := o4.below b17
          have o5_b := o5
          go_wp2_with fail
          refine (rTraces_same _ _ _ _ _ _ _ _ (o4.rd tsV_len) (o5.rd tsV_len)).mono ?_
          rintro e w18 ⟨rfl, b18⟩
          have t18 := below_trans t17 b18
          have o1 := o1.below b18
          have o2 := o2.below b18
          have o3 := o3.below b18
          have o4 := o4.below b18
          have o5 := o5.below b18
          go_wp2
          go_ret
          exact ⟨rfl, t18⟩
        · have HH : Hid (parT (txtL l3) = (l3, true)) := txtL_hit hgl
          have HM96 := Lib.hid hm96
          generalize txtL l3 = t at *
          clear hgl
          have hm96 := HM96.out
          go_wp2_with fail
          refine (implParseTrace_any _ mx ev _ (cell_below t13 HM.out) (pow10_below HT.out t13) (cell_below t13 HE.out) HEV.out (by omega)).mono ?_
          rintro e w14 ⟨⟨A3, q3, c3, rfl, o3⟩, b14⟩
          have t14 := below_trans t13 b14
          have o1 := o1.below b14
          have o2 := o2.below b14
          replace r3 := r3.below b14
          have o3_b := o3
          have hqb : Own tsV 2 w14 _ _ _ _ _ l3 := (by have h9 := o3; rw [HH.out] at h9; exact h9)
          rw [HH.out]
          replace o3 := hqb
          replace o3_b := hqb
          clear hqb
          go_wp2_with fail
          refine (rTraces_same _ _ _ _ _ _ l3 _ (o3.rd tsV_len) r3).mono ?_
          rintro e w15 ⟨rfl, b15⟩
          have t15 := below_trans t14 b15
          have o1 := o1.below b15
          have o2 := o2.below b15
          have o3 := o3.below b15
          replace r3 := r3.below b15
          go_wp2_with fail
          refine (drawParseTrace_any _ _ _ l _ (ha.below t15) hb).mono ?_
          rintro e w16 ⟨⟨u, rfl, hu⟩, b16⟩
          have t16 := below_trans t15 b16
          have o1 := o1.below b16
          have o2 := o2.below b16
          have o3 := o3.below b16
          replace r3 := r3.below b16
          clear r3
          go_wp2_with fail
          refine (implParseTrace_any u mx ev _ (cell_below t16 HM.out) (pow10_below HT.out t16) (cell_below t16 HE.out) HEV.out (by omega)).mono ?_
          rintro e w17 ⟨⟨A4, q4, c4, rfl, o4⟩, b17⟩
          have t17 := below_trans t16 b17
          have o1 := o1.below b17
          have o2 := o2.below b17
          have o3 := o3.below b17
          have o4_b := o4
          go_wp2_with fail
          refine (specParseTrace_any u _ (by omega)).mono ?_
          rintro e w18 ⟨⟨A5, q5, c5, rfl, o5⟩, b18⟩
          have t18 := below_trans t17 b18
          have o1 := o1.below b18
          have o2 := o2.below b18
          have o3 := o3.below b18
          have o4 := o4.below b18
          have o5_b := o5
          go_wp2_with fail
          refine (rTraces_same _ _ _ _ _ _ _ _ (o4.rd tsV_len) (o5.rd tsV_len)).mono ?_
          rintro e w19 ⟨rfl, b19⟩
          have t19 := below_trans t18 b19
          have o1 := o1.below b19
          have o2 := o2.below b19
          have o3 := o3.below b19
          have o4 := o4.below b19
          have o5 := o5.below b19
          go_wp2
          go_ret
          exact ⟨rfl, t19⟩
      · obtain ⟨hA, hg1, hg2, ho2, hts⟩ := add_yes had
        have hm : inB s.m 1 20 = true := by unfold tsOK at hts; rw [Bool.and_eq_true] at hts; exact hts.1
        have rM : Rd tsV 2 w9 A1 q1 c1 (l2 ++ [s]) := by have h9 := (o1.rd tsV_len); rw [hA] at h9; exact h9
        have HO := Lib.hid (show (goodL (l2 ++ [s]) && ordL (l2 ++ [s])) = true by rw [hg2, ho2]; rfl)
        clear hA ho2 hts had
        go_wp2_with fail
        refine (implIsOrderly_any _ _ _ (l2 ++ [s]) _ rM).mono ?_
        rintro e w10 ⟨rfl, b10⟩
        have t10 := below_trans t9 b10
        have o1 := o1.below b10
        have o2 := o2.below b10
        replace r1 := r1.below b10
        replace r2 := r2.below b10
        replace u0 := cell_below b10 u0
        replace u1 := cell_below b10 u1
        replace rM := rM.below b10
        rw [HO.out, hg2]
        go_wp2_with fail
        refine (implPathOf_yes _ _ _ l2 s.m _ r2 hg1 hm).mono ?_
        rintro e w11 ⟨rfl, b11⟩
        have t11 := below_trans t10 b11
        have o1 := o1.below b11
        have o2 := o2.below b11
        replace r1 := r1.below b11
        replace r2 := r2.below b11
        replace u0 := cell_below b11 u0
        replace u1 := cell_below b11 u1
        replace rM := rM.below b11
        go_wp2_with fail
        refine (implPathOf_yes _ _ _ (l2 ++ [s]) s.m _ rM hg2 hm).mono ?_
        rintro e w12 ⟨rfl, b12⟩
        have t12 := below_trans t11 b12
        have o1 := o1.below b12
        have o2 := o2.below b12
        replace r1 := r1.below b12
        replace r2 := r2.below b12
        replace u0 := cell_below b12 u0
        replace u1 := cell_below b12 u1
        replace rM := rM.below b12
        have hps := path_size l2 s.m
        have hl2 := r2.len
        rw [path_add]
        obtain ⟨p, hp⟩ : ∃ p, p = path l2 s.m := ⟨_, rfl⟩
        rw [← hp] at hps
        rw [← hp]
        have hpz : (p ++ ⟨#[letter s.k]⟩).size = p.size + 1 := by rw [ByteArray.size_append]; rfl
        have hpe : (p ++ ⟨#[letter s.k]⟩).extract 0 p.size = p := by
          apply ByteArray.ext
          apply Array.toList_inj.1
          rw [Lib.extract_from_zero, ByteArray.data_append, Array.toList_append]
          exact List.take_left' rfl
        have hpq : p.size ≤ 100 := by omega
        generalize p ++ ⟨#[letter s.k]⟩ = pp at *
        clear hp hps hl2 hg1 hg2 hm HO
        clear rM
        skip
        go_wp2_with fail
        refine (drawTraceText_any _ _ _ l _ (ha.below t12) hb).mono ?_
        rintro e w13 ⟨⟨Av3, qv3, cv3, l3, rfl, hq3, v3⟩, b13⟩
        have t13 := below_trans t12 b13
        have o1 := o1.below b13
        have o2 := o2.below b13
        replace r1 := r1.below b13
        replace r2 := r2.below b13
        replace u0 := cell_below b13 u0
        replace u1 := cell_below b13 u1
        have r3 := v3.rd tsV_len
        clear v3 r1 r2 u0 u1
        go_wp2_with fail
        refine (implTraceText_any _ _ _ l3 _ r3).mono ?_
        rintro e w14 ⟨rfl, b14⟩
        have t14 := below_trans t13 b14
        have o1 := o1.below b14
        have o2 := o2.below b14
        replace r3 := r3.below b14
        go_wp2_with fail
        refine (specTraceText_any _ _ _ l3 _ r3).mono ?_
        rintro e w15 ⟨rfl, b15⟩
        have t15 := below_trans t14 b15
        have o1 := o1.below b15
        have o2 := o2.below b15
        replace r3 := r3.below b15
        go_wp2_with fail
        refine (implIsTraceList_any _ _ _ l3 _ r3).mono ?_
        rintro e w16 ⟨rfl, b16⟩
        have t16 := below_trans t15 b16
        have o1 := o1.below b16
        have o2 := o2.below b16
        replace r3 := r3.below b16
        have hm96 := txtL_96 l3
        cases hgl : goodL l3
        · have HM96 := Lib.hid hm96
          generalize txtL l3 = t at *
          clear hgl
          have hm96 := HM96.out
          go_wp2_with fail
          refine (implParseTrace_any _ mx ev _ (cell_below t16 HM.out) (pow10_below HT.out t16) (cell_below t16 HE.out) HEV.out (by omega)).mono ?_
          rintro e w17 ⟨⟨A3, q3, c3, rfl, o3⟩, b17⟩
          have t17 := below_trans t16 b17
          have o1 := o1.below b17
          have o2 := o2.below b17
          replace r3 := r3.below b17
          have o3_b := o3
          go_wp2_with fail
          refine (drawParseTrace_any _ _ _ l _ (ha.below t17) hb).mono ?_
          rintro e w18 ⟨⟨u, rfl, hu⟩, b18⟩
          have t18 := below_trans t17 b18
          have o1 := o1.below b18
          have o2 := o2.below b18
          have o3 := o3.below b18
          replace r3 := r3.below b18
          clear r3
          go_wp2_with fail
          refine (implParseTrace_any u mx ev _ (cell_below t18 HM.out) (pow10_below HT.out t18) (cell_below t18 HE.out) HEV.out (by omega)).mono ?_
          rintro e w19 ⟨⟨A4, q4, c4, rfl, o4⟩, b19⟩
          have t19 := below_trans t18 b19
          have o1 := o1.below b19
          have o2 := o2.below b19
          have o3 := o3.below b19
          have o4_b := o4
          go_wp2_with fail
          refine (specParseTrace_any u _ (by omega)).mono ?_
          rintro e w20 ⟨⟨A5, q5, c5, rfl, o5⟩, b20⟩
          have t20 := below_trans t19 b20
          have o1 := o1.below b20
          have o2 := o2.below b20
          have o3 := o3.below b20
          have o4 := o4.below b20
          have o5_b := o5
          go_wp2_with fail
          refine (rTraces_same _ _ _ _ _ _ _ _ (o4.rd tsV_len) (o5.rd tsV_len)).mono ?_
          rintro e w21 ⟨rfl, b21⟩
          have t21 := below_trans t20 b21
          have o1 := o1.below b21
          have o2 := o2.below b21
          have o3 := o3.below b21
          have o4 := o4.below b21
          have o5 := o5.below b21
          go_wp2
          go_ret
          exact ⟨rfl, t21⟩
        · have HH : Hid (parT (txtL l3) = (l3, true)) := txtL_hit hgl
          have HM96 := Lib.hid hm96
          generalize txtL l3 = t at *
          clear hgl
          have hm96 := HM96.out
          go_wp2_with fail
          refine (implParseTrace_any _ mx ev _ (cell_below t16 HM.out) (pow10_below HT.out t16) (cell_below t16 HE.out) HEV.out (by omega)).mono ?_
          rintro e w17 ⟨⟨A3, q3, c3, rfl, o3⟩, b17⟩
          have t17 := below_trans t16 b17
          have o1 := o1.below b17
          have o2 := o2.below b17
          replace r3 := r3.below b17
          have o3_b := o3
          have hqb : Own tsV 2 w17 _ _ _ _ _ l3 := (by have h9 := o3; rw [HH.out] at h9; exact h9)
          rw [HH.out]
          replace o3 := hqb
          replace o3_b := hqb
          clear hqb
          go_wp2_with fail
          refine (rTraces_same _ _ _ _ _ _ l3 _ (o3.rd tsV_len) r3).mono ?_
          rintro e w18 ⟨rfl, b18⟩
          have t18 := below_trans t17 b18
          have o1 := o1.below b18
          have o2 := o2.below b18
          have o3 := o3.below b18
          replace r3 := r3.below b18
          go_wp2_with fail
          refine (drawParseTrace_any _ _ _ l _ (ha.below t18) hb).mono ?_
          rintro e w19 ⟨⟨u, rfl, hu⟩, b19⟩
          have t19 := below_trans t18 b19
          have o1 := o1.below b19
          have o2 := o2.below b19
          have o3 := o3.below b19
          replace r3 := r3.below b19
          clear r3
          go_wp2_with fail
          refine (implParseTrace_any u mx ev _ (cell_below t19 HM.out) (pow10_below HT.out t19) (cell_below t19 HE.out) HEV.out (by omega)).mono ?_
          rintro e w20 ⟨⟨A4, q4, c4, rfl, o4⟩, b20⟩
          have t20 := below_trans t19 b20
          have o1 := o1.below b20
          have o2 := o2.below b20
          have o3 := o3.below b20
          have o4_b := o4
          go_wp2_with fail
          refine (specParseTrace_any u _ (by omega)).mono ?_
          rintro e w21 ⟨⟨A5, q5, c5, rfl, o5⟩, b21⟩
          have t21 := below_trans t20 b21
          have o1 := o1.below b21
          have o2 := o2.below b21
          have o3 := o3.below b21
          have o4 := o4.below b21
          have o5_b := o5
          go_wp2_with fail
          refine (rTraces_same _ _ _ _ _ _ _ _ (o4.rd tsV_len) (o5.rd tsV_len)).mono ?_
          rintro e w22 ⟨rfl, b22⟩
          have t22 := below_trans t21 b22
          have o1 := o1.below b22
          have o2 := o2.below b22
          have o3 := o3.below b22
          have o4 := o4.below b22
          have o5 := o5.below b22
          go_wp2
          go_ret
          exact ⟨rfl, t22⟩
    · have hor := fd_no hgd hfd
      rw [hor]
      clear hfd hgd hor
      skip
      go_wp2_with fail
      refine (drawAdd_any _ _ _ l _ (ha.below t4) hb).mono ?_
      rintro e w5 ⟨⟨Av2, qv2, cv2, l2, s, rfl, hq2, v2⟩, b5⟩
      have t5 := below_trans t4 b5
      replace r1 := r1.below b5
      have r2 := v2.rd tsV_len
      clear v2
      have b6 := below_alloc (w := w5) (.cells #[.int .i64 s.m, .int .i64 s.k] 31)
      have u0 : (w5.alloc (.cells #[.int .i64 s.m, .int .i64 s.k] 31)).cell? ⟨w5.heap.size, 0, none⟩ = some (.int .i64 s.m) := cell_of_row _ _ 0 _ _ _ (heap_new rfl)
      have u1 : (w5.alloc (.cells #[.int .i64 s.m, .int .i64 s.k] 31)).cell? ⟨w5.heap.size, 1, none⟩ = some (.int .i64 s.k) := cell_of_row _ _ 1 _ _ _ (heap_new rfl)
      have t6 := below_trans t5 b6
      replace r1 := r1.below b6
      replace r2 := r2.below b6
      go_wp2_with fail
      generalize hgw6 : w5.alloc (.cells #[.int .i64 s.m, .int .i64 s.k] 31) = w6 at *
      clear hgw6
      refine (implAddStep_any _ _ _ l2 s _ r2 (by omega)).mono ?_
      rintro e w7 ⟨⟨A1, q1, c1, rfl, o1⟩, b7⟩
      have t7 := below_trans t6 b7
      replace r1 := r1.below b7
      replace r2 := r2.below b7
      replace u0 := cell_below b7 u0
      replace u1 := cell_below b7 u1
      have o1_b := o1
      go_wp2_with fail
      refine (specAddStep_any _ _ _ l2 s _ r2 (by omega)).mono ?_
      rintro e w8 ⟨⟨A2, q2, c2, rfl, o2⟩, b8⟩
      have t8 := below_trans t7 b8
      have o1 := o1.below b8
      replace r1 := r1.below b8
      replace r2 := r2.below b8
      replace u0 := cell_below b8 u0
      replace u1 := cell_below b8 u1
      have o2_b := o2
      go_wp2_with fail
      refine (rTraces_same _ _ _ _ _ _ _ _ (o1.rd tsV_len) (o2.rd tsV_len)).mono ?_
      rintro e w9 ⟨rfl, b9⟩
      have t9 := below_trans t8 b9
      have o1 := o1.below b9
      have o2 := o2.below b9
      replace r1 := r1.below b9
      replace r2 := r2.below b9
      replace u0 := cell_below b9 u0
      replace u1 := cell_below b9 u1
      cases had : addB l2 s
      · clear had
        skip
        go_wp2_with fail
        refine (drawTraceText_any _ _ _ l _ (ha.below t9) hb).mono ?_
        rintro e w10 ⟨⟨Av3, qv3, cv3, l3, rfl, hq3, v3⟩, b10⟩
        have t10 := below_trans t9 b10
        have o1 := o1.below b10
        have o2 := o2.below b10
        replace r1 := r1.below b10
        replace r2 := r2.below b10
        replace u0 := cell_below b10 u0
        replace u1 := cell_below b10 u1
        have r3 := v3.rd tsV_len
        clear v3 r1 r2 u0 u1
        go_wp2_with fail
        refine (implTraceText_any _ _ _ l3 _ r3).mono ?_
        rintro e w11 ⟨rfl, b11⟩
        have t11 := below_trans t10 b11
        have o1 := o1.below b11
        have o2 := o2.below b11
        replace r3 := r3.below b11
        go_wp2_with fail
        refine (specTraceText_any _ _ _ l3 _ r3).mono ?_
        rintro e w12 ⟨rfl, b12⟩
        have t12 := below_trans t11 b12
        have o1 := o1.below b12
        have o2 := o2.below b12
        replace r3 := r3.below b12
        go_wp2_with fail
        refine (implIsTraceList_any _ _ _ l3 _ r3).mono ?_
        rintro e w13 ⟨rfl, b13⟩
        have t13 := below_trans t12 b13
        have o1 := o1.below b13
        have o2 := o2.below b13
        replace r3 := r3.below b13
        have hm96 := txtL_96 l3
        cases hgl : goodL l3
        · have HM96 := Lib.hid hm96
          generalize txtL l3 = t at *
          clear hgl
          have hm96 := HM96.out
          go_wp2_with fail
          refine (implParseTrace_any _ mx ev _ (cell_below t13 HM.out) (pow10_below HT.out t13) (cell_below t13 HE.out) HEV.out (by omega)).mono ?_
          rintro e w14 ⟨⟨A3, q3, c3, rfl, o3⟩, b14⟩
          have t14 := below_trans t13 b14
          have o1 := o1.below b14
          have o2 := o2.below b14
          replace r3 := r3.below b14
          have o3_b := o3
          go_wp2_with fail
          refine (drawParseTrace_any _ _ _ l _ (ha.below t14) hb).mono ?_
          rintro e w15 ⟨⟨u, rfl, hu⟩, b15⟩
          have t15 := below_trans t14 b15
          have o1 := o1.below b15
          have o2 := o2.below b15
          have o3 := o3.below b15
          replace r3 := r3.below b15
          clear r3
          go_wp2_with fail
          refine (implParseTrace_any u mx ev _ (cell_below t15 HM.out) (pow10_below HT.out t15) (cell_below t15 HE.out) HEV.out (by omega)).mono ?_
          rintro e w16 ⟨⟨A4, q4, c4, rfl, o4⟩, b16⟩
          have t16 := below_trans t15 b16
          have o1 := o1.below b16
          have o2 := o2.below b16
          have o3 := o3.below b16
          have o4_b := o4
          go_wp2_with fail
          refine (specParseTrace_any u _ (by omega)).mono ?_
          rintro e w17 ⟨⟨A5, q5, c5, rfl, o5⟩, b17⟩
          have t17 := below_trans t16 b17
          have o1 := o1.below b17
          have o2 := o2.below b17
          have o3 := o3.below b17
          have o4 := o4.below b17
          have o5_b := o5
          go_wp2_with fail
          refine (rTraces_same _ _ _ _ _ _ _ _ (o4.rd tsV_len) (o5.rd tsV_len)).mono ?_
          rintro e w18 ⟨rfl, b18⟩
          have t18 := below_trans t17 b18
          have o1 := o1.below b18
          have o2 := o2.below b18
          have o3 := o3.below b18
          have o4 := o4.below b18
          have o5 := o5.below b18
          go_wp2
          go_ret
          exact ⟨rfl, t18⟩
        · have HH : Hid (parT (txtL l3) = (l3, true)) := txtL_hit hgl
          have HM96 := Lib.hid hm96
          generalize txtL l3 = t at *
          clear hgl
          have hm96 := HM96.out
          go_wp2_with fail
          refine (implParseTrace_any _ mx ev _ (cell_below t13 HM.out) (pow10_below HT.out t13) (cell_below t13 HE.out) HEV.out (by omega)).mono ?_
          rintro e w14 ⟨⟨A3, q3, c3, rfl, o3⟩, b14⟩
          have t14 := below_trans t13 b14
          have o1 := o1.below b14
          have o2 := o2.below b14
          replace r3 := r3.below b14
          have o3_b := o3
          have hqb : Own tsV 2 w14 _ _ _ _ _ l3 := (by have h9 := o3; rw [HH.out] at h9; exact h9)
          rw [HH.out]
          replace o3 := hqb
          replace o3_b := hqb
          clear hqb
          go_wp2_with fail
          refine (rTraces_same _ _ _ _ _ _ l3 _ (o3.rd tsV_len) r3).mono ?_
          rintro e w15 ⟨rfl, b15⟩
          have t15 := below_trans t14 b15
          have o1 := o1.below b15
          have o2 := o2.below b15
          have o3 := o3.below b15
          replace r3 := r3.below b15
          go_wp2_with fail
          refine (drawParseTrace_any _ _ _ l _ (ha.below t15) hb).mono ?_
          rintro e w16 ⟨⟨u, rfl, hu⟩, b16⟩
          have t16 := below_trans t15 b16
          have o1 := o1.below b16
          have o2 := o2.below b16
          have o3 := o3.below b16
          replace r3 := r3.below b16
          clear r3
          go_wp2_with fail
          refine (implParseTrace_any u mx ev _ (cell_below t16 HM.out) (pow10_below HT.out t16) (cell_below t16 HE.out) HEV.out (by omega)).mono ?_
          rintro e w17 ⟨⟨A4, q4, c4, rfl, o4⟩, b17⟩
          have t17 := below_trans t16 b17
          have o1 := o1.below b17
          have o2 := o2.below b17
          have o3 := o3.below b17
          have o4_b := o4
          go_wp2_with fail
          refine (specParseTrace_any u _ (by omega)).mono ?_
          rintro e w18 ⟨⟨A5, q5, c5, rfl, o5⟩, b18⟩
          have t18 := below_trans t17 b18
          have o1 := o1.below b18
          have o2 := o2.below b18
          have o3 := o3.below b18
          have o4 := o4.below b18
          have o5_b := o5
          go_wp2_with fail
          refine (rTraces_same _ _ _ _ _ _ _ _ (o4.rd tsV_len) (o5.rd tsV_len)).mono ?_
          rintro e w19 ⟨rfl, b19⟩
          have t19 := below_trans t18 b19
          have o1 := o1.below b19
          have o2 := o2.below b19
          have o3 := o3.below b19
          have o4 := o4.below b19
          have o5 := o5.below b19
          go_wp2
          go_ret
          exact ⟨rfl, t19⟩
      · obtain ⟨hA, hg1, hg2, ho2, hts⟩ := add_yes had
        have hm : inB s.m 1 20 = true := by unfold tsOK at hts; rw [Bool.and_eq_true] at hts; exact hts.1
        have rM : Rd tsV 2 w9 A1 q1 c1 (l2 ++ [s]) := by have h9 := (o1.rd tsV_len); rw [hA] at h9; exact h9
        have HO := Lib.hid (show (goodL (l2 ++ [s]) && ordL (l2 ++ [s])) = true by rw [hg2, ho2]; rfl)
        clear hA ho2 hts had
        go_wp2_with fail
        refine (implIsOrderly_any _ _ _ (l2 ++ [s]) _ rM).mono ?_
        rintro e w10 ⟨rfl, b10⟩
        have t10 := below_trans t9 b10
        have o1 := o1.below b10
        have o2 := o2.below b10
        replace r1 := r1.below b10
        replace r2 := r2.below b10
        replace u0 := cell_below b10 u0
        replace u1 := cell_below b10 u1
        replace rM := rM.below b10
        rw [HO.out, hg2]
        go_wp2_with fail
        refine (implPathOf_yes _ _ _ l2 s.m _ r2 hg1 hm).mono ?_
        rintro e w11 ⟨rfl, b11⟩
        have t11 := below_trans t10 b11
        have o1 := o1.below b11
        have o2 := o2.below b11
        replace r1 := r1.below b11
        replace r2 := r2.below b11
        replace u0 := cell_below b11 u0
        replace u1 := cell_below b11 u1
        replace rM := rM.below b11
        go_wp2_with fail
        refine (implPathOf_yes _ _ _ (l2 ++ [s]) s.m _ rM hg2 hm).mono ?_
        rintro e w12 ⟨rfl, b12⟩
        have t12 := below_trans t11 b12
        have o1 := o1.below b12
        have o2 := o2.below b12
        replace r1 := r1.below b12
        replace r2 := r2.below b12
        replace u0 := cell_below b12 u0
        replace u1 := cell_below b12 u1
        replace rM := rM.below b12
        have hps := path_size l2 s.m
        have hl2 := r2.len
        rw [path_add]
        obtain ⟨p, hp⟩ : ∃ p, p = path l2 s.m := ⟨_, rfl⟩
        rw [← hp] at hps
        rw [← hp]
        have hpz : (p ++ ⟨#[letter s.k]⟩).size = p.size + 1 := by rw [ByteArray.size_append]; rfl
        have hpe : (p ++ ⟨#[letter s.k]⟩).extract 0 p.size = p := by
          apply ByteArray.ext
          apply Array.toList_inj.1
          rw [Lib.extract_from_zero, ByteArray.data_append, Array.toList_append]
          exact List.take_left' rfl
        have hpq : p.size ≤ 100 := by omega
        generalize p ++ ⟨#[letter s.k]⟩ = pp at *
        clear hp hps hl2 hg1 hg2 hm HO
        clear rM
        skip
        go_wp2_with fail
        refine (drawTraceText_any _ _ _ l _ (ha.below t12) hb).mono ?_
        rintro e w13 ⟨⟨Av3, qv3, cv3, l3, rfl, hq3, v3⟩, b13⟩
        have t13 := below_trans t12 b13
        have o1 := o1.below b13
        have o2 := o2.below b13
        replace r1 := r1.below b13
        replace r2 := r2.below b13
        replace u0 := cell_below b13 u0
        replace u1 := cell_below b13 u1
        have r3 := v3.rd tsV_len
        clear v3 r1 r2 u0 u1
        go_wp2_with fail
        refine (implTraceText_any _ _ _ l3 _ r3).mono ?_
        rintro e w14 ⟨rfl, b14⟩
        have t14 := below_trans t13 b14
        have o1 := o1.below b14
        have o2 := o2.below b14
        replace r3 := r3.below b14
        go_wp2_with fail
        refine (specTraceText_any _ _ _ l3 _ r3).mono ?_
        rintro e w15 ⟨rfl, b15⟩
        have t15 := below_trans t14 b15
        have o1 := o1.below b15
        have o2 := o2.below b15
        replace r3 := r3.below b15
        go_wp2_with fail
        refine (implIsTraceList_any _ _ _ l3 _ r3).mono ?_
        rintro e w16 ⟨rfl, b16⟩
        have t16 := below_trans t15 b16
        have o1 := o1.below b16
        have o2 := o2.below b16
        replace r3 := r3.below b16
        have hm96 := txtL_96 l3
        cases hgl : goodL l3
        · have HM96 := Lib.hid hm96
          generalize txtL l3 = t at *
          clear hgl
          have hm96 := HM96.out
          go_wp2_with fail
          refine (implParseTrace_any _ mx ev _ (cell_below t16 HM.out) (pow10_below HT.out t16) (cell_below t16 HE.out) HEV.out (by omega)).mono ?_
          rintro e w17 ⟨⟨A3, q3, c3, rfl, o3⟩, b17⟩
          have t17 := below_trans t16 b17
          have o1 := o1.below b17
          have o2 := o2.below b17
          replace r3 := r3.below b17
          have o3_b := o3
          go_wp2_with fail
          refine (drawParseTrace_any _ _ _ l _ (ha.below t17) hb).mono ?_
          rintro e w18 ⟨⟨u, rfl, hu⟩, b18⟩
          have t18 := below_trans t17 b18
          have o1 := o1.below b18
          have o2 := o2.below b18
          have o3 := o3.below b18
          replace r3 := r3.below b18
          clear r3
          go_wp2_with fail
          refine (implParseTrace_any u mx ev _ (cell_below t18 HM.out) (pow10_below HT.out t18) (cell_below t18 HE.out) HEV.out (by omega)).mono ?_
          rintro e w19 ⟨⟨A4, q4, c4, rfl, o4⟩, b19⟩
          have t19 := below_trans t18 b19
          have o1 := o1.below b19
          have o2 := o2.below b19
          have o3 := o3.below b19
          have o4_b := o4
          go_wp2_with fail
          refine (specParseTrace_any u _ (by omega)).mono ?_
          rintro e w20 ⟨⟨A5, q5, c5, rfl, o5⟩, b20⟩
          have t20 := below_trans t19 b20
          have o1 := o1.below b20
          have o2 := o2.below b20
          have o3 := o3.below b20
          have o4 := o4.below b20
          have o5_b := o5
          go_wp2_with fail
          refine (rTraces_same _ _ _ _ _ _ _ _ (o4.rd tsV_len) (o5.rd tsV_len)).mono ?_
          rintro e w21 ⟨rfl, b21⟩
          have t21 := below_trans t20 b21
          have o1 := o1.below b21
          have o2 := o2.below b21
          have o3 := o3.below b21
          have o4 := o4.below b21
          have o5 := o5.below b21
          go_wp2
          go_ret
          exact ⟨rfl, t21⟩
        · have HH : Hid (parT (txtL l3) = (l3, true)) := txtL_hit hgl
          have HM96 := Lib.hid hm96
          generalize txtL l3 = t at *
          clear hgl
          have hm96 := HM96.out
          go_wp2_with fail
          refine (implParseTrace_any _ mx ev _ (cell_below t16 HM.out) (pow10_below HT.out t16) (cell_below t16 HE.out) HEV.out (by omega)).mono ?_
          rintro e w17 ⟨⟨A3, q3, c3, rfl, o3⟩, b17⟩
          have t17 := below_trans t16 b17
          have o1 := o1.below b17
          have o2 := o2.below b17
          replace r3 := r3.below b17
          have o3_b := o3
          have hqb : Own tsV 2 w17 _ _ _ _ _ l3 := (by have h9 := o3; rw [HH.out] at h9; exact h9)
          rw [HH.out]
          replace o3 := hqb
          replace o3_b := hqb
          clear hqb
          go_wp2_with fail
          refine (rTraces_same _ _ _ _ _ _ l3 _ (o3.rd tsV_len) r3).mono ?_
          rintro e w18 ⟨rfl, b18⟩
          have t18 := below_trans t17 b18
          have o1 := o1.below b18
          have o2 := o2.below b18
          have o3 := o3.below b18
          replace r3 := r3.below b18
          go_wp2_with fail
          refine (drawParseTrace_any _ _ _ l _ (ha.below t18) hb).mono ?_
          rintro e w19 ⟨⟨u, rfl, hu⟩, b19⟩
          have t19 := below_trans t18 b19
          have o1 := o1.below b19
          have o2 := o2.below b19
          have o3 := o3.below b19
          replace r3 := r3.below b19
          clear r3
          go_wp2_with fail
          refine (implParseTrace_any u mx ev _ (cell_below t19 HM.out) (pow10_below HT.out t19) (cell_below t19 HE.out) HEV.out (by omega)).mono ?_
          rintro e w20 ⟨⟨A4, q4, c4, rfl, o4⟩, b20⟩
          have t20 := below_trans t19 b20
          have o1 := o1.below b20
          have o2 := o2.below b20
          have o3 := o3.below b20
          have o4_b := o4
          go_wp2_with fail
          refine (specParseTrace_any u _ (by omega)).mono ?_
          rintro e w21 ⟨⟨A5, q5, c5, rfl, o5⟩, b21⟩
          have t21 := below_trans t20 b21
          have o1 := o1.below b21
          have o2 := o2.below b21
          have o3 := o3.below b21
          have o4 := o4.below b21
          have o5_b := o5
          go_wp2_with fail
          refine (rTraces_same _ _ _ _ _ _ _ _ (o4.rd tsV_len) (o5.rd tsV_len)).mono ?_
          rintro e w22 ⟨rfl, b22⟩
          have t22 := below_trans t21 b22
          have o1 := o1.below b22
          have o2 := o2.below b22
          have o3 := o3.below b22
          have o4 := o4.below b22
          have o5 := o5.below b22
          go_wp2
          go_ret
          exact ⟨rfl, t22⟩
  · obtain ⟨hgd, hor, i, hN, hi, hpre⟩ := fd_yes hfd
    have hgt := good_take hgd i
    rw [hN, hgd, hor]
    have hl1 := r1.len
    have hiq : i ≤ qv1 := by omega
    have hc1 := r1.cap
    have rt := r1.take hiq
    have HG := Lib.hid (show (goodL (l1.take i) && ordL (l1.take i)) = true by rw [hgt, hpre]; rfl)
    have HG2 := Lib.hid hgt
    clear hfd hgd hor hN hgt hpre hi hl1
    have hsub : ((i : Int) + 1) - 1 = (i : Int) := by omega
    have hi0 : (0 : Int) ≤ (i : Int) := by omega
    have hic : (i : Int) ≤ (cv1 : Int) := by omega
    go_wp2_with fail
    refine (implIsOrderly_any Av1 i cv1 (l1.take i) _ rt).mono ?_
    rintro e w5 ⟨rfl, b5⟩
    have t5 := below_trans t4 b5
    replace r1 := r1.below b5
    clear rt
    rw [HG.out, HG2.out]
    skip
    go_wp2_with fail
    refine (drawAdd_any _ _ _ l _ (ha.below t5) hb).mono ?_
    rintro e w6 ⟨⟨Av2, qv2, cv2, l2, s, rfl, hq2, v2⟩, b6⟩
    have t6 := below_trans t5 b6
    replace r1 := r1.below b6
    have r2 := v2.rd tsV_len
    clear v2
    have b7 := below_alloc (w := w6) (.cells #[.int .i64 s.m, .int .i64 s.k] 31)
    have u0 : (w6.alloc (.cells #[.int .i64 s.m, .int .i64 s.k] 31)).cell? ⟨w6.heap.size, 0, none⟩ = some (.int .i64 s.m) := cell_of_row _ _ 0 _ _ _ (heap_new rfl)
    have u1 : (w6.alloc (.cells #[.int .i64 s.m, .int .i64 s.k] 31)).cell? ⟨w6.heap.size, 1, none⟩ = some (.int .i64 s.k) := cell_of_row _ _ 1 _ _ _ (heap_new rfl)
    have t7 := below_trans t6 b7
    replace r1 := r1.below b7
    replace r2 := r2.below b7
    go_wp2_with fail
    generalize hgw7 : w6.alloc (.cells #[.int .i64 s.m, .int .i64 s.k] 31) = w7 at *
    clear hgw7
    refine (implAddStep_any _ _ _ l2 s _ r2 (by omega)).mono ?_
    rintro e w8 ⟨⟨A1, q1, c1, rfl, o1⟩, b8⟩
    have t8 := below_trans t7 b8
    replace r1 := r1.below b8
    replace r2 := r2.below b8
    replace u0 := cell_below b8 u0
    replace u1 := cell_below b8 u1
    have o1_b := o1
    go_wp2_with fail
    refine (specAddStep_any _ _ _ l2 s _ r2 (by omega)).mono ?_
    rintro e w9 ⟨⟨A2, q2, c2, rfl, o2⟩, b9⟩
    have t9 := below_trans t8 b9
    have o1 := o1.below b9
    replace r1 := r1.below b9
    replace r2 := r2.below b9
    replace u0 := cell_below b9 u0
    replace u1 := cell_below b9 u1
    have o2_b := o2
    go_wp2_with fail
    refine (rTraces_same _ _ _ _ _ _ _ _ (o1.rd tsV_len) (o2.rd tsV_len)).mono ?_
    rintro e w10 ⟨rfl, b10⟩
    have t10 := below_trans t9 b10
    have o1 := o1.below b10
    have o2 := o2.below b10
    replace r1 := r1.below b10
    replace r2 := r2.below b10
    replace u0 := cell_below b10 u0
    replace u1 := cell_below b10 u1
    cases had : addB l2 s
    · clear had
      skip
      go_wp2_with fail
      refine (drawTraceText_any _ _ _ l _ (ha.below t10) hb).mono ?_
      rintro e w11 ⟨⟨Av3, qv3, cv3, l3, rfl, hq3, v3⟩, b11⟩
      have t11 := below_trans t10 b11
      have o1 := o1.below b11
      have o2 := o2.below b11
      replace r1 := r1.below b11
      replace r2 := r2.below b11
      replace u0 := cell_below b11 u0
      replace u1 := cell_below b11 u1
      have r3 := v3.rd tsV_len
      clear v3 r1 r2 u0 u1
      go_wp2_with fail
      refine (implTraceText_any _ _ _ l3 _ r3).mono ?_
      rintro e w12 ⟨rfl, b12⟩
      have t12 := below_trans t11 b12
      have o1 := o1.below b12
      have o2 := o2.below b12
      replace r3 := r3.below b12
      go_wp2_with fail
      refine (specTraceText_any _ _ _ l3 _ r3).mono ?_
      rintro e w13 ⟨rfl, b13⟩
      have t13 := below_trans t12 b13
      have o1 := o1.below b13
      have o2 := o2.below b13
      replace r3 := r3.below b13
      go_wp2_with fail
      refine (implIsTraceList_any _ _ _ l3 _ r3).mono ?_
      rintro e w14 ⟨rfl, b14⟩
      have t14 := below_trans t13 b14
      have o1 := o1.below b14
      have o2 := o2.below b14
      replace r3 := r3.below b14
      have hm96 := txtL_96 l3
      cases hgl : goodL l3
      · have HM96 := Lib.hid hm96
        generalize txtL l3 = t at *
        clear hgl
        have hm96 := HM96.out
        go_wp2_with fail
        refine (implParseTrace_any _ mx ev _ (cell_below t14 HM.out) (pow10_below HT.out t14) (cell_below t14 HE.out) HEV.out (by omega)).mono ?_
        rintro e w15 ⟨⟨A3, q3, c3, rfl, o3⟩, b15⟩
        have t15 := below_trans t14 b15
        have o1 := o1.below b15
        have o2 := o2.below b15
        replace r3 := r3.below b15
        have o3_b := o3
        go_wp2_with fail
        refine (drawParseTrace_any _ _ _ l _ (ha.below t15) hb).mono ?_
        rintro e w16 ⟨⟨u, rfl, hu⟩, b16⟩
        have t16 := below_trans t15 b16
        have o1 := o1.below b16
        have o2 := o2.below b16
        have o3 := o3.below b16
        replace r3 := r3.below b16
        clear r3
        go_wp2_with fail
        refine (implParseTrace_any u mx ev _ (cell_below t16 HM.out) (pow10_below HT.out t16) (cell_below t16 HE.out) HEV.out (by omega)).mono ?_
        rintro e w17 ⟨⟨A4, q4, c4, rfl, o4⟩, b17⟩
        have t17 := below_trans t16 b17
        have o1 := o1.below b17
        have o2 := o2.below b17
        have o3 := o3.below b17
        have o4_b := o4
        go_wp2_with fail
        refine (specParseTrace_any u _ (by omega)).mono ?_
        rintro e w18 ⟨⟨A5, q5, c5, rfl, o5⟩, b18⟩
        have t18 := below_trans t17 b18
        have o1 := o1.below b18
        have o2 := o2.below b18
        have o3 := o3.below b18
        have o4 := o4.below b18
        have o5_b := o5
        go_wp2_with fail
        refine (rTraces_same _ _ _ _ _ _ _ _ (o4.rd tsV_len) (o5.rd tsV_len)).mono ?_
        rintro e w19 ⟨rfl, b19⟩
        have t19 := below_trans t18 b19
        have o1 := o1.below b19
        have o2 := o2.below b19
        have o3 := o3.below b19
        have o4 := o4.below b19
        have o5 := o5.below b19
        go_wp2
        go_ret
        exact ⟨rfl, t19⟩
      · have HH : Hid (parT (txtL l3) = (l3, true)) := txtL_hit hgl
        have HM96 := Lib.hid hm96
        generalize txtL l3 = t at *
        clear hgl
        have hm96 := HM96.out
        go_wp2_with fail
        refine (implParseTrace_any _ mx ev _ (cell_below t14 HM.out) (pow10_below HT.out t14) (cell_below t14 HE.out) HEV.out (by omega)).mono ?_
        rintro e w15 ⟨⟨A3, q3, c3, rfl, o3⟩, b15⟩
        have t15 := below_trans t14 b15
        have o1 := o1.below b15
        have o2 := o2.below b15
        replace r3 := r3.below b15
        have o3_b := o3
        have hqb : Own tsV 2 w15 _ _ _ _ _ l3 := (by have h9 := o3; rw [HH.out] at h9; exact h9)
        rw [HH.out]
        replace o3 := hqb
        replace o3_b := hqb
        clear hqb
        go_wp2_with fail
        refine (rTraces_same _ _ _ _ _ _ l3 _ (o3.rd tsV_len) r3).mono ?_
        rintro e w16 ⟨rfl, b16⟩
        have t16 := below_trans t15 b16
        have o1 := o1.below b16
        have o2 := o2.below b16
        have o3 := o3.below b16
        replace r3 := r3.below b16
        go_wp2_with fail
        refine (drawParseTrace_any _ _ _ l _ (ha.below t16) hb).mono ?_
        rintro e w17 ⟨⟨u, rfl, hu⟩, b17⟩
        have t17 := below_trans t16 b17
        have o1 := o1.below b17
        have o2 := o2.below b17
        have o3 := o3.below b17
        replace r3 := r3.below b17
        clear r3
        go_wp2_with fail
        refine (implParseTrace_any u mx ev _ (cell_below t17 HM.out) (pow10_below HT.out t17) (cell_below t17 HE.out) HEV.out (by omega)).mono ?_
        rintro e w18 ⟨⟨A4, q4, c4, rfl, o4⟩, b18⟩
        have t18 := below_trans t17 b18
        have o1 := o1.below b18
        have o2 := o2.below b18
        have o3 := o3.below b18
        have o4_b := o4
        go_wp2_with fail
        refine (specParseTrace_any u _ (by omega)).mono ?_
        rintro e w19 ⟨⟨A5, q5, c5, rfl, o5⟩, b19⟩
        have t19 := below_trans t18 b19
        have o1 := o1.below b19
        have o2 := o2.below b19
        have o3 := o3.below b19
        have o4 := o4.below b19
        have o5_b := o5
        go_wp2_with fail
        refine (rTraces_same _ _ _ _ _ _ _ _ (o4.rd tsV_len) (o5.rd tsV_len)).mono ?_
        rintro e w20 ⟨rfl, b20⟩
        have t20 := below_trans t19 b20
        have o1 := o1.below b20
        have o2 := o2.below b20
        have o3 := o3.below b20
        have o4 := o4.below b20
        have o5 := o5.below b20
        go_wp2
        go_ret
        exact ⟨rfl, t20⟩
    · obtain ⟨hA, hg1, hg2, ho2, hts⟩ := add_yes had
      have hm : inB s.m 1 20 = true := by unfold tsOK at hts; rw [Bool.and_eq_true] at hts; exact hts.1
      have rM : Rd tsV 2 w10 A1 q1 c1 (l2 ++ [s]) := by have h9 := (o1.rd tsV_len); rw [hA] at h9; exact h9
      have HO := Lib.hid (show (goodL (l2 ++ [s]) && ordL (l2 ++ [s])) = true by rw [hg2, ho2]; rfl)
      clear hA ho2 hts had
      go_wp2_with fail
      refine (implIsOrderly_any _ _ _ (l2 ++ [s]) _ rM).mono ?_
      rintro e w11 ⟨rfl, b11⟩
      have t11 := below_trans t10 b11
      have o1 := o1.below b11
      have o2 := o2.below b11
      replace r1 := r1.below b11
      replace r2 := r2.below b11
      replace u0 := cell_below b11 u0
      replace u1 := cell_below b11 u1
      replace rM := rM.below b11
      rw [HO.out, hg2]
      go_wp2_with fail
      refine (implPathOf_yes _ _ _ l2 s.m _ r2 hg1 hm).mono ?_
      rintro e w12 ⟨rfl, b12⟩
      have t12 := below_trans t11 b12
      have o1 := o1.below b12
      have o2 := o2.below b12
      replace r1 := r1.below b12
      replace r2 := r2.below b12
      replace u0 := cell_below b12 u0
      replace u1 := cell_below b12 u1
      replace rM := rM.below b12
      go_wp2_with fail
      refine (implPathOf_yes _ _ _ (l2 ++ [s]) s.m _ rM hg2 hm).mono ?_
      rintro e w13 ⟨rfl, b13⟩
      have t13 := below_trans t12 b13
      have o1 := o1.below b13
      have o2 := o2.below b13
      replace r1 := r1.below b13
      replace r2 := r2.below b13
      replace u0 := cell_below b13 u0
      replace u1 := cell_below b13 u1
      replace rM := rM.below b13
      have hps := path_size l2 s.m
      have hl2 := r2.len
      rw [path_add]
      obtain ⟨p, hp⟩ : ∃ p, p = path l2 s.m := ⟨_, rfl⟩
      rw [← hp] at hps
      rw [← hp]
      have hpz : (p ++ ⟨#[letter s.k]⟩).size = p.size + 1 := by rw [ByteArray.size_append]; rfl
      have hpe : (p ++ ⟨#[letter s.k]⟩).extract 0 p.size = p := by
        apply ByteArray.ext
        apply Array.toList_inj.1
        rw [Lib.extract_from_zero, ByteArray.data_append, Array.toList_append]
        exact List.take_left' rfl
      have hpq : p.size ≤ 100 := by omega
      generalize p ++ ⟨#[letter s.k]⟩ = pp at *
      clear hp hps hl2 hg1 hg2 hm HO
      clear rM
      skip
      go_wp2_with fail
      refine (drawTraceText_any _ _ _ l _ (ha.below t13) hb).mono ?_
      rintro e w14 ⟨⟨Av3, qv3, cv3, l3, rfl, hq3, v3⟩, b14⟩
      have t14 := below_trans t13 b14
      have o1 := o1.below b14
      have o2 := o2.below b14
      replace r1 := r1.below b14
      replace r2 := r2.below b14
      replace u0 := cell_below b14 u0
      replace u1 := cell_below b14 u1
      have r3 := v3.rd tsV_len
      clear v3 r1 r2 u0 u1
      go_wp2_with fail
      refine (implTraceText_any _ _ _ l3 _ r3).mono ?_
      rintro e w15 ⟨rfl, b15⟩
      have t15 := below_trans t14 b15
      have o1 := o1.below b15
      have o2 := o2.below b15
      replace r3 := r3.below b15
      go_wp2_with fail
      refine (specTraceText_any _ _ _ l3 _ r3).mono ?_
      rintro e w16 ⟨rfl, b16⟩
      have t16 := below_trans t15 b16
      have o1 := o1.below b16
      have o2 := o2.below b16
      replace r3 := r3.below b16
      go_wp2_with fail
      refine (implIsTraceList_any _ _ _ l3 _ r3).mono ?_
      rintro e w17 ⟨rfl, b17⟩
      have t17 := below_trans t16 b17
      have o1 := o1.below b17
      have o2 := o2.below b17
      replace r3 := r3.below b17
      have hm96 := txtL_96 l3
      cases hgl : goodL l3
      · have HM96 := Lib.hid hm96
        generalize txtL l3 = t at *
        clear hgl
        have hm96 := HM96.out
        go_wp2_with fail
        refine (implParseTrace_any _ mx ev _ (cell_below t17 HM.out) (pow10_below HT.out t17) (cell_below t17 HE.out) HEV.out (by omega)).mono ?_
        rintro e w18 ⟨⟨A3, q3, c3, rfl, o3⟩, b18⟩
        have t18 := below_trans t17 b18
        have o1 := o1.below b18
        have o2 := o2.below b18
        replace r3 := r3.below b18
        have o3_b := o3
        go_wp2_with fail
        refine (drawParseTrace_any _ _ _ l _ (ha.below t18) hb).mono ?_
        rintro e w19 ⟨⟨u, rfl, hu⟩, b19⟩
        have t19 := below_trans t18 b19
        have o1 := o1.below b19
        have o2 := o2.below b19
        have o3 := o3.below b19
        replace r3 := r3.below b19
        clear r3
        go_wp2_with fail
        refine (implParseTrace_any u mx ev _ (cell_below t19 HM.out) (pow10_below HT.out t19) (cell_below t19 HE.out) HEV.out (by omega)).mono ?_
        rintro e w20 ⟨⟨A4, q4, c4, rfl, o4⟩, b20⟩
        have t20 := below_trans t19 b20
        have o1 := o1.below b20
        have o2 := o2.below b20
        have o3 := o3.below b20
        have o4_b := o4
        go_wp2_with fail
        refine (specParseTrace_any u _ (by omega)).mono ?_
        rintro e w21 ⟨⟨A5, q5, c5, rfl, o5⟩, b21⟩
        have t21 := below_trans t20 b21
        have o1 := o1.below b21
        have o2 := o2.below b21
        have o3 := o3.below b21
        have o4 := o4.below b21
        have o5_b := o5
        go_wp2_with fail
        refine (rTraces_same _ _ _ _ _ _ _ _ (o4.rd tsV_len) (o5.rd tsV_len)).mono ?_
        rintro e w22 ⟨rfl, b22⟩
        have t22 := below_trans t21 b22
        have o1 := o1.below b22
        have o2 := o2.below b22
        have o3 := o3.below b22
        have o4 := o4.below b22
        have o5 := o5.below b22
        go_wp2
        go_ret
        exact ⟨rfl, t22⟩
      · have HH : Hid (parT (txtL l3) = (l3, true)) := txtL_hit hgl
        have HM96 := Lib.hid hm96
        generalize txtL l3 = t at *
        clear hgl
        have hm96 := HM96.out
        go_wp2_with fail
        refine (implParseTrace_any _ mx ev _ (cell_below t17 HM.out) (pow10_below HT.out t17) (cell_below t17 HE.out) HEV.out (by omega)).mono ?_
        rintro e w18 ⟨⟨A3, q3, c3, rfl, o3⟩, b18⟩
        have t18 := below_trans t17 b18
        have o1 := o1.below b18
        have o2 := o2.below b18
        replace r3 := r3.below b18
        have o3_b := o3
        have hqb : Own tsV 2 w18 _ _ _ _ _ l3 := (by have h9 := o3; rw [HH.out] at h9; exact h9)
        rw [HH.out]
        replace o3 := hqb
        replace o3_b := hqb
        clear hqb
        go_wp2_with fail
        refine (rTraces_same _ _ _ _ _ _ l3 _ (o3.rd tsV_len) r3).mono ?_
        rintro e w19 ⟨rfl, b19⟩
        have t19 := below_trans t18 b19
        have o1 := o1.below b19
        have o2 := o2.below b19
        have o3 := o3.below b19
        replace r3 := r3.below b19
        go_wp2_with fail
        refine (drawParseTrace_any _ _ _ l _ (ha.below t19) hb).mono ?_
        rintro e w20 ⟨⟨u, rfl, hu⟩, b20⟩
        have t20 := below_trans t19 b20
        have o1 := o1.below b20
        have o2 := o2.below b20
        have o3 := o3.below b20
        replace r3 := r3.below b20
        clear r3
        go_wp2_with fail
        refine (implParseTrace_any u mx ev _ (cell_below t20 HM.out) (pow10_below HT.out t20) (cell_below t20 HE.out) HEV.out (by omega)).mono ?_
        rintro e w21 ⟨⟨A4, q4, c4, rfl, o4⟩, b21⟩
        have t21 := below_trans t20 b21
        have o1 := o1.below b21
        have o2 := o2.below b21
        have o3 := o3.below b21
        have o4_b := o4
        go_wp2_with fail
        refine (specParseTrace_any u _ (by omega)).mono ?_
        rintro e w22 ⟨⟨A5, q5, c5, rfl, o5⟩, b22⟩
        have t22 := below_trans t21 b22
        have o1 := o1.below b22
        have o2 := o2.below b22
        have o3 := o3.below b22
        have o4 := o4.below b22
        have o5_b := o5
        go_wp2_with fail
        refine (rTraces_same _ _ _ _ _ _ _ _ (o4.rd tsV_len) (o5.rd tsV_len)).mono ?_
        rintro e w23 ⟨rfl, b23⟩
        have t23 := below_trans t22 b23
        have o1 := o1.below b23
        have o2 := o2.below b23
        have o3 := o3.below b23
        have o4 := o4.below b23
        have o5 := o5.below b23
        go_wp2
        go_ret
        exact ⟨rfl, t23⟩

set_option maxRecDepth 100000 in
theorem door_met (os : Os) (args : Array Value) : laidMetH Tryz.prog Rows.fnTracesRow.laid ((World.laidAll Tryz.prog os Rows.fnTracesRow.laid).forCall (fun _ _ => 0) ⟨#[], args, []⟩).memory :=
  by rw [MakeChecks.laidMetH_plain _ _ _ (by kernel_rfl)]; exact laidMet_laidAll _ (by kernel_rfl) (by kernel_rfl)

set_option maxRecDepth 100000 in
theorem lifted (os : Os) (started : os.Started) (H : Type) (enc : TypeId × Value → H) :
    ReturnsInHanded {} Tryz.checked os 3 .any (fun w args => (Rows.fnTracesSpec.pre enc Tryz.prog Tryz.f3 [] false w args ∧ laidMetH Tryz.prog Rows.fnTracesRow.laid w) ∧ sizedMet enc Tryz.prog Tryz.f3 (OpenSpec.ofChange Rows.fnTracesSpec) false w args)
      (Rows.fnTracesSpec.post enc Tryz.prog Tryz.f3 false true false false) := by
  refine handed_and_shaped (C := Tryz.checked) (X := fun w _ => laidMetH Tryz.prog Rows.fnTracesRow.laid w) (fun _ _ _ hh h => h.of_heap hh) own started (by kernel_rfl) Tryz.func3
    (ChangeSpec.witness_shaped (enc := enc) (C := Tryz.checked) (os := os) (X := fun w _ => laidMetH Tryz.prog Rows.fnTracesRow.laid w) false (World.laidAll Tryz.prog os Rows.fnTracesRow.laid) #[.slice none 0 0] 8 (World.laidAll_os _ _ _) (World.shaped_of_ZipB (by kernel_rfl) (by kernel_rfl)) (by kernel_rfl) (by kernel_rfl) (by kernel_rfl) (door_met os _)) ?_
  intro W base args ds gs before hval0 hW hL hsh
  have hval : ∀ (j : Nat) t v, Tryz.f3.params[j]? = some t → args[j]? = some v → Value.okWide Tryz.prog W .any base t v := hval0
  have hW' := hW
  obtain ⟨p, q, hA0, hV, rfl, hfz, hnd⟩ := hW
  have hA : DataW.TrodAll enc Tryz.prog W 0 (fun _ => true) true Tryz.f3.params.toList args.toList ds p := hA0
  rw [Tryz.params3] at hA hval
  obtain ⟨v0, vs0, d0, ds0, p0, q0, hargs, rfl, rfl, h0, r0⟩ := trodAll_cons hA
  obtain ⟨rfl, rfl, rfl⟩ := trodAll_nil r0
  obtain rfl : args = #[v0] := by cases args; simp_all
  obtain ⟨rfl, rfl⟩ := trodVars_none hV
  obtain ⟨A0, n0, c0, l0, rfl, R0, G0⟩ := open_rd (ec := byV) Tryz.underlying22 (by kernel_rfl) (read_bytes) (by omega) byV_len (hval 0 22 v0 rfl rfl) h0
  obtain ⟨mx, hM⟩ := Tryz.laysM143.s1_3 W (show W.ShapedOpen Tryz.prog from hsh)
  have hT := pow10_of (by kernel_rfl) hL (List.Mem.tail _ (List.Mem.tail _ (List.Mem.head _)))
  obtain ⟨ev, hE, hev⟩ := errSyntax_of (by kernel_rfl) hL (List.Mem.tail _ (List.Mem.tail _ (List.Mem.tail _ (List.Mem.tail _ (List.Mem.tail _ (List.Mem.head _))))))
  refine (walk A0 n0 c0 l0 mx W hT ev hE hev R0 G0 hM).mono fun e W' ⟨he, hb⟩ => ?_
  subst he
  exact ⟨_, rfl, law_post laidOut (by kernel_rfl) (by kernel_rfl) Tryz.underlying4 rfl hW' rfl rfl rfl hb⟩

theorem over : Rows.fnTracesRow.holds Tryz.pinned (OpenSpec.ofChange Rows.fnTracesSpec) :=
  OpenClaim.holds_of_wide 3 Tryz.f3 rfl rfl rfl rfl rfl rfl rfl ⟨rfl, rfl, rfl, rfl, rfl⟩ rfl rfl rfl rfl rfl (by kernel_rfl) Tryz.func3 (by kernel_rfl)
    (of_decide_eq_true (by kernel_rfl)) (by unfold Func.isWrapper; rw [if_neg (of_decide_eq_false (by kernel_rfl))]; exact ⟨rfl, rfl⟩)
    (fun os started H enc _ => lifted os started H enc)

theorem proved : Rows.FnTracesCardSaid :=
  Claim7.holds_tied_plain_at .later [] [.data, .data, .data, .data, .sentinel, .sentinel, .pinned] true (true, "a875e76fcfb608411485d06d134455bb348e6ef28f328c45a55500f68ccdbea0") true
    over (fun _ h => by cases h) (by kernel_rfl) (fun _ h => by cases h) fnTraces_row_tie rfl ⟨rfl, rfl⟩ (by kernel_rfl) rfl
    (fun f fn hf hfn => by
      obtain rfl : f = 3 := Option.some.inj ((show Tryz.prog.funcNamed "loop.example/g00909/laws.FnTraces" = some 3 by kernel_rfl).symm.trans hf) |>.symm
      obtain rfl : fn = Tryz.f3 := (Option.some.inj (Tryz.func3.symm.trans hfn)).symm
      exact ⟨by kernel_rfl, fun j t ht => by
        have hall : (Tryz.f3.params.toList.all fun u => !Tryz.prog.wantsStandIn u) = true := by kernel_rfl
        have hm : t ∈ Tryz.f3.params.toList := Array.mem_toList_iff.2 (Array.mem_of_getElem? ht)
        exact (show Tryz.prog.wantsStandIn t = false by simpa using List.all_eq_true.1 hall t hm)⟩)
    (by kernel_rfl)
#print axioms proved
end Go.Proofs.YtmmogpbbehgkiaaGreatDoor.fnTraces
