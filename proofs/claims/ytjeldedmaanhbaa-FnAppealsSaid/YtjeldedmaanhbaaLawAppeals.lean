/- FnAppeals: for every code of at most 65536 bytes: DecideAppeal, ReversedPoints, OutcomeOf and VotesToReverse answer as the reference at what is drawn; a ruling is reversed exactly if more votes are against it, and with the votes that are told it would be. No condition.
-/
import Derived.Test.YtjeldedmaanhbaaRead
import Derived.Test.YtjeldedmaanhbaaByt
import Derived.Test.YtjeldedmaanhbaaRulG
import Derived.Test.YtjeldedmaanhbaaRulM
import Derived.Test.YtjeldedmaanhbaaVee
namespace Go.Proofs.Ytjeldedmaanhbaa.fnAppeals
open Go Go.ChangeShapes Go.WideShapes Go.ChangeAt Go.RowKit Go.Sort
open Go.ChangeMaps (open_string)
set_option linter.unusedVariables false

theorem own : ownKnob Try.prog.godebug = none := by kernel_rfl
theorem laidOut : laidOutB Try.prog = true := by kernel_rfl

set_option maxRecDepth 100000 in
set_option maxHeartbeats 8000000 in
theorem walk (A : Option Addr) (n c : Nat) (l : List Int) (w : World) (ha : Rd byV 1 w A n c l) (hb : ∀ x ∈ l, 0 ≤ x ∧ x ≤ 255) :
    Calls Try.prog 6 #[.slice A n c] w fun e w' => e = .returned (.bool true) ∧ Below w.heap.size w w' := by
  have hm := ha.le
  go_enter Try.func6, Try.ntmps6
  go_wp2_with fail
  refine (vBig_any _ _ _ _ hm).mono ?_
  rintro e wx ⟨rfl, rfl⟩
  by_cases hbig : (65536 : Int) < (n : Int)
  · go_wp2
    go_ret
    exact ⟨rfl, Below.refl _ _⟩
  go_wp2_with fail
  refine (drawDecide_any _ _ _ l _ ha hb).mono ?_
  rintro e w1 ⟨⟨A1, q1, c1, lp, y, m, a, rfl, hq1, o1⟩, b1⟩
  have t1 := b1
  have o1_b := o1
  have b2 := below_alloc (w := w1) (.cells #[.int .i64 y, .int .i64 m, .int .i64 a] 43)
  have v0 : (w1.alloc (.cells #[.int .i64 y, .int .i64 m, .int .i64 a] 43)).cell? ⟨w1.heap.size, 0, none⟩ = some (.int .i64 y) := cell_of_row _ _ 0 _ _ _ (heap_new rfl)
  have v1 : (w1.alloc (.cells #[.int .i64 y, .int .i64 m, .int .i64 a] 43)).cell? ⟨w1.heap.size, 1, none⟩ = some (.int .i64 m) := cell_of_row _ _ 1 _ _ _ (heap_new rfl)
  have v2 : (w1.alloc (.cells #[.int .i64 y, .int .i64 m, .int .i64 a] 43)).cell? ⟨w1.heap.size, 2, none⟩ = some (.int .i64 a) := cell_of_row _ _ 2 _ _ _ (heap_new rfl)
  have t2 := below_trans t1 b2
  have o1 := o1.below b2
  go_wp2_with fail
  generalize hgw2 : w1.alloc (.cells #[.int .i64 y, .int .i64 m, .int .i64 a] 43) = w2 at *
  clear hgw2
  refine (implDecide_any _ _ _ lp y m a _ (o1.rd ptV_len)).mono ?_
  rintro e w3 ⟨⟨A2, q2, c2, rfl, o2⟩, b3⟩
  have t3 := below_trans t2 b3
  have o1 := o1.below b3
  replace v0 := cell_below b3 v0
  replace v1 := cell_below b3 v1
  replace v2 := cell_below b3 v2
  have o2_b := o2
  go_wp2_with fail
  refine (specDecide_any _ _ _ lp y m a _ (o1.rd ptV_len)).mono ?_
  rintro e w4 ⟨⟨A3, q3, c3, rfl, o3⟩, b4⟩
  have t4 := below_trans t3 b4
  have o1 := o1.below b4
  have o2 := o2.below b4
  replace v0 := cell_below b4 v0
  replace v1 := cell_below b4 v1
  replace v2 := cell_below b4 v2
  have o3_b := o3
  go_wp2_with fail
  refine (vPoints_same _ _ _ _ _ _ _ _ (o2.rd ptV_len) (o3.rd ptV_len)).mono ?_
  rintro e w5 ⟨rfl, b5⟩
  have t5 := below_trans t4 b5
  have o1 := o1.below b5
  have o2 := o2.below b5
  have o3 := o3.below b5
  replace v0 := cell_below b5 v0
  replace v1 := cell_below b5 v1
  replace v2 := cell_below b5 v2
  cases hok : decG lp y m a
  · clear hok
    go_wp2_with fail
    refine (drawVotes_any _ _ _ l _ (ha.below t5) hb).mono ?_
    rintro e w6 ⟨⟨y2, m2, a2, rfl⟩, b6⟩
    have t6 := below_trans t5 b6
    have o1 := o1.below b6
    have o2 := o2.below b6
    have o3 := o3.below b6
    replace v0 := cell_below b6 v0
    replace v1 := cell_below b6 v1
    replace v2 := cell_below b6 v2
    have b7 := below_alloc (w := w6) (.cells #[.int .i64 y2, .int .i64 m2, .int .i64 a2] 43)
    have u0 : (w6.alloc (.cells #[.int .i64 y2, .int .i64 m2, .int .i64 a2] 43)).cell? ⟨w6.heap.size, 0, none⟩ = some (.int .i64 y2) := cell_of_row _ _ 0 _ _ _ (heap_new rfl)
    have u1 : (w6.alloc (.cells #[.int .i64 y2, .int .i64 m2, .int .i64 a2] 43)).cell? ⟨w6.heap.size, 1, none⟩ = some (.int .i64 m2) := cell_of_row _ _ 1 _ _ _ (heap_new rfl)
    have u2 : (w6.alloc (.cells #[.int .i64 y2, .int .i64 m2, .int .i64 a2] 43)).cell? ⟨w6.heap.size, 2, none⟩ = some (.int .i64 a2) := cell_of_row _ _ 2 _ _ _ (heap_new rfl)
    have t7 := below_trans t6 b7
    have o1 := o1.below b7
    have o2 := o2.below b7
    have o3 := o3.below b7
    replace v0 := cell_below b7 v0
    replace v1 := cell_below b7 v1
    replace v2 := cell_below b7 v2
    go_wp2_with fail
    generalize hgw7 : w6.alloc (.cells #[.int .i64 y2, .int .i64 m2, .int .i64 a2] 43) = w7 at *
    clear hgw7
    refine (implVotes_any y2 m2 a2 _).mono ?_
    rintro e w8 ⟨rfl, b8⟩
    have t8 := below_trans t7 b8
    have o1 := o1.below b8
    have o2 := o2.below b8
    have o3 := o3.below b8
    replace v0 := cell_below b8 v0
    replace v1 := cell_below b8 v1
    replace v2 := cell_below b8 v2
    replace u0 := cell_below b8 u0
    replace u1 := cell_below b8 u1
    replace u2 := cell_below b8 u2
    go_wp2_with fail
    refine (specVotes_any y2 m2 a2 _).mono ?_
    rintro e w9 ⟨rfl, b9⟩
    have t9 := below_trans t8 b9
    have o1 := o1.below b9
    have o2 := o2.below b9
    have o3 := o3.below b9
    replace v0 := cell_below b9 v0
    replace v1 := cell_below b9 v1
    replace v2 := cell_below b9 v2
    replace u0 := cell_below b9 u0
    replace u1 := cell_below b9 u1
    replace u2 := cell_below b9 u2
    cases hvt : votG y2 m2 a2
    · clear hvt
      go_wp2_with fail
      refine (drawReversed_any _ _ _ l _ (ha.below t9) hb).mono ?_
      rintro e w10 ⟨⟨A4, q4, c4, lz, rfl, hqz, o4⟩, b10⟩
      have t10 := below_trans t9 b10
      have o1 := o1.below b10
      have o2 := o2.below b10
      have o3 := o3.below b10
      replace v0 := cell_below b10 v0
      replace v1 := cell_below b10 v1
      replace v2 := cell_below b10 v2
      replace u0 := cell_below b10 u0
      replace u1 := cell_below b10 u1
      replace u2 := cell_below b10 u2
      have o4_b := o4
      go_wp2_with fail
      refine (implReversed_any _ _ _ lz _ (o4.rd ptV_len)).mono ?_
      rintro e w11 ⟨⟨A5, q5, c5, rfl, o5⟩, b11⟩
      have t11 := below_trans t10 b11
      have o1 := o1.below b11
      have o2 := o2.below b11
      have o3 := o3.below b11
      have o4 := o4.below b11
      replace v0 := cell_below b11 v0
      replace v1 := cell_below b11 v1
      replace v2 := cell_below b11 v2
      replace u0 := cell_below b11 u0
      replace u1 := cell_below b11 u1
      replace u2 := cell_below b11 u2
      have o5_b := o5
      go_wp2_with fail
      refine (specReversed_any _ _ _ lz _ (o4.rd ptV_len)).mono ?_
      rintro e w12 ⟨⟨A6, q6, c6, rfl, o6⟩, b12⟩
      have t12 := below_trans t11 b12
      have o1 := o1.below b12
      have o2 := o2.below b12
      have o3 := o3.below b12
      have o4 := o4.below b12
      have o5 := o5.below b12
      replace v0 := cell_below b12 v0
      replace v1 := cell_below b12 v1
      replace v2 := cell_below b12 v2
      replace u0 := cell_below b12 u0
      replace u1 := cell_below b12 u1
      replace u2 := cell_below b12 u2
      have o6_b := o6
      go_wp2_with fail
      refine (vInts_same _ _ _ _ _ _ _ _ (o5.rd inV_len) (o6.rd inV_len)).mono ?_
      rintro e w13 ⟨rfl, b13⟩
      have t13 := below_trans t12 b13
      have o1 := o1.below b13
      have o2 := o2.below b13
      have o3 := o3.below b13
      have o4 := o4.below b13
      have o5 := o5.below b13
      have o6 := o6.below b13
      replace v0 := cell_below b13 v0
      replace v1 := cell_below b13 v1
      replace v2 := cell_below b13 v2
      replace u0 := cell_below b13 u0
      replace u1 := cell_below b13 u1
      replace u2 := cell_below b13 u2
      go_wp2_with fail
      refine (drawOutcome_any _ _ _ l _ (ha.below t13) hb).mono ?_
      rintro e w14 ⟨⟨A7, q7, c7, io, lo, rfl, hqo, o7⟩, b14⟩
      have t14 := below_trans t13 b14
      have o1 := o1.below b14
      have o2 := o2.below b14
      have o3 := o3.below b14
      have o4 := o4.below b14
      have o5 := o5.below b14
      have o6 := o6.below b14
      replace v0 := cell_below b14 v0
      replace v1 := cell_below b14 v1
      replace v2 := cell_below b14 v2
      replace u0 := cell_below b14 u0
      replace u1 := cell_below b14 u1
      replace u2 := cell_below b14 u2
      have o7_b := o7
      go_wp2_with fail
      refine (implOutcome_any _ _ _ lo io _ (o7.rd ptV_len)).mono ?_
      rintro e w15 ⟨rfl, b15⟩
      have t15 := below_trans t14 b15
      have o1 := o1.below b15
      have o2 := o2.below b15
      have o3 := o3.below b15
      have o4 := o4.below b15
      have o5 := o5.below b15
      have o6 := o6.below b15
      have o7 := o7.below b15
      replace v0 := cell_below b15 v0
      replace v1 := cell_below b15 v1
      replace v2 := cell_below b15 v2
      replace u0 := cell_below b15 u0
      replace u1 := cell_below b15 u1
      replace u2 := cell_below b15 u2
      go_wp2_with fail
      refine (specOutcome_any _ _ _ lo io _ (o7.rd ptV_len)).mono ?_
      rintro e w16 ⟨rfl, b16⟩
      have t16 := below_trans t15 b16
      have o1 := o1.below b16
      have o2 := o2.below b16
      have o3 := o3.below b16
      have o4 := o4.below b16
      have o5 := o5.below b16
      have o6 := o6.below b16
      have o7 := o7.below b16
      replace v0 := cell_below b16 v0
      replace v1 := cell_below b16 v1
      replace v2 := cell_below b16 v2
      replace u0 := cell_below b16 u0
      replace u1 := cell_below b16 u1
      replace u2 := cell_below b16 u2
      go_wp2
      go_ret
      exact ⟨rfl, t16⟩
    · have HV := Lib.hid (votV_yes hvt)
      have HT := Lib.hid (show talB y2 m2 a2 = true by unfold votG at hvt; rw [Bool.and_eq_true] at hvt; exact hvt.1)
      obtain ⟨⟨ht0, ht1⟩, ⟨ht2, ht3⟩, -⟩ := talT HT.out
      clear hvt
      rw [HV.out]
      by_cases hcmp : y2 < m2
      · rw [if_pos hcmp]
        have hz2 : ¬ (m2 + 0 ≤ y2 - 0) := by omega
        go_wp2_with fail
        refine (drawReversed_any _ _ _ l _ (ha.below t9) hb).mono ?_
        rintro e w10 ⟨⟨A4, q4, c4, lz, rfl, hqz, o4⟩, b10⟩
        have t10 := below_trans t9 b10
        have o1 := o1.below b10
        have o2 := o2.below b10
        have o3 := o3.below b10
        replace v0 := cell_below b10 v0
        replace v1 := cell_below b10 v1
        replace v2 := cell_below b10 v2
        replace u0 := cell_below b10 u0
        replace u1 := cell_below b10 u1
        replace u2 := cell_below b10 u2
        have o4_b := o4
        go_wp2_with fail
        refine (implReversed_any _ _ _ lz _ (o4.rd ptV_len)).mono ?_
        rintro e w11 ⟨⟨A5, q5, c5, rfl, o5⟩, b11⟩
        have t11 := below_trans t10 b11
        have o1 := o1.below b11
        have o2 := o2.below b11
        have o3 := o3.below b11
        have o4 := o4.below b11
        replace v0 := cell_below b11 v0
        replace v1 := cell_below b11 v1
        replace v2 := cell_below b11 v2
        replace u0 := cell_below b11 u0
        replace u1 := cell_below b11 u1
        replace u2 := cell_below b11 u2
        have o5_b := o5
        go_wp2_with fail
        refine (specReversed_any _ _ _ lz _ (o4.rd ptV_len)).mono ?_
        rintro e w12 ⟨⟨A6, q6, c6, rfl, o6⟩, b12⟩
        have t12 := below_trans t11 b12
        have o1 := o1.below b12
        have o2 := o2.below b12
        have o3 := o3.below b12
        have o4 := o4.below b12
        have o5 := o5.below b12
        replace v0 := cell_below b12 v0
        replace v1 := cell_below b12 v1
        replace v2 := cell_below b12 v2
        replace u0 := cell_below b12 u0
        replace u1 := cell_below b12 u1
        replace u2 := cell_below b12 u2
        have o6_b := o6
        go_wp2_with fail
        refine (vInts_same _ _ _ _ _ _ _ _ (o5.rd inV_len) (o6.rd inV_len)).mono ?_
        rintro e w13 ⟨rfl, b13⟩
        have t13 := below_trans t12 b13
        have o1 := o1.below b13
        have o2 := o2.below b13
        have o3 := o3.below b13
        have o4 := o4.below b13
        have o5 := o5.below b13
        have o6 := o6.below b13
        replace v0 := cell_below b13 v0
        replace v1 := cell_below b13 v1
        replace v2 := cell_below b13 v2
        replace u0 := cell_below b13 u0
        replace u1 := cell_below b13 u1
        replace u2 := cell_below b13 u2
        go_wp2_with fail
        refine (drawOutcome_any _ _ _ l _ (ha.below t13) hb).mono ?_
        rintro e w14 ⟨⟨A7, q7, c7, io, lo, rfl, hqo, o7⟩, b14⟩
        have t14 := below_trans t13 b14
        have o1 := o1.below b14
        have o2 := o2.below b14
        have o3 := o3.below b14
        have o4 := o4.below b14
        have o5 := o5.below b14
        have o6 := o6.below b14
        replace v0 := cell_below b14 v0
        replace v1 := cell_below b14 v1
        replace v2 := cell_below b14 v2
        replace u0 := cell_below b14 u0
        replace u1 := cell_below b14 u1
        replace u2 := cell_below b14 u2
        have o7_b := o7
        go_wp2_with fail
        refine (implOutcome_any _ _ _ lo io _ (o7.rd ptV_len)).mono ?_
        rintro e w15 ⟨rfl, b15⟩
        have t15 := below_trans t14 b15
        have o1 := o1.below b15
        have o2 := o2.below b15
        have o3 := o3.below b15
        have o4 := o4.below b15
        have o5 := o5.below b15
        have o6 := o6.below b15
        have o7 := o7.below b15
        replace v0 := cell_below b15 v0
        replace v1 := cell_below b15 v1
        replace v2 := cell_below b15 v2
        replace u0 := cell_below b15 u0
        replace u1 := cell_below b15 u1
        replace u2 := cell_below b15 u2
        go_wp2_with fail
        refine (specOutcome_any _ _ _ lo io _ (o7.rd ptV_len)).mono ?_
        rintro e w16 ⟨rfl, b16⟩
        have t16 := below_trans t15 b16
        have o1 := o1.below b16
        have o2 := o2.below b16
        have o3 := o3.below b16
        have o4 := o4.below b16
        have o5 := o5.below b16
        have o6 := o6.below b16
        have o7 := o7.below b16
        replace v0 := cell_below b16 v0
        replace v1 := cell_below b16 v1
        replace v2 := cell_below b16 v2
        replace u0 := cell_below b16 u0
        replace u1 := cell_below b16 u1
        replace u2 := cell_below b16 u2
        go_wp2
        go_ret
        exact ⟨rfl, t16⟩
      rw [if_neg hcmp]
      have hz0 : 0 ≤ (y2 - m2) / 2 := by omega
      have hz1 : (y2 - m2) / 2 ≤ 1000 := by omega
      generalize hz : (y2 - m2) / 2 = z at *
      have HZ := Lib.hid hz
      have hz2 : ¬ (m2 + (z + 1) ≤ y2 - (z + 1)) := by have := HZ.out; omega
      have hz3 : ¬ (y2 - (z + 1) + 1 < m2 + (z + 1) - 1) := by have := HZ.out; omega
      have hz4 : (0 : Int) < z + 1 := by omega
      clear hz
      go_wp2_with fail
      refine (drawReversed_any _ _ _ l _ (ha.below t9) hb).mono ?_
      rintro e w10 ⟨⟨A4, q4, c4, lz, rfl, hqz, o4⟩, b10⟩
      have t10 := below_trans t9 b10
      have o1 := o1.below b10
      have o2 := o2.below b10
      have o3 := o3.below b10
      replace v0 := cell_below b10 v0
      replace v1 := cell_below b10 v1
      replace v2 := cell_below b10 v2
      replace u0 := cell_below b10 u0
      replace u1 := cell_below b10 u1
      replace u2 := cell_below b10 u2
      have o4_b := o4
      go_wp2_with fail
      refine (implReversed_any _ _ _ lz _ (o4.rd ptV_len)).mono ?_
      rintro e w11 ⟨⟨A5, q5, c5, rfl, o5⟩, b11⟩
      have t11 := below_trans t10 b11
      have o1 := o1.below b11
      have o2 := o2.below b11
      have o3 := o3.below b11
      have o4 := o4.below b11
      replace v0 := cell_below b11 v0
      replace v1 := cell_below b11 v1
      replace v2 := cell_below b11 v2
      replace u0 := cell_below b11 u0
      replace u1 := cell_below b11 u1
      replace u2 := cell_below b11 u2
      have o5_b := o5
      go_wp2_with fail
      refine (specReversed_any _ _ _ lz _ (o4.rd ptV_len)).mono ?_
      rintro e w12 ⟨⟨A6, q6, c6, rfl, o6⟩, b12⟩
      have t12 := below_trans t11 b12
      have o1 := o1.below b12
      have o2 := o2.below b12
      have o3 := o3.below b12
      have o4 := o4.below b12
      have o5 := o5.below b12
      replace v0 := cell_below b12 v0
      replace v1 := cell_below b12 v1
      replace v2 := cell_below b12 v2
      replace u0 := cell_below b12 u0
      replace u1 := cell_below b12 u1
      replace u2 := cell_below b12 u2
      have o6_b := o6
      go_wp2_with fail
      refine (vInts_same _ _ _ _ _ _ _ _ (o5.rd inV_len) (o6.rd inV_len)).mono ?_
      rintro e w13 ⟨rfl, b13⟩
      have t13 := below_trans t12 b13
      have o1 := o1.below b13
      have o2 := o2.below b13
      have o3 := o3.below b13
      have o4 := o4.below b13
      have o5 := o5.below b13
      have o6 := o6.below b13
      replace v0 := cell_below b13 v0
      replace v1 := cell_below b13 v1
      replace v2 := cell_below b13 v2
      replace u0 := cell_below b13 u0
      replace u1 := cell_below b13 u1
      replace u2 := cell_below b13 u2
      go_wp2_with fail
      refine (drawOutcome_any _ _ _ l _ (ha.below t13) hb).mono ?_
      rintro e w14 ⟨⟨A7, q7, c7, io, lo, rfl, hqo, o7⟩, b14⟩
      have t14 := below_trans t13 b14
      have o1 := o1.below b14
      have o2 := o2.below b14
      have o3 := o3.below b14
      have o4 := o4.below b14
      have o5 := o5.below b14
      have o6 := o6.below b14
      replace v0 := cell_below b14 v0
      replace v1 := cell_below b14 v1
      replace v2 := cell_below b14 v2
      replace u0 := cell_below b14 u0
      replace u1 := cell_below b14 u1
      replace u2 := cell_below b14 u2
      have o7_b := o7
      go_wp2_with fail
      refine (implOutcome_any _ _ _ lo io _ (o7.rd ptV_len)).mono ?_
      rintro e w15 ⟨rfl, b15⟩
      have t15 := below_trans t14 b15
      have o1 := o1.below b15
      have o2 := o2.below b15
      have o3 := o3.below b15
      have o4 := o4.below b15
      have o5 := o5.below b15
      have o6 := o6.below b15
      have o7 := o7.below b15
      replace v0 := cell_below b15 v0
      replace v1 := cell_below b15 v1
      replace v2 := cell_below b15 v2
      replace u0 := cell_below b15 u0
      replace u1 := cell_below b15 u1
      replace u2 := cell_below b15 u2
      go_wp2_with fail
      refine (specOutcome_any _ _ _ lo io _ (o7.rd ptV_len)).mono ?_
      rintro e w16 ⟨rfl, b16⟩
      have t16 := below_trans t15 b16
      have o1 := o1.below b16
      have o2 := o2.below b16
      have o3 := o3.below b16
      have o4 := o4.below b16
      have o5 := o5.below b16
      have o6 := o6.below b16
      have o7 := o7.below b16
      replace v0 := cell_below b16 v0
      replace v1 := cell_below b16 v1
      replace v2 := cell_below b16 v2
      replace u0 := cell_below b16 u0
      replace u1 := cell_below b16 u1
      replace u2 := cell_below b16 u2
      go_wp2
      go_ret
      exact ⟨rfl, t16⟩
  · have hql : q2 = q1 := by rw [← o2.len, ← o1.len, decL_yes hok, withL_len]
    have hq0 : 0 < q1 := by rw [← o1.len]; unfold decG at hok; rw [Bool.and_eq_true] at hok; exact (lastB_yes hok.1).2.1
    have DC := Lib.hid (dec_of (i := ((q2 : Int) - 1)) hok (by rw [o1.len, hql]))
    clear hok
    have hqb0 : 0 < q2 := by omega
    have hqb1 : q2 ≤ 41 := by omega
    obtain rfl : q1 = q2 := hql.symm
    go_wp2_with fail
    refine (implReversed_any _ _ _ (decL lp y m a) _ (o2.rd ptV_len)).mono ?_
    rintro e w6 ⟨⟨A4, q4, c4, rfl, o4⟩, b6⟩
    have t6 := below_trans t5 b6
    have o1 := o1.below b6
    have o2 := o2.below b6
    have o3 := o3.below b6
    replace v0 := cell_below b6 v0
    replace v1 := cell_below b6 v1
    replace v2 := cell_below b6 v2
    have o4_b := o4
    rw [DC.out.a1]
    go_wp2_with fail
    refine (implOutcome_any _ _ _ (decL lp y m a) ((q1 : Int) - 1) _ (o2.rd ptV_len)).mono ?_
    rintro e w7 ⟨rfl, b7⟩
    have t7 := below_trans t6 b7
    have o1 := o1.below b7
    have o2 := o2.below b7
    have o3 := o3.below b7
    have o4 := o4.below b7
    replace v0 := cell_below b7 v0
    replace v1 := cell_below b7 v1
    replace v2 := cell_below b7 v2
    rw [DC.out.c1, DC.out.c2]
    have hsub : (((q1 : Int) - 1)) = ((q1 - 1 : Nat) : Int) := by omega
    obtain ⟨bq, oq, pq, hAe, hpq, e0, e1, e2, e3, e4, e5, e6⟩ := (o1.rd ptV_len).pt (i := q1 - 1) (by omega)
    have HPQ : Hid (ptAt lp ((q1 : Int) - 1) = pq) := by show _ = _; rw [hsub]; simp [ptAt, List.getD, hpq]
    rw [HPQ.out]
    have k2 := cell_regrown e2
    have kv0 := cell_regrown v0
    have kv1 := cell_regrown v1
    have hlo : (0 : Int) ≤ ((q1 : Int) - 1) := by omega
    have hhi : ((q1 : Int) - 1) < (q1 : Int) := by omega
    have CA : Hid (∀ (dq : Nat) (os : Array Obj), Calls Try.prog 21 #[.slice A2 q1 c2] (grow (redrawn w7 dq) os) fun e w' => e = .returned (.bool true) ∧ Below (grow (redrawn w7 dq) os).heap.size (grow (redrawn w7 dq) os) w') := fun dq os =>
      (ArePoints_any _ _ _ _ _ ((o2.below (below_regrown w7 dq os)).rd ptV_len)).mono fun e w' h => ⟨by rw [h.1, DC.out.a1], h.2⟩
    have CH : ∀ b : Bool, decide (y < m) = b → Hid (∀ (dq : Nat) (os : Array Obj), Calls Try.prog 33 #[.slice A4 q4 c4, .int .i64 ((q1 : Int) - 1)] (grow (redrawn w7 dq) os) fun e w' => e = .returned (.bool b) ∧ Below (grow (redrawn w7 dq) os).heap.size (grow (redrawn w7 dq) os) w') := fun b hbb dq os =>
      (vHas_any _ _ _ _ _ _ ((o4.below (below_regrown w7 dq os)).rd inV_len)).mono fun e w' h => ⟨by rw [h.1, DC.out.b1, hbb], by rw [← h.2]; exact Below.refl _ _⟩
    subst hAe
    clear hpq hsub e0 e1 e3 e4 e5 e6
    cases hyn : decide (y < m)
    · have CHB := CH false hyn
      clear CH
      have hym : ¬ y < m := by simpa using hyn
      cases htk : pq.ta
      · rw [htk] at k2
        clear htk
        go_wp2_with fail
        refine wp_region_quiet_below (by kernel_rfl) (by kernel_rfl) ?_
        repeat (go_big_quiet_step ((first | (go_at_call 33; exact Calls.regrown_of (CHB.out _ _)) | (go_at_call 21; exact Calls.regrown_of (CA.out _ _)))))
        refine wpQuiet_nil ?_
        intro _ hw'
        obtain ⟨⟨dq, osq⟩, hw''⟩ := hw'
        subst hw''
        have bX := below_regrown w7 dq osq
        clear CHB CA k2 kv0 kv1 hlo hhi DC hyn hym
        go_wp2_with fail
        generalize hgx : grow (redrawn w7 dq) osq = w8 at *
        clear hgx
        have t8 := below_trans t7 bX
        have o1 := o1.below bX
        have o2 := o2.below bX
        have o3 := o3.below bX
        have o4 := o4.below bX
        replace v0 := cell_below bX v0
        replace v1 := cell_below bX v1
        replace v2 := cell_below bX v2
        refine (drawVotes_any _ _ _ l _ (ha.below t8) hb).mono ?_
        rintro e w9 ⟨⟨y2, m2, a2, rfl⟩, b9⟩
        have t9 := below_trans t8 b9
        have o1 := o1.below b9
        have o2 := o2.below b9
        have o3 := o3.below b9
        have o4 := o4.below b9
        replace v0 := cell_below b9 v0
        replace v1 := cell_below b9 v1
        replace v2 := cell_below b9 v2
        have b10 := below_alloc (w := w9) (.cells #[.int .i64 y2, .int .i64 m2, .int .i64 a2] 43)
        have u0 : (w9.alloc (.cells #[.int .i64 y2, .int .i64 m2, .int .i64 a2] 43)).cell? ⟨w9.heap.size, 0, none⟩ = some (.int .i64 y2) := cell_of_row _ _ 0 _ _ _ (heap_new rfl)
        have u1 : (w9.alloc (.cells #[.int .i64 y2, .int .i64 m2, .int .i64 a2] 43)).cell? ⟨w9.heap.size, 1, none⟩ = some (.int .i64 m2) := cell_of_row _ _ 1 _ _ _ (heap_new rfl)
        have u2 : (w9.alloc (.cells #[.int .i64 y2, .int .i64 m2, .int .i64 a2] 43)).cell? ⟨w9.heap.size, 2, none⟩ = some (.int .i64 a2) := cell_of_row _ _ 2 _ _ _ (heap_new rfl)
        have t10 := below_trans t9 b10
        have o1 := o1.below b10
        have o2 := o2.below b10
        have o3 := o3.below b10
        have o4 := o4.below b10
        replace v0 := cell_below b10 v0
        replace v1 := cell_below b10 v1
        replace v2 := cell_below b10 v2
        go_wp2_with fail
        generalize hgw10 : w9.alloc (.cells #[.int .i64 y2, .int .i64 m2, .int .i64 a2] 43) = w10 at *
        clear hgw10
        refine (implVotes_any y2 m2 a2 _).mono ?_
        rintro e w11 ⟨rfl, b11⟩
        have t11 := below_trans t10 b11
        have o1 := o1.below b11
        have o2 := o2.below b11
        have o3 := o3.below b11
        have o4 := o4.below b11
        replace v0 := cell_below b11 v0
        replace v1 := cell_below b11 v1
        replace v2 := cell_below b11 v2
        replace u0 := cell_below b11 u0
        replace u1 := cell_below b11 u1
        replace u2 := cell_below b11 u2
        go_wp2_with fail
        refine (specVotes_any y2 m2 a2 _).mono ?_
        rintro e w12 ⟨rfl, b12⟩
        have t12 := below_trans t11 b12
        have o1 := o1.below b12
        have o2 := o2.below b12
        have o3 := o3.below b12
        have o4 := o4.below b12
        replace v0 := cell_below b12 v0
        replace v1 := cell_below b12 v1
        replace v2 := cell_below b12 v2
        replace u0 := cell_below b12 u0
        replace u1 := cell_below b12 u1
        replace u2 := cell_below b12 u2
        cases hvt : votG y2 m2 a2
        · clear hvt
          go_wp2_with fail
          refine (drawReversed_any _ _ _ l _ (ha.below t12) hb).mono ?_
          rintro e w13 ⟨⟨A5, q5, c5, lz, rfl, hqz, o5⟩, b13⟩
          have t13 := below_trans t12 b13
          have o1 := o1.below b13
          have o2 := o2.below b13
          have o3 := o3.below b13
          have o4 := o4.below b13
          replace v0 := cell_below b13 v0
          replace v1 := cell_below b13 v1
          replace v2 := cell_below b13 v2
          replace u0 := cell_below b13 u0
          replace u1 := cell_below b13 u1
          replace u2 := cell_below b13 u2
          have o5_b := o5
          go_wp2_with fail
          refine (implReversed_any _ _ _ lz _ (o5.rd ptV_len)).mono ?_
          rintro e w14 ⟨⟨A6, q6, c6, rfl, o6⟩, b14⟩
          have t14 := below_trans t13 b14
          have o1 := o1.below b14
          have o2 := o2.below b14
          have o3 := o3.below b14
          have o4 := o4.below b14
          have o5 := o5.below b14
          replace v0 := cell_below b14 v0
          replace v1 := cell_below b14 v1
          replace v2 := cell_below b14 v2
          replace u0 := cell_below b14 u0
          replace u1 := cell_below b14 u1
          replace u2 := cell_below b14 u2
          have o6_b := o6
          go_wp2_with fail
          refine (specReversed_any _ _ _ lz _ (o5.rd ptV_len)).mono ?_
          rintro e w15 ⟨⟨A7, q7, c7, rfl, o7⟩, b15⟩
          have t15 := below_trans t14 b15
          have o1 := o1.below b15
          have o2 := o2.below b15
          have o3 := o3.below b15
          have o4 := o4.below b15
          have o5 := o5.below b15
          have o6 := o6.below b15
          replace v0 := cell_below b15 v0
          replace v1 := cell_below b15 v1
          replace v2 := cell_below b15 v2
          replace u0 := cell_below b15 u0
          replace u1 := cell_below b15 u1
          replace u2 := cell_below b15 u2
          have o7_b := o7
          go_wp2_with fail
          refine (vInts_same _ _ _ _ _ _ _ _ (o6.rd inV_len) (o7.rd inV_len)).mono ?_
          rintro e w16 ⟨rfl, b16⟩
          have t16 := below_trans t15 b16
          have o1 := o1.below b16
          have o2 := o2.below b16
          have o3 := o3.below b16
          have o4 := o4.below b16
          have o5 := o5.below b16
          have o6 := o6.below b16
          have o7 := o7.below b16
          replace v0 := cell_below b16 v0
          replace v1 := cell_below b16 v1
          replace v2 := cell_below b16 v2
          replace u0 := cell_below b16 u0
          replace u1 := cell_below b16 u1
          replace u2 := cell_below b16 u2
          go_wp2_with fail
          refine (drawOutcome_any _ _ _ l _ (ha.below t16) hb).mono ?_
          rintro e w17 ⟨⟨A8, q8, c8, io, lo, rfl, hqo, o8⟩, b17⟩
          have t17 := below_trans t16 b17
          have o1 := o1.below b17
          have o2 := o2.below b17
          have o3 := o3.below b17
          have o4 := o4.below b17
          have o5 := o5.below b17
          have o6 := o6.below b17
          have o7 := o7.below b17
          replace v0 := cell_below b17 v0
          replace v1 := cell_below b17 v1
          replace v2 := cell_below b17 v2
          replace u0 := cell_below b17 u0
          replace u1 := cell_below b17 u1
          replace u2 := cell_below b17 u2
          have o8_b := o8
          go_wp2_with fail
          refine (implOutcome_any _ _ _ lo io _ (o8.rd ptV_len)).mono ?_
          rintro e w18 ⟨rfl, b18⟩
          have t18 := below_trans t17 b18
          have o1 := o1.below b18
          have o2 := o2.below b18
          have o3 := o3.below b18
          have o4 := o4.below b18
          have o5 := o5.below b18
          have o6 := o6.below b18
          have o7 := o7.below b18
          have o8 := o8.below b18
          replace v0 := cell_below b18 v0
          replace v1 := cell_below b18 v1
          replace v2 := cell_below b18 v2
          replace u0 := cell_below b18 u0
          replace u1 := cell_below b18 u1
          replace u2 := cell_below b18 u2
          go_wp2_with fail
          refine (specOutcome_any _ _ _ lo io _ (o8.rd ptV_len)).mono ?_
          rintro e w19 ⟨rfl, b19⟩
          have t19 := below_trans t18 b19
          have o1 := o1.below b19
          have o2 := o2.below b19
          have o3 := o3.below b19
          have o4 := o4.below b19
          have o5 := o5.below b19
          have o6 := o6.below b19
          have o7 := o7.below b19
          have o8 := o8.below b19
          replace v0 := cell_below b19 v0
          replace v1 := cell_below b19 v1
          replace v2 := cell_below b19 v2
          replace u0 := cell_below b19 u0
          replace u1 := cell_below b19 u1
          replace u2 := cell_below b19 u2
          go_wp2
          go_ret
          exact ⟨rfl, t19⟩
        · have HV := Lib.hid (votV_yes hvt)
          have HT := Lib.hid (show talB y2 m2 a2 = true by unfold votG at hvt; rw [Bool.and_eq_true] at hvt; exact hvt.1)
          obtain ⟨⟨ht0, ht1⟩, ⟨ht2, ht3⟩, -⟩ := talT HT.out
          clear hvt
          rw [HV.out]
          by_cases hcmp : y2 < m2
          · rw [if_pos hcmp]
            have hz2 : ¬ (m2 + 0 ≤ y2 - 0) := by omega
            go_wp2_with fail
            refine (drawReversed_any _ _ _ l _ (ha.below t12) hb).mono ?_
            rintro e w13 ⟨⟨A5, q5, c5, lz, rfl, hqz, o5⟩, b13⟩
            have t13 := below_trans t12 b13
            have o1 := o1.below b13
            have o2 := o2.below b13
            have o3 := o3.below b13
            have o4 := o4.below b13
            replace v0 := cell_below b13 v0
            replace v1 := cell_below b13 v1
            replace v2 := cell_below b13 v2
            replace u0 := cell_below b13 u0
            replace u1 := cell_below b13 u1
            replace u2 := cell_below b13 u2
            have o5_b := o5
            go_wp2_with fail
            refine (implReversed_any _ _ _ lz _ (o5.rd ptV_len)).mono ?_
            rintro e w14 ⟨⟨A6, q6, c6, rfl, o6⟩, b14⟩
            have t14 := below_trans t13 b14
            have o1 := o1.below b14
            have o2 := o2.below b14
            have o3 := o3.below b14
            have o4 := o4.below b14
            have o5 := o5.below b14
            replace v0 := cell_below b14 v0
            replace v1 := cell_below b14 v1
            replace v2 := cell_below b14 v2
            replace u0 := cell_below b14 u0
            replace u1 := cell_below b14 u1
            replace u2 := cell_below b14 u2
            have o6_b := o6
            go_wp2_with fail
            refine (specReversed_any _ _ _ lz _ (o5.rd ptV_len)).mono ?_
            rintro e w15 ⟨⟨A7, q7, c7, rfl, o7⟩, b15⟩
            have t15 := below_trans t14 b15
            have o1 := o1.below b15
            have o2 := o2.below b15
            have o3 := o3.below b15
            have o4 := o4.below b15
            have o5 := o5.below b15
            have o6 := o6.below b15
            replace v0 := cell_below b15 v0
            replace v1 := cell_below b15 v1
            replace v2 := cell_below b15 v2
            replace u0 := cell_below b15 u0
            replace u1 := cell_below b15 u1
            replace u2 := cell_below b15 u2
            have o7_b := o7
            go_wp2_with fail
            refine (vInts_same _ _ _ _ _ _ _ _ (o6.rd inV_len) (o7.rd inV_len)).mono ?_
            rintro e w16 ⟨rfl, b16⟩
            have t16 := below_trans t15 b16
            have o1 := o1.below b16
            have o2 := o2.below b16
            have o3 := o3.below b16
            have o4 := o4.below b16
            have o5 := o5.below b16
            have o6 := o6.below b16
            have o7 := o7.below b16
            replace v0 := cell_below b16 v0
            replace v1 := cell_below b16 v1
            replace v2 := cell_below b16 v2
            replace u0 := cell_below b16 u0
            replace u1 := cell_below b16 u1
            replace u2 := cell_below b16 u2
            go_wp2_with fail
            refine (drawOutcome_any _ _ _ l _ (ha.below t16) hb).mono ?_
            rintro e w17 ⟨⟨A8, q8, c8, io, lo, rfl, hqo, o8⟩, b17⟩
            have t17 := below_trans t16 b17
            have o1 := o1.below b17
            have o2 := o2.below b17
            have o3 := o3.below b17
            have o4 := o4.below b17
            have o5 := o5.below b17
            have o6 := o6.below b17
            have o7 := o7.below b17
            replace v0 := cell_below b17 v0
            replace v1 := cell_below b17 v1
            replace v2 := cell_below b17 v2
            replace u0 := cell_below b17 u0
            replace u1 := cell_below b17 u1
            replace u2 := cell_below b17 u2
            have o8_b := o8
            go_wp2_with fail
            refine (implOutcome_any _ _ _ lo io _ (o8.rd ptV_len)).mono ?_
            rintro e w18 ⟨rfl, b18⟩
            have t18 := below_trans t17 b18
            have o1 := o1.below b18
            have o2 := o2.below b18
            have o3 := o3.below b18
            have o4 := o4.below b18
            have o5 := o5.below b18
            have o6 := o6.below b18
            have o7 := o7.below b18
            have o8 := o8.below b18
            replace v0 := cell_below b18 v0
            replace v1 := cell_below b18 v1
            replace v2 := cell_below b18 v2
            replace u0 := cell_below b18 u0
            replace u1 := cell_below b18 u1
            replace u2 := cell_below b18 u2
            go_wp2_with fail
            refine (specOutcome_any _ _ _ lo io _ (o8.rd ptV_len)).mono ?_
            rintro e w19 ⟨rfl, b19⟩
            have t19 := below_trans t18 b19
            have o1 := o1.below b19
            have o2 := o2.below b19
            have o3 := o3.below b19
            have o4 := o4.below b19
            have o5 := o5.below b19
            have o6 := o6.below b19
            have o7 := o7.below b19
            have o8 := o8.below b19
            replace v0 := cell_below b19 v0
            replace v1 := cell_below b19 v1
            replace v2 := cell_below b19 v2
            replace u0 := cell_below b19 u0
            replace u1 := cell_below b19 u1
            replace u2 := cell_below b19 u2
            go_wp2
            go_ret
            exact ⟨rfl, t19⟩
          rw [if_neg hcmp]
          have hz0 : 0 ≤ (y2 - m2) / 2 := by omega
          have hz1 : (y2 - m2) / 2 ≤ 1000 := by omega
          generalize hz : (y2 - m2) / 2 = z at *
          have HZ := Lib.hid hz
          have hz2 : ¬ (m2 + (z + 1) ≤ y2 - (z + 1)) := by have := HZ.out; omega
          have hz3 : ¬ (y2 - (z + 1) + 1 < m2 + (z + 1) - 1) := by have := HZ.out; omega
          have hz4 : (0 : Int) < z + 1 := by omega
          clear hz
          go_wp2_with fail
          refine (drawReversed_any _ _ _ l _ (ha.below t12) hb).mono ?_
          rintro e w13 ⟨⟨A5, q5, c5, lz, rfl, hqz, o5⟩, b13⟩
          have t13 := below_trans t12 b13
          have o1 := o1.below b13
          have o2 := o2.below b13
          have o3 := o3.below b13
          have o4 := o4.below b13
          replace v0 := cell_below b13 v0
          replace v1 := cell_below b13 v1
          replace v2 := cell_below b13 v2
          replace u0 := cell_below b13 u0
          replace u1 := cell_below b13 u1
          replace u2 := cell_below b13 u2
          have o5_b := o5
          go_wp2_with fail
          refine (implReversed_any _ _ _ lz _ (o5.rd ptV_len)).mono ?_
          rintro e w14 ⟨⟨A6, q6, c6, rfl, o6⟩, b14⟩
          have t14 := below_trans t13 b14
          have o1 := o1.below b14
          have o2 := o2.below b14
          have o3 := o3.below b14
          have o4 := o4.below b14
          have o5 := o5.below b14
          replace v0 := cell_below b14 v0
          replace v1 := cell_below b14 v1
          replace v2 := cell_below b14 v2
          replace u0 := cell_below b14 u0
          replace u1 := cell_below b14 u1
          replace u2 := cell_below b14 u2
          have o6_b := o6
          go_wp2_with fail
          refine (specReversed_any _ _ _ lz _ (o5.rd ptV_len)).mono ?_
          rintro e w15 ⟨⟨A7, q7, c7, rfl, o7⟩, b15⟩
          have t15 := below_trans t14 b15
          have o1 := o1.below b15
          have o2 := o2.below b15
          have o3 := o3.below b15
          have o4 := o4.below b15
          have o5 := o5.below b15
          have o6 := o6.below b15
          replace v0 := cell_below b15 v0
          replace v1 := cell_below b15 v1
          replace v2 := cell_below b15 v2
          replace u0 := cell_below b15 u0
          replace u1 := cell_below b15 u1
          replace u2 := cell_below b15 u2
          have o7_b := o7
          go_wp2_with fail
          refine (vInts_same _ _ _ _ _ _ _ _ (o6.rd inV_len) (o7.rd inV_len)).mono ?_
          rintro e w16 ⟨rfl, b16⟩
          have t16 := below_trans t15 b16
          have o1 := o1.below b16
          have o2 := o2.below b16
          have o3 := o3.below b16
          have o4 := o4.below b16
          have o5 := o5.below b16
          have o6 := o6.below b16
          have o7 := o7.below b16
          replace v0 := cell_below b16 v0
          replace v1 := cell_below b16 v1
          replace v2 := cell_below b16 v2
          replace u0 := cell_below b16 u0
          replace u1 := cell_below b16 u1
          replace u2 := cell_below b16 u2
          go_wp2_with fail
          refine (drawOutcome_any _ _ _ l _ (ha.below t16) hb).mono ?_
          rintro e w17 ⟨⟨A8, q8, c8, io, lo, rfl, hqo, o8⟩, b17⟩
          have t17 := below_trans t16 b17
          have o1 := o1.below b17
          have o2 := o2.below b17
          have o3 := o3.below b17
          have o4 := o4.below b17
          have o5 := o5.below b17
          have o6 := o6.below b17
          have o7 := o7.below b17
          replace v0 := cell_below b17 v0
          replace v1 := cell_below b17 v1
          replace v2 := cell_below b17 v2
          replace u0 := cell_below b17 u0
          replace u1 := cell_below b17 u1
          replace u2 := cell_below b17 u2
          have o8_b := o8
          go_wp2_with fail
          refine (implOutcome_any _ _ _ lo io _ (o8.rd ptV_len)).mono ?_
          rintro e w18 ⟨rfl, b18⟩
          have t18 := below_trans t17 b18
          have o1 := o1.below b18
          have o2 := o2.below b18
          have o3 := o3.below b18
          have o4 := o4.below b18
          have o5 := o5.below b18
          have o6 := o6.below b18
          have o7 := o7.below b18
          have o8 := o8.below b18
          replace v0 := cell_below b18 v0
          replace v1 := cell_below b18 v1
          replace v2 := cell_below b18 v2
          replace u0 := cell_below b18 u0
          replace u1 := cell_below b18 u1
          replace u2 := cell_below b18 u2
          go_wp2_with fail
          refine (specOutcome_any _ _ _ lo io _ (o8.rd ptV_len)).mono ?_
          rintro e w19 ⟨rfl, b19⟩
          have t19 := below_trans t18 b19
          have o1 := o1.below b19
          have o2 := o2.below b19
          have o3 := o3.below b19
          have o4 := o4.below b19
          have o5 := o5.below b19
          have o6 := o6.below b19
          have o7 := o7.below b19
          have o8 := o8.below b19
          replace v0 := cell_below b19 v0
          replace v1 := cell_below b19 v1
          replace v2 := cell_below b19 v2
          replace u0 := cell_below b19 u0
          replace u1 := cell_below b19 u1
          replace u2 := cell_below b19 u2
          go_wp2
          go_ret
          exact ⟨rfl, t19⟩
      · rw [htk] at k2
        clear htk
        go_wp2_with fail
        refine wp_region_quiet_below (by kernel_rfl) (by kernel_rfl) ?_
        repeat (go_big_quiet_step ((first | (go_at_call 33; exact Calls.regrown_of (CHB.out _ _)) | (go_at_call 21; exact Calls.regrown_of (CA.out _ _)))))
        refine wpQuiet_nil ?_
        intro _ hw'
        obtain ⟨⟨dq, osq⟩, hw''⟩ := hw'
        subst hw''
        have bX := below_regrown w7 dq osq
        clear CHB CA k2 kv0 kv1 hlo hhi DC hyn hym
        go_wp2_with fail
        generalize hgx : grow (redrawn w7 dq) osq = w8 at *
        clear hgx
        have t8 := below_trans t7 bX
        have o1 := o1.below bX
        have o2 := o2.below bX
        have o3 := o3.below bX
        have o4 := o4.below bX
        replace v0 := cell_below bX v0
        replace v1 := cell_below bX v1
        replace v2 := cell_below bX v2
        refine (drawVotes_any _ _ _ l _ (ha.below t8) hb).mono ?_
        rintro e w9 ⟨⟨y2, m2, a2, rfl⟩, b9⟩
        have t9 := below_trans t8 b9
        have o1 := o1.below b9
        have o2 := o2.below b9
        have o3 := o3.below b9
        have o4 := o4.below b9
        replace v0 := cell_below b9 v0
        replace v1 := cell_below b9 v1
        replace v2 := cell_below b9 v2
        have b10 := below_alloc (w := w9) (.cells #[.int .i64 y2, .int .i64 m2, .int .i64 a2] 43)
        have u0 : (w9.alloc (.cells #[.int .i64 y2, .int .i64 m2, .int .i64 a2] 43)).cell? ⟨w9.heap.size, 0, none⟩ = some (.int .i64 y2) := cell_of_row _ _ 0 _ _ _ (heap_new rfl)
        have u1 : (w9.alloc (.cells #[.int .i64 y2, .int .i64 m2, .int .i64 a2] 43)).cell? ⟨w9.heap.size, 1, none⟩ = some (.int .i64 m2) := cell_of_row _ _ 1 _ _ _ (heap_new rfl)
        have u2 : (w9.alloc (.cells #[.int .i64 y2, .int .i64 m2, .int .i64 a2] 43)).cell? ⟨w9.heap.size, 2, none⟩ = some (.int .i64 a2) := cell_of_row _ _ 2 _ _ _ (heap_new rfl)
        have t10 := below_trans t9 b10
        have o1 := o1.below b10
        have o2 := o2.below b10
        have o3 := o3.below b10
        have o4 := o4.below b10
        replace v0 := cell_below b10 v0
        replace v1 := cell_below b10 v1
        replace v2 := cell_below b10 v2
        go_wp2_with fail
        generalize hgw10 : w9.alloc (.cells #[.int .i64 y2, .int .i64 m2, .int .i64 a2] 43) = w10 at *
        clear hgw10
        refine (implVotes_any y2 m2 a2 _).mono ?_
        rintro e w11 ⟨rfl, b11⟩
        have t11 := below_trans t10 b11
        have o1 := o1.below b11
        have o2 := o2.below b11
        have o3 := o3.below b11
        have o4 := o4.below b11
        replace v0 := cell_below b11 v0
        replace v1 := cell_below b11 v1
        replace v2 := cell_below b11 v2
        replace u0 := cell_below b11 u0
        replace u1 := cell_below b11 u1
        replace u2 := cell_below b11 u2
        go_wp2_with fail
        refine (specVotes_any y2 m2 a2 _).mono ?_
        rintro e w12 ⟨rfl, b12⟩
        have t12 := below_trans t11 b12
        have o1 := o1.below b12
        have o2 := o2.below b12
        have o3 := o3.below b12
        have o4 := o4.below b12
        replace v0 := cell_below b12 v0
        replace v1 := cell_below b12 v1
        replace v2 := cell_below b12 v2
        replace u0 := cell_below b12 u0
        replace u1 := cell_below b12 u1
        replace u2 := cell_below b12 u2
        cases hvt : votG y2 m2 a2
        · clear hvt
          go_wp2_with fail
          refine (drawReversed_any _ _ _ l _ (ha.below t12) hb).mono ?_
          rintro e w13 ⟨⟨A5, q5, c5, lz, rfl, hqz, o5⟩, b13⟩
          have t13 := below_trans t12 b13
          have o1 := o1.below b13
          have o2 := o2.below b13
          have o3 := o3.below b13
          have o4 := o4.below b13
          replace v0 := cell_below b13 v0
          replace v1 := cell_below b13 v1
          replace v2 := cell_below b13 v2
          replace u0 := cell_below b13 u0
          replace u1 := cell_below b13 u1
          replace u2 := cell_below b13 u2
          have o5_b := o5
          go_wp2_with fail
          refine (implReversed_any _ _ _ lz _ (o5.rd ptV_len)).mono ?_
          rintro e w14 ⟨⟨A6, q6, c6, rfl, o6⟩, b14⟩
          have t14 := below_trans t13 b14
          have o1 := o1.below b14
          have o2 := o2.below b14
          have o3 := o3.below b14
          have o4 := o4.below b14
          have o5 := o5.below b14
          replace v0 := cell_below b14 v0
          replace v1 := cell_below b14 v1
          replace v2 := cell_below b14 v2
          replace u0 := cell_below b14 u0
          replace u1 := cell_below b14 u1
          replace u2 := cell_below b14 u2
          have o6_b := o6
          go_wp2_with fail
          refine (specReversed_any _ _ _ lz _ (o5.rd ptV_len)).mono ?_
          rintro e w15 ⟨⟨A7, q7, c7, rfl, o7⟩, b15⟩
          have t15 := below_trans t14 b15
          have o1 := o1.below b15
          have o2 := o2.below b15
          have o3 := o3.below b15
          have o4 := o4.below b15
          have o5 := o5.below b15
          have o6 := o6.below b15
          replace v0 := cell_below b15 v0
          replace v1 := cell_below b15 v1
          replace v2 := cell_below b15 v2
          replace u0 := cell_below b15 u0
          replace u1 := cell_below b15 u1
          replace u2 := cell_below b15 u2
          have o7_b := o7
          go_wp2_with fail
          refine (vInts_same _ _ _ _ _ _ _ _ (o6.rd inV_len) (o7.rd inV_len)).mono ?_
          rintro e w16 ⟨rfl, b16⟩
          have t16 := below_trans t15 b16
          have o1 := o1.below b16
          have o2 := o2.below b16
          have o3 := o3.below b16
          have o4 := o4.below b16
          have o5 := o5.below b16
          have o6 := o6.below b16
          have o7 := o7.below b16
          replace v0 := cell_below b16 v0
          replace v1 := cell_below b16 v1
          replace v2 := cell_below b16 v2
          replace u0 := cell_below b16 u0
          replace u1 := cell_below b16 u1
          replace u2 := cell_below b16 u2
          go_wp2_with fail
          refine (drawOutcome_any _ _ _ l _ (ha.below t16) hb).mono ?_
          rintro e w17 ⟨⟨A8, q8, c8, io, lo, rfl, hqo, o8⟩, b17⟩
          have t17 := below_trans t16 b17
          have o1 := o1.below b17
          have o2 := o2.below b17
          have o3 := o3.below b17
          have o4 := o4.below b17
          have o5 := o5.below b17
          have o6 := o6.below b17
          have o7 := o7.below b17
          replace v0 := cell_below b17 v0
          replace v1 := cell_below b17 v1
          replace v2 := cell_below b17 v2
          replace u0 := cell_below b17 u0
          replace u1 := cell_below b17 u1
          replace u2 := cell_below b17 u2
          have o8_b := o8
          go_wp2_with fail
          refine (implOutcome_any _ _ _ lo io _ (o8.rd ptV_len)).mono ?_
          rintro e w18 ⟨rfl, b18⟩
          have t18 := below_trans t17 b18
          have o1 := o1.below b18
          have o2 := o2.below b18
          have o3 := o3.below b18
          have o4 := o4.below b18
          have o5 := o5.below b18
          have o6 := o6.below b18
          have o7 := o7.below b18
          have o8 := o8.below b18
          replace v0 := cell_below b18 v0
          replace v1 := cell_below b18 v1
          replace v2 := cell_below b18 v2
          replace u0 := cell_below b18 u0
          replace u1 := cell_below b18 u1
          replace u2 := cell_below b18 u2
          go_wp2_with fail
          refine (specOutcome_any _ _ _ lo io _ (o8.rd ptV_len)).mono ?_
          rintro e w19 ⟨rfl, b19⟩
          have t19 := below_trans t18 b19
          have o1 := o1.below b19
          have o2 := o2.below b19
          have o3 := o3.below b19
          have o4 := o4.below b19
          have o5 := o5.below b19
          have o6 := o6.below b19
          have o7 := o7.below b19
          have o8 := o8.below b19
          replace v0 := cell_below b19 v0
          replace v1 := cell_below b19 v1
          replace v2 := cell_below b19 v2
          replace u0 := cell_below b19 u0
          replace u1 := cell_below b19 u1
          replace u2 := cell_below b19 u2
          go_wp2
          go_ret
          exact ⟨rfl, t19⟩
        · have HV := Lib.hid (votV_yes hvt)
          have HT := Lib.hid (show talB y2 m2 a2 = true by unfold votG at hvt; rw [Bool.and_eq_true] at hvt; exact hvt.1)
          obtain ⟨⟨ht0, ht1⟩, ⟨ht2, ht3⟩, -⟩ := talT HT.out
          clear hvt
          rw [HV.out]
          by_cases hcmp : y2 < m2
          · rw [if_pos hcmp]
            have hz2 : ¬ (m2 + 0 ≤ y2 - 0) := by omega
            go_wp2_with fail
            refine (drawReversed_any _ _ _ l _ (ha.below t12) hb).mono ?_
            rintro e w13 ⟨⟨A5, q5, c5, lz, rfl, hqz, o5⟩, b13⟩
            have t13 := below_trans t12 b13
            have o1 := o1.below b13
            have o2 := o2.below b13
            have o3 := o3.below b13
            have o4 := o4.below b13
            replace v0 := cell_below b13 v0
            replace v1 := cell_below b13 v1
            replace v2 := cell_below b13 v2
            replace u0 := cell_below b13 u0
            replace u1 := cell_below b13 u1
            replace u2 := cell_below b13 u2
            have o5_b := o5
            go_wp2_with fail
            refine (implReversed_any _ _ _ lz _ (o5.rd ptV_len)).mono ?_
            rintro e w14 ⟨⟨A6, q6, c6, rfl, o6⟩, b14⟩
            have t14 := below_trans t13 b14
            have o1 := o1.below b14
            have o2 := o2.below b14
            have o3 := o3.below b14
            have o4 := o4.below b14
            have o5 := o5.below b14
            replace v0 := cell_below b14 v0
            replace v1 := cell_below b14 v1
            replace v2 := cell_below b14 v2
            replace u0 := cell_below b14 u0
            replace u1 := cell_below b14 u1
            replace u2 := cell_below b14 u2
            have o6_b := o6
            go_wp2_with fail
            refine (specReversed_any _ _ _ lz _ (o5.rd ptV_len)).mono ?_
            rintro e w15 ⟨⟨A7, q7, c7, rfl, o7⟩, b15⟩
            have t15 := below_trans t14 b15
            have o1 := o1.below b15
            have o2 := o2.below b15
            have o3 := o3.below b15
            have o4 := o4.below b15
            have o5 := o5.below b15
            have o6 := o6.below b15
            replace v0 := cell_below b15 v0
            replace v1 := cell_below b15 v1
            replace v2 := cell_below b15 v2
            replace u0 := cell_below b15 u0
            replace u1 := cell_below b15 u1
            replace u2 := cell_below b15 u2
            have o7_b := o7
            go_wp2_with fail
            refine (vInts_same _ _ _ _ _ _ _ _ (o6.rd inV_len) (o7.rd inV_len)).mono ?_
            rintro e w16 ⟨rfl, b16⟩
            have t16 := below_trans t15 b16
            have o1 := o1.below b16
            have o2 := o2.below b16
            have o3 := o3.below b16
            have o4 := o4.below b16
            have o5 := o5.below b16
            have o6 := o6.below b16
            have o7 := o7.below b16
            replace v0 := cell_below b16 v0
            replace v1 := cell_below b16 v1
            replace v2 := cell_below b16 v2
            replace u0 := cell_below b16 u0
            replace u1 := cell_below b16 u1
            replace u2 := cell_below b16 u2
            go_wp2_with fail
            refine (drawOutcome_any _ _ _ l _ (ha.below t16) hb).mono ?_
            rintro e w17 ⟨⟨A8, q8, c8, io, lo, rfl, hqo, o8⟩, b17⟩
            have t17 := below_trans t16 b17
            have o1 := o1.below b17
            have o2 := o2.below b17
            have o3 := o3.below b17
            have o4 := o4.below b17
            have o5 := o5.below b17
            have o6 := o6.below b17
            have o7 := o7.below b17
            replace v0 := cell_below b17 v0
            replace v1 := cell_below b17 v1
            replace v2 := cell_below b17 v2
            replace u0 := cell_below b17 u0
            replace u1 := cell_below b17 u1
            replace u2 := cell_below b17 u2
            have o8_b := o8
            go_wp2_with fail
            refine (implOutcome_any _ _ _ lo io _ (o8.rd ptV_len)).mono ?_
            rintro e w18 ⟨rfl, b18⟩
            have t18 := below_trans t17 b18
            have o1 := o1.below b18
            have o2 := o2.below b18
            have o3 := o3.below b18
            have o4 := o4.below b18
            have o5 := o5.below b18
            have o6 := o6.below b18
            have o7 := o7.below b18
            have o8 := o8.below b18
            replace v0 := cell_below b18 v0
            replace v1 := cell_below b18 v1
            replace v2 := cell_below b18 v2
            replace u0 := cell_below b18 u0
            replace u1 := cell_below b18 u1
            replace u2 := cell_below b18 u2
            go_wp2_with fail
            refine (specOutcome_any _ _ _ lo io _ (o8.rd ptV_len)).mono ?_
            rintro e w19 ⟨rfl, b19⟩
            have t19 := below_trans t18 b19
            have o1 := o1.below b19
            have o2 := o2.below b19
            have o3 := o3.below b19
            have o4 := o4.below b19
            have o5 := o5.below b19
            have o6 := o6.below b19
            have o7 := o7.below b19
            have o8 := o8.below b19
            replace v0 := cell_below b19 v0
            replace v1 := cell_below b19 v1
            replace v2 := cell_below b19 v2
            replace u0 := cell_below b19 u0
            replace u1 := cell_below b19 u1
            replace u2 := cell_below b19 u2
            go_wp2
            go_ret
            exact ⟨rfl, t19⟩
          rw [if_neg hcmp]
          have hz0 : 0 ≤ (y2 - m2) / 2 := by omega
          have hz1 : (y2 - m2) / 2 ≤ 1000 := by omega
          generalize hz : (y2 - m2) / 2 = z at *
          have HZ := Lib.hid hz
          have hz2 : ¬ (m2 + (z + 1) ≤ y2 - (z + 1)) := by have := HZ.out; omega
          have hz3 : ¬ (y2 - (z + 1) + 1 < m2 + (z + 1) - 1) := by have := HZ.out; omega
          have hz4 : (0 : Int) < z + 1 := by omega
          clear hz
          go_wp2_with fail
          refine (drawReversed_any _ _ _ l _ (ha.below t12) hb).mono ?_
          rintro e w13 ⟨⟨A5, q5, c5, lz, rfl, hqz, o5⟩, b13⟩
          have t13 := below_trans t12 b13
          have o1 := o1.below b13
          have o2 := o2.below b13
          have o3 := o3.below b13
          have o4 := o4.below b13
          replace v0 := cell_below b13 v0
          replace v1 := cell_below b13 v1
          replace v2 := cell_below b13 v2
          replace u0 := cell_below b13 u0
          replace u1 := cell_below b13 u1
          replace u2 := cell_below b13 u2
          have o5_b := o5
          go_wp2_with fail
          refine (implReversed_any _ _ _ lz _ (o5.rd ptV_len)).mono ?_
          rintro e w14 ⟨⟨A6, q6, c6, rfl, o6⟩, b14⟩
          have t14 := below_trans t13 b14
          have o1 := o1.below b14
          have o2 := o2.below b14
          have o3 := o3.below b14
          have o4 := o4.below b14
          have o5 := o5.below b14
          replace v0 := cell_below b14 v0
          replace v1 := cell_below b14 v1
          replace v2 := cell_below b14 v2
          replace u0 := cell_below b14 u0
          replace u1 := cell_below b14 u1
          replace u2 := cell_below b14 u2
          have o6_b := o6
          go_wp2_with fail
          refine (specReversed_any _ _ _ lz _ (o5.rd ptV_len)).mono ?_
          rintro e w15 ⟨⟨A7, q7, c7, rfl, o7⟩, b15⟩
          have t15 := below_trans t14 b15
          have o1 := o1.below b15
          have o2 := o2.below b15
          have o3 := o3.below b15
          have o4 := o4.below b15
          have o5 := o5.below b15
          have o6 := o6.below b15
          replace v0 := cell_below b15 v0
          replace v1 := cell_below b15 v1
          replace v2 := cell_below b15 v2
          replace u0 := cell_below b15 u0
          replace u1 := cell_below b15 u1
          replace u2 := cell_below b15 u2
          have o7_b := o7
          go_wp2_with fail
          refine (vInts_same _ _ _ _ _ _ _ _ (o6.rd inV_len) (o7.rd inV_len)).mono ?_
          rintro e w16 ⟨rfl, b16⟩
          have t16 := below_trans t15 b16
          have o1 := o1.below b16
          have o2 := o2.below b16
          have o3 := o3.below b16
          have o4 := o4.below b16
          have o5 := o5.below b16
          have o6 := o6.below b16
          have o7 := o7.below b16
          replace v0 := cell_below b16 v0
          replace v1 := cell_below b16 v1
          replace v2 := cell_below b16 v2
          replace u0 := cell_below b16 u0
          replace u1 := cell_below b16 u1
          replace u2 := cell_below b16 u2
          go_wp2_with fail
          refine (drawOutcome_any _ _ _ l _ (ha.below t16) hb).mono ?_
          rintro e w17 ⟨⟨A8, q8, c8, io, lo, rfl, hqo, o8⟩, b17⟩
          have t17 := below_trans t16 b17
          have o1 := o1.below b17
          have o2 := o2.below b17
          have o3 := o3.below b17
          have o4 := o4.below b17
          have o5 := o5.below b17
          have o6 := o6.below b17
          have o7 := o7.below b17
          replace v0 := cell_below b17 v0
          replace v1 := cell_below b17 v1
          replace v2 := cell_below b17 v2
          replace u0 := cell_below b17 u0
          replace u1 := cell_below b17 u1
          replace u2 := cell_below b17 u2
          have o8_b := o8
          go_wp2_with fail
          refine (implOutcome_any _ _ _ lo io _ (o8.rd ptV_len)).mono ?_
          rintro e w18 ⟨rfl, b18⟩
          have t18 := below_trans t17 b18
          have o1 := o1.below b18
          have o2 := o2.below b18
          have o3 := o3.below b18
          have o4 := o4.below b18
          have o5 := o5.below b18
          have o6 := o6.below b18
          have o7 := o7.below b18
          have o8 := o8.below b18
          replace v0 := cell_below b18 v0
          replace v1 := cell_below b18 v1
          replace v2 := cell_below b18 v2
          replace u0 := cell_below b18 u0
          replace u1 := cell_below b18 u1
          replace u2 := cell_below b18 u2
          go_wp2_with fail
          refine (specOutcome_any _ _ _ lo io _ (o8.rd ptV_len)).mono ?_
          rintro e w19 ⟨rfl, b19⟩
          have t19 := below_trans t18 b19
          have o1 := o1.below b19
          have o2 := o2.below b19
          have o3 := o3.below b19
          have o4 := o4.below b19
          have o5 := o5.below b19
          have o6 := o6.below b19
          have o7 := o7.below b19
          have o8 := o8.below b19
          replace v0 := cell_below b19 v0
          replace v1 := cell_below b19 v1
          replace v2 := cell_below b19 v2
          replace u0 := cell_below b19 u0
          replace u1 := cell_below b19 u1
          replace u2 := cell_below b19 u2
          go_wp2
          go_ret
          exact ⟨rfl, t19⟩
    · have CHB := CH true hyn
      clear CH
      have hym : y < m := by simpa using hyn
      cases htk : pq.ta
      · rw [htk] at k2
        clear htk
        go_wp2_with fail
        refine wp_region_quiet_below (by kernel_rfl) (by kernel_rfl) ?_
        repeat (go_big_quiet_step ((first | (go_at_call 33; exact Calls.regrown_of (CHB.out _ _)) | (go_at_call 21; exact Calls.regrown_of (CA.out _ _)))))
        refine wpQuiet_nil ?_
        intro _ hw'
        obtain ⟨⟨dq, osq⟩, hw''⟩ := hw'
        subst hw''
        have bX := below_regrown w7 dq osq
        clear CHB CA k2 kv0 kv1 hlo hhi DC hyn hym
        go_wp2_with fail
        generalize hgx : grow (redrawn w7 dq) osq = w8 at *
        clear hgx
        have t8 := below_trans t7 bX
        have o1 := o1.below bX
        have o2 := o2.below bX
        have o3 := o3.below bX
        have o4 := o4.below bX
        replace v0 := cell_below bX v0
        replace v1 := cell_below bX v1
        replace v2 := cell_below bX v2
        refine (drawVotes_any _ _ _ l _ (ha.below t8) hb).mono ?_
        rintro e w9 ⟨⟨y2, m2, a2, rfl⟩, b9⟩
        have t9 := below_trans t8 b9
        have o1 := o1.below b9
        have o2 := o2.below b9
        have o3 := o3.below b9
        have o4 := o4.below b9
        replace v0 := cell_below b9 v0
        replace v1 := cell_below b9 v1
        replace v2 := cell_below b9 v2
        have b10 := below_alloc (w := w9) (.cells #[.int .i64 y2, .int .i64 m2, .int .i64 a2] 43)
        have u0 : (w9.alloc (.cells #[.int .i64 y2, .int .i64 m2, .int .i64 a2] 43)).cell? ⟨w9.heap.size, 0, none⟩ = some (.int .i64 y2) := cell_of_row _ _ 0 _ _ _ (heap_new rfl)
        have u1 : (w9.alloc (.cells #[.int .i64 y2, .int .i64 m2, .int .i64 a2] 43)).cell? ⟨w9.heap.size, 1, none⟩ = some (.int .i64 m2) := cell_of_row _ _ 1 _ _ _ (heap_new rfl)
        have u2 : (w9.alloc (.cells #[.int .i64 y2, .int .i64 m2, .int .i64 a2] 43)).cell? ⟨w9.heap.size, 2, none⟩ = some (.int .i64 a2) := cell_of_row _ _ 2 _ _ _ (heap_new rfl)
        have t10 := below_trans t9 b10
        have o1 := o1.below b10
        have o2 := o2.below b10
        have o3 := o3.below b10
        have o4 := o4.below b10
        replace v0 := cell_below b10 v0
        replace v1 := cell_below b10 v1
        replace v2 := cell_below b10 v2
        go_wp2_with fail
        generalize hgw10 : w9.alloc (.cells #[.int .i64 y2, .int .i64 m2, .int .i64 a2] 43) = w10 at *
        clear hgw10
        refine (implVotes_any y2 m2 a2 _).mono ?_
        rintro e w11 ⟨rfl, b11⟩
        have t11 := below_trans t10 b11
        have o1 := o1.below b11
        have o2 := o2.below b11
        have o3 := o3.below b11
        have o4 := o4.below b11
        replace v0 := cell_below b11 v0
        replace v1 := cell_below b11 v1
        replace v2 := cell_below b11 v2
        replace u0 := cell_below b11 u0
        replace u1 := cell_below b11 u1
        replace u2 := cell_below b11 u2
        go_wp2_with fail
        refine (specVotes_any y2 m2 a2 _).mono ?_
        rintro e w12 ⟨rfl, b12⟩
        have t12 := below_trans t11 b12
        have o1 := o1.below b12
        have o2 := o2.below b12
        have o3 := o3.below b12
        have o4 := o4.below b12
        replace v0 := cell_below b12 v0
        replace v1 := cell_below b12 v1
        replace v2 := cell_below b12 v2
        replace u0 := cell_below b12 u0
        replace u1 := cell_below b12 u1
        replace u2 := cell_below b12 u2
        cases hvt : votG y2 m2 a2
        · clear hvt
          go_wp2_with fail
          refine (drawReversed_any _ _ _ l _ (ha.below t12) hb).mono ?_
          rintro e w13 ⟨⟨A5, q5, c5, lz, rfl, hqz, o5⟩, b13⟩
          have t13 := below_trans t12 b13
          have o1 := o1.below b13
          have o2 := o2.below b13
          have o3 := o3.below b13
          have o4 := o4.below b13
          replace v0 := cell_below b13 v0
          replace v1 := cell_below b13 v1
          replace v2 := cell_below b13 v2
          replace u0 := cell_below b13 u0
          replace u1 := cell_below b13 u1
          replace u2 := cell_below b13 u2
          have o5_b := o5
          go_wp2_with fail
          refine (implReversed_any _ _ _ lz _ (o5.rd ptV_len)).mono ?_
          rintro e w14 ⟨⟨A6, q6, c6, rfl, o6⟩, b14⟩
          have t14 := below_trans t13 b14
          have o1 := o1.below b14
          have o2 := o2.below b14
          have o3 := o3.below b14
          have o4 := o4.below b14
          have o5 := o5.below b14
          replace v0 := cell_below b14 v0
          replace v1 := cell_below b14 v1
          replace v2 := cell_below b14 v2
          replace u0 := cell_below b14 u0
          replace u1 := cell_below b14 u1
          replace u2 := cell_below b14 u2
          have o6_b := o6
          go_wp2_with fail
          refine (specReversed_any _ _ _ lz _ (o5.rd ptV_len)).mono ?_
          rintro e w15 ⟨⟨A7, q7, c7, rfl, o7⟩, b15⟩
          have t15 := below_trans t14 b15
          have o1 := o1.below b15
          have o2 := o2.below b15
          have o3 := o3.below b15
          have o4 := o4.below b15
          have o5 := o5.below b15
          have o6 := o6.below b15
          replace v0 := cell_below b15 v0
          replace v1 := cell_below b15 v1
          replace v2 := cell_below b15 v2
          replace u0 := cell_below b15 u0
          replace u1 := cell_below b15 u1
          replace u2 := cell_below b15 u2
          have o7_b := o7
          go_wp2_with fail
          refine (vInts_same _ _ _ _ _ _ _ _ (o6.rd inV_len) (o7.rd inV_len)).mono ?_
          rintro e w16 ⟨rfl, b16⟩
          have t16 := below_trans t15 b16
          have o1 := o1.below b16
          have o2 := o2.below b16
          have o3 := o3.below b16
          have o4 := o4.below b16
          have o5 := o5.below b16
          have o6 := o6.below b16
          have o7 := o7.below b16
          replace v0 := cell_below b16 v0
          replace v1 := cell_below b16 v1
          replace v2 := cell_below b16 v2
          replace u0 := cell_below b16 u0
          replace u1 := cell_below b16 u1
          replace u2 := cell_below b16 u2
          go_wp2_with fail
          refine (drawOutcome_any _ _ _ l _ (ha.below t16) hb).mono ?_
          rintro e w17 ⟨⟨A8, q8, c8, io, lo, rfl, hqo, o8⟩, b17⟩
          have t17 := below_trans t16 b17
          have o1 := o1.below b17
          have o2 := o2.below b17
          have o3 := o3.below b17
          have o4 := o4.below b17
          have o5 := o5.below b17
          have o6 := o6.below b17
          have o7 := o7.below b17
          replace v0 := cell_below b17 v0
          replace v1 := cell_below b17 v1
          replace v2 := cell_below b17 v2
          replace u0 := cell_below b17 u0
          replace u1 := cell_below b17 u1
          replace u2 := cell_below b17 u2
          have o8_b := o8
          go_wp2_with fail
          refine (implOutcome_any _ _ _ lo io _ (o8.rd ptV_len)).mono ?_
          rintro e w18 ⟨rfl, b18⟩
          have t18 := below_trans t17 b18
          have o1 := o1.below b18
          have o2 := o2.below b18
          have o3 := o3.below b18
          have o4 := o4.below b18
          have o5 := o5.below b18
          have o6 := o6.below b18
          have o7 := o7.below b18
          have o8 := o8.below b18
          replace v0 := cell_below b18 v0
          replace v1 := cell_below b18 v1
          replace v2 := cell_below b18 v2
          replace u0 := cell_below b18 u0
          replace u1 := cell_below b18 u1
          replace u2 := cell_below b18 u2
          go_wp2_with fail
          refine (specOutcome_any _ _ _ lo io _ (o8.rd ptV_len)).mono ?_
          rintro e w19 ⟨rfl, b19⟩
          have t19 := below_trans t18 b19
          have o1 := o1.below b19
          have o2 := o2.below b19
          have o3 := o3.below b19
          have o4 := o4.below b19
          have o5 := o5.below b19
          have o6 := o6.below b19
          have o7 := o7.below b19
          have o8 := o8.below b19
          replace v0 := cell_below b19 v0
          replace v1 := cell_below b19 v1
          replace v2 := cell_below b19 v2
          replace u0 := cell_below b19 u0
          replace u1 := cell_below b19 u1
          replace u2 := cell_below b19 u2
          go_wp2
          go_ret
          exact ⟨rfl, t19⟩
        · have HV := Lib.hid (votV_yes hvt)
          have HT := Lib.hid (show talB y2 m2 a2 = true by unfold votG at hvt; rw [Bool.and_eq_true] at hvt; exact hvt.1)
          obtain ⟨⟨ht0, ht1⟩, ⟨ht2, ht3⟩, -⟩ := talT HT.out
          clear hvt
          rw [HV.out]
          by_cases hcmp : y2 < m2
          · rw [if_pos hcmp]
            have hz2 : ¬ (m2 + 0 ≤ y2 - 0) := by omega
            go_wp2_with fail
            refine (drawReversed_any _ _ _ l _ (ha.below t12) hb).mono ?_
            rintro e w13 ⟨⟨A5, q5, c5, lz, rfl, hqz, o5⟩, b13⟩
            have t13 := below_trans t12 b13
            have o1 := o1.below b13
            have o2 := o2.below b13
            have o3 := o3.below b13
            have o4 := o4.below b13
            replace v0 := cell_below b13 v0
            replace v1 := cell_below b13 v1
            replace v2 := cell_below b13 v2
            replace u0 := cell_below b13 u0
            replace u1 := cell_below b13 u1
            replace u2 := cell_below b13 u2
            have o5_b := o5
            go_wp2_with fail
            refine (implReversed_any _ _ _ lz _ (o5.rd ptV_len)).mono ?_
            rintro e w14 ⟨⟨A6, q6, c6, rfl, o6⟩, b14⟩
            have t14 := below_trans t13 b14
            have o1 := o1.below b14
            have o2 := o2.below b14
            have o3 := o3.below b14
            have o4 := o4.below b14
            have o5 := o5.below b14
            replace v0 := cell_below b14 v0
            replace v1 := cell_below b14 v1
            replace v2 := cell_below b14 v2
            replace u0 := cell_below b14 u0
            replace u1 := cell_below b14 u1
            replace u2 := cell_below b14 u2
            have o6_b := o6
            go_wp2_with fail
            refine (specReversed_any _ _ _ lz _ (o5.rd ptV_len)).mono ?_
            rintro e w15 ⟨⟨A7, q7, c7, rfl, o7⟩, b15⟩
            have t15 := below_trans t14 b15
            have o1 := o1.below b15
            have o2 := o2.below b15
            have o3 := o3.below b15
            have o4 := o4.below b15
            have o5 := o5.below b15
            have o6 := o6.below b15
            replace v0 := cell_below b15 v0
            replace v1 := cell_below b15 v1
            replace v2 := cell_below b15 v2
            replace u0 := cell_below b15 u0
            replace u1 := cell_below b15 u1
            replace u2 := cell_below b15 u2
            have o7_b := o7
            go_wp2_with fail
            refine (vInts_same _ _ _ _ _ _ _ _ (o6.rd inV_len) (o7.rd inV_len)).mono ?_
            rintro e w16 ⟨rfl, b16⟩
            have t16 := below_trans t15 b16
            have o1 := o1.below b16
            have o2 := o2.below b16
            have o3 := o3.below b16
            have o4 := o4.below b16
            have o5 := o5.below b16
            have o6 := o6.below b16
            have o7 := o7.below b16
            replace v0 := cell_below b16 v0
            replace v1 := cell_below b16 v1
            replace v2 := cell_below b16 v2
            replace u0 := cell_below b16 u0
            replace u1 := cell_below b16 u1
            replace u2 := cell_below b16 u2
            go_wp2_with fail
            refine (drawOutcome_any _ _ _ l _ (ha.below t16) hb).mono ?_
            rintro e w17 ⟨⟨A8, q8, c8, io, lo, rfl, hqo, o8⟩, b17⟩
            have t17 := below_trans t16 b17
            have o1 := o1.below b17
            have o2 := o2.below b17
            have o3 := o3.below b17
            have o4 := o4.below b17
            have o5 := o5.below b17
            have o6 := o6.below b17
            have o7 := o7.below b17
            replace v0 := cell_below b17 v0
            replace v1 := cell_below b17 v1
            replace v2 := cell_below b17 v2
            replace u0 := cell_below b17 u0
            replace u1 := cell_below b17 u1
            replace u2 := cell_below b17 u2
            have o8_b := o8
            go_wp2_with fail
            refine (implOutcome_any _ _ _ lo io _ (o8.rd ptV_len)).mono ?_
            rintro e w18 ⟨rfl, b18⟩
            have t18 := below_trans t17 b18
            have o1 := o1.below b18
            have o2 := o2.below b18
            have o3 := o3.below b18
            have o4 := o4.below b18
            have o5 := o5.below b18
            have o6 := o6.below b18
            have o7 := o7.below b18
            have o8 := o8.below b18
            replace v0 := cell_below b18 v0
            replace v1 := cell_below b18 v1
            replace v2 := cell_below b18 v2
            replace u0 := cell_below b18 u0
            replace u1 := cell_below b18 u1
            replace u2 := cell_below b18 u2
            go_wp2_with fail
            refine (specOutcome_any _ _ _ lo io _ (o8.rd ptV_len)).mono ?_
            rintro e w19 ⟨rfl, b19⟩
            have t19 := below_trans t18 b19
            have o1 := o1.below b19
            have o2 := o2.below b19
            have o3 := o3.below b19
            have o4 := o4.below b19
            have o5 := o5.below b19
            have o6 := o6.below b19
            have o7 := o7.below b19
            have o8 := o8.below b19
            replace v0 := cell_below b19 v0
            replace v1 := cell_below b19 v1
            replace v2 := cell_below b19 v2
            replace u0 := cell_below b19 u0
            replace u1 := cell_below b19 u1
            replace u2 := cell_below b19 u2
            go_wp2
            go_ret
            exact ⟨rfl, t19⟩
          rw [if_neg hcmp]
          have hz0 : 0 ≤ (y2 - m2) / 2 := by omega
          have hz1 : (y2 - m2) / 2 ≤ 1000 := by omega
          generalize hz : (y2 - m2) / 2 = z at *
          have HZ := Lib.hid hz
          have hz2 : ¬ (m2 + (z + 1) ≤ y2 - (z + 1)) := by have := HZ.out; omega
          have hz3 : ¬ (y2 - (z + 1) + 1 < m2 + (z + 1) - 1) := by have := HZ.out; omega
          have hz4 : (0 : Int) < z + 1 := by omega
          clear hz
          go_wp2_with fail
          refine (drawReversed_any _ _ _ l _ (ha.below t12) hb).mono ?_
          rintro e w13 ⟨⟨A5, q5, c5, lz, rfl, hqz, o5⟩, b13⟩
          have t13 := below_trans t12 b13
          have o1 := o1.below b13
          have o2 := o2.below b13
          have o3 := o3.below b13
          have o4 := o4.below b13
          replace v0 := cell_below b13 v0
          replace v1 := cell_below b13 v1
          replace v2 := cell_below b13 v2
          replace u0 := cell_below b13 u0
          replace u1 := cell_below b13 u1
          replace u2 := cell_below b13 u2
          have o5_b := o5
          go_wp2_with fail
          refine (implReversed_any _ _ _ lz _ (o5.rd ptV_len)).mono ?_
          rintro e w14 ⟨⟨A6, q6, c6, rfl, o6⟩, b14⟩
          have t14 := below_trans t13 b14
          have o1 := o1.below b14
          have o2 := o2.below b14
          have o3 := o3.below b14
          have o4 := o4.below b14
          have o5 := o5.below b14
          replace v0 := cell_below b14 v0
          replace v1 := cell_below b14 v1
          replace v2 := cell_below b14 v2
          replace u0 := cell_below b14 u0
          replace u1 := cell_below b14 u1
          replace u2 := cell_below b14 u2
          have o6_b := o6
          go_wp2_with fail
          refine (specReversed_any _ _ _ lz _ (o5.rd ptV_len)).mono ?_
          rintro e w15 ⟨⟨A7, q7, c7, rfl, o7⟩, b15⟩
          have t15 := below_trans t14 b15
          have o1 := o1.below b15
          have o2 := o2.below b15
          have o3 := o3.below b15
          have o4 := o4.below b15
          have o5 := o5.below b15
          have o6 := o6.below b15
          replace v0 := cell_below b15 v0
          replace v1 := cell_below b15 v1
          replace v2 := cell_below b15 v2
          replace u0 := cell_below b15 u0
          replace u1 := cell_below b15 u1
          replace u2 := cell_below b15 u2
          have o7_b := o7
          go_wp2_with fail
          refine (vInts_same _ _ _ _ _ _ _ _ (o6.rd inV_len) (o7.rd inV_len)).mono ?_
          rintro e w16 ⟨rfl, b16⟩
          have t16 := below_trans t15 b16
          have o1 := o1.below b16
          have o2 := o2.below b16
          have o3 := o3.below b16
          have o4 := o4.below b16
          have o5 := o5.below b16
          have o6 := o6.below b16
          have o7 := o7.below b16
          replace v0 := cell_below b16 v0
          replace v1 := cell_below b16 v1
          replace v2 := cell_below b16 v2
          replace u0 := cell_below b16 u0
          replace u1 := cell_below b16 u1
          replace u2 := cell_below b16 u2
          go_wp2_with fail
          refine (drawOutcome_any _ _ _ l _ (ha.below t16) hb).mono ?_
          rintro e w17 ⟨⟨A8, q8, c8, io, lo, rfl, hqo, o8⟩, b17⟩
          have t17 := below_trans t16 b17
          have o1 := o1.below b17
          have o2 := o2.below b17
          have o3 := o3.below b17
          have o4 := o4.below b17
          have o5 := o5.below b17
          have o6 := o6.below b17
          have o7 := o7.below b17
          replace v0 := cell_below b17 v0
          replace v1 := cell_below b17 v1
          replace v2 := cell_below b17 v2
          replace u0 := cell_below b17 u0
          replace u1 := cell_below b17 u1
          replace u2 := cell_below b17 u2
          have o8_b := o8
          go_wp2_with fail
          refine (implOutcome_any _ _ _ lo io _ (o8.rd ptV_len)).mono ?_
          rintro e w18 ⟨rfl, b18⟩
          have t18 := below_trans t17 b18
          have o1 := o1.below b18
          have o2 := o2.below b18
          have o3 := o3.below b18
          have o4 := o4.below b18
          have o5 := o5.below b18
          have o6 := o6.below b18
          have o7 := o7.below b18
          have o8 := o8.below b18
          replace v0 := cell_below b18 v0
          replace v1 := cell_below b18 v1
          replace v2 := cell_below b18 v2
          replace u0 := cell_below b18 u0
          replace u1 := cell_below b18 u1
          replace u2 := cell_below b18 u2
          go_wp2_with fail
          refine (specOutcome_any _ _ _ lo io _ (o8.rd ptV_len)).mono ?_
          rintro e w19 ⟨rfl, b19⟩
          have t19 := below_trans t18 b19
          have o1 := o1.below b19
          have o2 := o2.below b19
          have o3 := o3.below b19
          have o4 := o4.below b19
          have o5 := o5.below b19
          have o6 := o6.below b19
          have o7 := o7.below b19
          have o8 := o8.below b19
          replace v0 := cell_below b19 v0
          replace v1 := cell_below b19 v1
          replace v2 := cell_below b19 v2
          replace u0 := cell_below b19 u0
          replace u1 := cell_below b19 u1
          replace u2 := cell_below b19 u2
          go_wp2
          go_ret
          exact ⟨rfl, t19⟩
      · rw [htk] at k2
        clear htk
        go_wp2_with fail
        refine wp_region_quiet_below (by kernel_rfl) (by kernel_rfl) ?_
        repeat (go_big_quiet_step ((first | (go_at_call 33; exact Calls.regrown_of (CHB.out _ _)) | (go_at_call 21; exact Calls.regrown_of (CA.out _ _)))))
        refine wpQuiet_nil ?_
        intro _ hw'
        obtain ⟨⟨dq, osq⟩, hw''⟩ := hw'
        subst hw''
        have bX := below_regrown w7 dq osq
        clear CHB CA k2 kv0 kv1 hlo hhi DC hyn hym
        go_wp2_with fail
        generalize hgx : grow (redrawn w7 dq) osq = w8 at *
        clear hgx
        have t8 := below_trans t7 bX
        have o1 := o1.below bX
        have o2 := o2.below bX
        have o3 := o3.below bX
        have o4 := o4.below bX
        replace v0 := cell_below bX v0
        replace v1 := cell_below bX v1
        replace v2 := cell_below bX v2
        refine (drawVotes_any _ _ _ l _ (ha.below t8) hb).mono ?_
        rintro e w9 ⟨⟨y2, m2, a2, rfl⟩, b9⟩
        have t9 := below_trans t8 b9
        have o1 := o1.below b9
        have o2 := o2.below b9
        have o3 := o3.below b9
        have o4 := o4.below b9
        replace v0 := cell_below b9 v0
        replace v1 := cell_below b9 v1
        replace v2 := cell_below b9 v2
        have b10 := below_alloc (w := w9) (.cells #[.int .i64 y2, .int .i64 m2, .int .i64 a2] 43)
        have u0 : (w9.alloc (.cells #[.int .i64 y2, .int .i64 m2, .int .i64 a2] 43)).cell? ⟨w9.heap.size, 0, none⟩ = some (.int .i64 y2) := cell_of_row _ _ 0 _ _ _ (heap_new rfl)
        have u1 : (w9.alloc (.cells #[.int .i64 y2, .int .i64 m2, .int .i64 a2] 43)).cell? ⟨w9.heap.size, 1, none⟩ = some (.int .i64 m2) := cell_of_row _ _ 1 _ _ _ (heap_new rfl)
        have u2 : (w9.alloc (.cells #[.int .i64 y2, .int .i64 m2, .int .i64 a2] 43)).cell? ⟨w9.heap.size, 2, none⟩ = some (.int .i64 a2) := cell_of_row _ _ 2 _ _ _ (heap_new rfl)
        have t10 := below_trans t9 b10
        have o1 := o1.below b10
        have o2 := o2.below b10
        have o3 := o3.below b10
        have o4 := o4.below b10
        replace v0 := cell_below b10 v0
        replace v1 := cell_below b10 v1
        replace v2 := cell_below b10 v2
        go_wp2_with fail
        generalize hgw10 : w9.alloc (.cells #[.int .i64 y2, .int .i64 m2, .int .i64 a2] 43) = w10 at *
        clear hgw10
        refine (implVotes_any y2 m2 a2 _).mono ?_
        rintro e w11 ⟨rfl, b11⟩
        have t11 := below_trans t10 b11
        have o1 := o1.below b11
        have o2 := o2.below b11
        have o3 := o3.below b11
        have o4 := o4.below b11
        replace v0 := cell_below b11 v0
        replace v1 := cell_below b11 v1
        replace v2 := cell_below b11 v2
        replace u0 := cell_below b11 u0
        replace u1 := cell_below b11 u1
        replace u2 := cell_below b11 u2
        go_wp2_with fail
        refine (specVotes_any y2 m2 a2 _).mono ?_
        rintro e w12 ⟨rfl, b12⟩
        have t12 := below_trans t11 b12
        have o1 := o1.below b12
        have o2 := o2.below b12
        have o3 := o3.below b12
        have o4 := o4.below b12
        replace v0 := cell_below b12 v0
        replace v1 := cell_below b12 v1
        replace v2 := cell_below b12 v2
        replace u0 := cell_below b12 u0
        replace u1 := cell_below b12 u1
        replace u2 := cell_below b12 u2
        cases hvt : votG y2 m2 a2
        · clear hvt
          go_wp2_with fail
          refine (drawReversed_any _ _ _ l _ (ha.below t12) hb).mono ?_
          rintro e w13 ⟨⟨A5, q5, c5, lz, rfl, hqz, o5⟩, b13⟩
          have t13 := below_trans t12 b13
          have o1 := o1.below b13
          have o2 := o2.below b13
          have o3 := o3.below b13
          have o4 := o4.below b13
          replace v0 := cell_below b13 v0
          replace v1 := cell_below b13 v1
          replace v2 := cell_below b13 v2
          replace u0 := cell_below b13 u0
          replace u1 := cell_below b13 u1
          replace u2 := cell_below b13 u2
          have o5_b := o5
          go_wp2_with fail
          refine (implReversed_any _ _ _ lz _ (o5.rd ptV_len)).mono ?_
          rintro e w14 ⟨⟨A6, q6, c6, rfl, o6⟩, b14⟩
          have t14 := below_trans t13 b14
          have o1 := o1.below b14
          have o2 := o2.below b14
          have o3 := o3.below b14
          have o4 := o4.below b14
          have o5 := o5.below b14
          replace v0 := cell_below b14 v0
          replace v1 := cell_below b14 v1
          replace v2 := cell_below b14 v2
          replace u0 := cell_below b14 u0
          replace u1 := cell_below b14 u1
          replace u2 := cell_below b14 u2
          have o6_b := o6
          go_wp2_with fail
          refine (specReversed_any _ _ _ lz _ (o5.rd ptV_len)).mono ?_
          rintro e w15 ⟨⟨A7, q7, c7, rfl, o7⟩, b15⟩
          have t15 := below_trans t14 b15
          have o1 := o1.below b15
          have o2 := o2.below b15
          have o3 := o3.below b15
          have o4 := o4.below b15
          have o5 := o5.below b15
          have o6 := o6.below b15
          replace v0 := cell_below b15 v0
          replace v1 := cell_below b15 v1
          replace v2 := cell_below b15 v2
          replace u0 := cell_below b15 u0
          replace u1 := cell_below b15 u1
          replace u2 := cell_below b15 u2
          have o7_b := o7
          go_wp2_with fail
          refine (vInts_same _ _ _ _ _ _ _ _ (o6.rd inV_len) (o7.rd inV_len)).mono ?_
          rintro e w16 ⟨rfl, b16⟩
          have t16 := below_trans t15 b16
          have o1 := o1.below b16
          have o2 := o2.below b16
          have o3 := o3.below b16
          have o4 := o4.below b16
          have o5 := o5.below b16
          have o6 := o6.below b16
          have o7 := o7.below b16
          replace v0 := cell_below b16 v0
          replace v1 := cell_below b16 v1
          replace v2 := cell_below b16 v2
          replace u0 := cell_below b16 u0
          replace u1 := cell_below b16 u1
          replace u2 := cell_below b16 u2
          go_wp2_with fail
          refine (drawOutcome_any _ _ _ l _ (ha.below t16) hb).mono ?_
          rintro e w17 ⟨⟨A8, q8, c8, io, lo, rfl, hqo, o8⟩, b17⟩
          have t17 := below_trans t16 b17
          have o1 := o1.below b17
          have o2 := o2.below b17
          have o3 := o3.below b17
          have o4 := o4.below b17
          have o5 := o5.below b17
          have o6 := o6.below b17
          have o7 := o7.below b17
          replace v0 := cell_below b17 v0
          replace v1 := cell_below b17 v1
          replace v2 := cell_below b17 v2
          replace u0 := cell_below b17 u0
          replace u1 := cell_below b17 u1
          replace u2 := cell_below b17 u2
          have o8_b := o8
          go_wp2_with fail
          refine (implOutcome_any _ _ _ lo io _ (o8.rd ptV_len)).mono ?_
          rintro e w18 ⟨rfl, b18⟩
          have t18 := below_trans t17 b18
          have o1 := o1.below b18
          have o2 := o2.below b18
          have o3 := o3.below b18
          have o4 := o4.below b18
          have o5 := o5.below b18
          have o6 := o6.below b18
          have o7 := o7.below b18
          have o8 := o8.below b18
          replace v0 := cell_below b18 v0
          replace v1 := cell_below b18 v1
          replace v2 := cell_below b18 v2
          replace u0 := cell_below b18 u0
          replace u1 := cell_below b18 u1
          replace u2 := cell_below b18 u2
          go_wp2_with fail
          refine (specOutcome_any _ _ _ lo io _ (o8.rd ptV_len)).mono ?_
          rintro e w19 ⟨rfl, b19⟩
          have t19 := below_trans t18 b19
          have o1 := o1.below b19
          have o2 := o2.below b19
          have o3 := o3.below b19
          have o4 := o4.below b19
          have o5 := o5.below b19
          have o6 := o6.below b19
          have o7 := o7.below b19
          have o8 := o8.below b19
          replace v0 := cell_below b19 v0
          replace v1 := cell_below b19 v1
          replace v2 := cell_below b19 v2
          replace u0 := cell_below b19 u0
          replace u1 := cell_below b19 u1
          replace u2 := cell_below b19 u2
          go_wp2
          go_ret
          exact ⟨rfl, t19⟩
        · have HV := Lib.hid (votV_yes hvt)
          have HT := Lib.hid (show talB y2 m2 a2 = true by unfold votG at hvt; rw [Bool.and_eq_true] at hvt; exact hvt.1)
          obtain ⟨⟨ht0, ht1⟩, ⟨ht2, ht3⟩, -⟩ := talT HT.out
          clear hvt
          rw [HV.out]
          by_cases hcmp : y2 < m2
          · rw [if_pos hcmp]
            have hz2 : ¬ (m2 + 0 ≤ y2 - 0) := by omega
            go_wp2_with fail
            refine (drawReversed_any _ _ _ l _ (ha.below t12) hb).mono ?_
            rintro e w13 ⟨⟨A5, q5, c5, lz, rfl, hqz, o5⟩, b13⟩
            have t13 := below_trans t12 b13
            have o1 := o1.below b13
            have o2 := o2.below b13
            have o3 := o3.below b13
            have o4 := o4.below b13
            replace v0 := cell_below b13 v0
            replace v1 := cell_below b13 v1
            replace v2 := cell_below b13 v2
            replace u0 := cell_below b13 u0
            replace u1 := cell_below b13 u1
            replace u2 := cell_below b13 u2
            have o5_b := o5
            go_wp2_with fail
            refine (implReversed_any _ _ _ lz _ (o5.rd ptV_len)).mono ?_
            rintro e w14 ⟨⟨A6, q6, c6, rfl, o6⟩, b14⟩
            have t14 := below_trans t13 b14
            have o1 := o1.below b14
            have o2 := o2.below b14
            have o3 := o3.below b14
            have o4 := o4.below b14
            have o5 := o5.below b14
            replace v0 := cell_below b14 v0
            replace v1 := cell_below b14 v1
            replace v2 := cell_below b14 v2
            replace u0 := cell_below b14 u0
            replace u1 := cell_below b14 u1
            replace u2 := cell_below b14 u2
            have o6_b := o6
            go_wp2_with fail
            refine (specReversed_any _ _ _ lz _ (o5.rd ptV_len)).mono ?_
            rintro e w15 ⟨⟨A7, q7, c7, rfl, o7⟩, b15⟩
            have t15 := below_trans t14 b15
            have o1 := o1.below b15
            have o2 := o2.below b15
            have o3 := o3.below b15
            have o4 := o4.below b15
            have o5 := o5.below b15
            have o6 := o6.below b15
            replace v0 := cell_below b15 v0
            replace v1 := cell_below b15 v1
            replace v2 := cell_below b15 v2
            replace u0 := cell_below b15 u0
            replace u1 := cell_below b15 u1
            replace u2 := cell_below b15 u2
            have o7_b := o7
            go_wp2_with fail
            refine (vInts_same _ _ _ _ _ _ _ _ (o6.rd inV_len) (o7.rd inV_len)).mono ?_
            rintro e w16 ⟨rfl, b16⟩
            have t16 := below_trans t15 b16
            have o1 := o1.below b16
            have o2 := o2.below b16
            have o3 := o3.below b16
            have o4 := o4.below b16
            have o5 := o5.below b16
            have o6 := o6.below b16
            have o7 := o7.below b16
            replace v0 := cell_below b16 v0
            replace v1 := cell_below b16 v1
            replace v2 := cell_below b16 v2
            replace u0 := cell_below b16 u0
            replace u1 := cell_below b16 u1
            replace u2 := cell_below b16 u2
            go_wp2_with fail
            refine (drawOutcome_any _ _ _ l _ (ha.below t16) hb).mono ?_
            rintro e w17 ⟨⟨A8, q8, c8, io, lo, rfl, hqo, o8⟩, b17⟩
            have t17 := below_trans t16 b17
            have o1 := o1.below b17
            have o2 := o2.below b17
            have o3 := o3.below b17
            have o4 := o4.below b17
            have o5 := o5.below b17
            have o6 := o6.below b17
            have o7 := o7.below b17
            replace v0 := cell_below b17 v0
            replace v1 := cell_below b17 v1
            replace v2 := cell_below b17 v2
            replace u0 := cell_below b17 u0
            replace u1 := cell_below b17 u1
            replace u2 := cell_below b17 u2
            have o8_b := o8
            go_wp2_with fail
            refine (implOutcome_any _ _ _ lo io _ (o8.rd ptV_len)).mono ?_
            rintro e w18 ⟨rfl, b18⟩
            have t18 := below_trans t17 b18
            have o1 := o1.below b18
            have o2 := o2.below b18
            have o3 := o3.below b18
            have o4 := o4.below b18
            have o5 := o5.below b18
            have o6 := o6.below b18
            have o7 := o7.below b18
            have o8 := o8.below b18
            replace v0 := cell_below b18 v0
            replace v1 := cell_below b18 v1
            replace v2 := cell_below b18 v2
            replace u0 := cell_below b18 u0
            replace u1 := cell_below b18 u1
            replace u2 := cell_below b18 u2
            go_wp2_with fail
            refine (specOutcome_any _ _ _ lo io _ (o8.rd ptV_len)).mono ?_
            rintro e w19 ⟨rfl, b19⟩
            have t19 := below_trans t18 b19
            have o1 := o1.below b19
            have o2 := o2.below b19
            have o3 := o3.below b19
            have o4 := o4.below b19
            have o5 := o5.below b19
            have o6 := o6.below b19
            have o7 := o7.below b19
            have o8 := o8.below b19
            replace v0 := cell_below b19 v0
            replace v1 := cell_below b19 v1
            replace v2 := cell_below b19 v2
            replace u0 := cell_below b19 u0
            replace u1 := cell_below b19 u1
            replace u2 := cell_below b19 u2
            go_wp2
            go_ret
            exact ⟨rfl, t19⟩
          rw [if_neg hcmp]
          have hz0 : 0 ≤ (y2 - m2) / 2 := by omega
          have hz1 : (y2 - m2) / 2 ≤ 1000 := by omega
          generalize hz : (y2 - m2) / 2 = z at *
          have HZ := Lib.hid hz
          have hz2 : ¬ (m2 + (z + 1) ≤ y2 - (z + 1)) := by have := HZ.out; omega
          have hz3 : ¬ (y2 - (z + 1) + 1 < m2 + (z + 1) - 1) := by have := HZ.out; omega
          have hz4 : (0 : Int) < z + 1 := by omega
          clear hz
          go_wp2_with fail
          refine (drawReversed_any _ _ _ l _ (ha.below t12) hb).mono ?_
          rintro e w13 ⟨⟨A5, q5, c5, lz, rfl, hqz, o5⟩, b13⟩
          have t13 := below_trans t12 b13
          have o1 := o1.below b13
          have o2 := o2.below b13
          have o3 := o3.below b13
          have o4 := o4.below b13
          replace v0 := cell_below b13 v0
          replace v1 := cell_below b13 v1
          replace v2 := cell_below b13 v2
          replace u0 := cell_below b13 u0
          replace u1 := cell_below b13 u1
          replace u2 := cell_below b13 u2
          have o5_b := o5
          go_wp2_with fail
          refine (implReversed_any _ _ _ lz _ (o5.rd ptV_len)).mono ?_
          rintro e w14 ⟨⟨A6, q6, c6, rfl, o6⟩, b14⟩
          have t14 := below_trans t13 b14
          have o1 := o1.below b14
          have o2 := o2.below b14
          have o3 := o3.below b14
          have o4 := o4.below b14
          have o5 := o5.below b14
          replace v0 := cell_below b14 v0
          replace v1 := cell_below b14 v1
          replace v2 := cell_below b14 v2
          replace u0 := cell_below b14 u0
          replace u1 := cell_below b14 u1
          replace u2 := cell_below b14 u2
          have o6_b := o6
          go_wp2_with fail
          refine (specReversed_any _ _ _ lz _ (o5.rd ptV_len)).mono ?_
          rintro e w15 ⟨⟨A7, q7, c7, rfl, o7⟩, b15⟩
          have t15 := below_trans t14 b15
          have o1 := o1.below b15
          have o2 := o2.below b15
          have o3 := o3.below b15
          have o4 := o4.below b15
          have o5 := o5.below b15
          have o6 := o6.below b15
          replace v0 := cell_below b15 v0
          replace v1 := cell_below b15 v1
          replace v2 := cell_below b15 v2
          replace u0 := cell_below b15 u0
          replace u1 := cell_below b15 u1
          replace u2 := cell_below b15 u2
          have o7_b := o7
          go_wp2_with fail
          refine (vInts_same _ _ _ _ _ _ _ _ (o6.rd inV_len) (o7.rd inV_len)).mono ?_
          rintro e w16 ⟨rfl, b16⟩
          have t16 := below_trans t15 b16
          have o1 := o1.below b16
          have o2 := o2.below b16
          have o3 := o3.below b16
          have o4 := o4.below b16
          have o5 := o5.below b16
          have o6 := o6.below b16
          have o7 := o7.below b16
          replace v0 := cell_below b16 v0
          replace v1 := cell_below b16 v1
          replace v2 := cell_below b16 v2
          replace u0 := cell_below b16 u0
          replace u1 := cell_below b16 u1
          replace u2 := cell_below b16 u2
          go_wp2_with fail
          refine (drawOutcome_any _ _ _ l _ (ha.below t16) hb).mono ?_
          rintro e w17 ⟨⟨A8, q8, c8, io, lo, rfl, hqo, o8⟩, b17⟩
          have t17 := below_trans t16 b17
          have o1 := o1.below b17
          have o2 := o2.below b17
          have o3 := o3.below b17
          have o4 := o4.below b17
          have o5 := o5.below b17
          have o6 := o6.below b17
          have o7 := o7.below b17
          replace v0 := cell_below b17 v0
          replace v1 := cell_below b17 v1
          replace v2 := cell_below b17 v2
          replace u0 := cell_below b17 u0
          replace u1 := cell_below b17 u1
          replace u2 := cell_below b17 u2
          have o8_b := o8
          go_wp2_with fail
          refine (implOutcome_any _ _ _ lo io _ (o8.rd ptV_len)).mono ?_
          rintro e w18 ⟨rfl, b18⟩
          have t18 := below_trans t17 b18
          have o1 := o1.below b18
          have o2 := o2.below b18
          have o3 := o3.below b18
          have o4 := o4.below b18
          have o5 := o5.below b18
          have o6 := o6.below b18
          have o7 := o7.below b18
          have o8 := o8.below b18
          replace v0 := cell_below b18 v0
          replace v1 := cell_below b18 v1
          replace v2 := cell_below b18 v2
          replace u0 := cell_below b18 u0
          replace u1 := cell_below b18 u1
          replace u2 := cell_below b18 u2
          go_wp2_with fail
          refine (specOutcome_any _ _ _ lo io _ (o8.rd ptV_len)).mono ?_
          rintro e w19 ⟨rfl, b19⟩
          have t19 := below_trans t18 b19
          have o1 := o1.below b19
          have o2 := o2.below b19
          have o3 := o3.below b19
          have o4 := o4.below b19
          have o5 := o5.below b19
          have o6 := o6.below b19
          have o7 := o7.below b19
          have o8 := o8.below b19
          replace v0 := cell_below b19 v0
          replace v1 := cell_below b19 v1
          replace v2 := cell_below b19 v2
          replace u0 := cell_below b19 u0
          replace u1 := cell_below b19 u1
          replace u2 := cell_below b19 u2
          go_wp2
          go_ret
          exact ⟨rfl, t19⟩

set_option maxRecDepth 100000 in
theorem lifted (os : Os) (started : os.Started) (H : Type) (enc : TypeId × Value → H) :
    ReturnsInHanded {} Try.checked os 6 .any (Rows.fnAppealsSpec.pre6 enc Try.prog Try.f6 Rows.fnAppealsRow.domain false) (Rows.fnAppealsSpec.post enc Try.prog Try.f6 false true false false) := by
  refine returnsInHanded_of_change (C := Try.checked) own started (by kernel_rfl) Try.func6
    (ChangeSpec.witness6 (enc := enc) (C := Try.checked) false ⟨#[], #[.slice none 0 0], []⟩ 8 (by kernel_rfl) (by kernel_rfl) (by kernel_rfl) (by kernel_rfl)) ?_
  intro W base args ds gs before hval0 hW hcnd _
  have hval : ∀ (j : Nat) t v, Try.f6.params[j]? = some t → args[j]? = some v → Value.okWide Try.prog W .any base t v := hval0
  have hW' := hW
  obtain ⟨p, q, hA0, hV, rfl, hfz, hnd⟩ := hW
  have hA : DataW.TrodAll enc Try.prog W 0 (fun _ => true) true Try.f6.params.toList args.toList ds p := hA0
  rw [Try.params6] at hA hval
  obtain ⟨v0, vs0, d0, ds0, p0, q0, hargs, rfl, rfl, h0, r0⟩ := trodAll_cons hA
  obtain ⟨rfl, rfl, rfl⟩ := trodAll_nil r0
  obtain rfl : args = #[v0] := by cases args; simp_all
  obtain ⟨rfl, rfl⟩ := trodVars_none hV
  obtain ⟨A0, n0, c0, l0, rfl, R0, G0⟩ := open_rd (ec := byV) Try.underlying33 (by kernel_rfl) (read_bytes) (by omega) byV_len (hval 0 33 v0 rfl rfl) h0
  refine (walk A0 n0 c0 l0 W R0 G0).mono fun e W' ⟨he, hb⟩ => ?_
  subst he
  exact ⟨_, rfl, law_post laidOut (by kernel_rfl) (by kernel_rfl) Try.underlying4 rfl hW' rfl rfl rfl hb⟩

theorem over : Rows.fnAppealsRow.holds Try.pinned (OpenSpec.ofChange Rows.fnAppealsSpec) :=
  OpenClaim.holds_of_wide 6 Try.f6 rfl rfl rfl rfl rfl rfl rfl ⟨rfl, rfl, rfl, rfl, rfl⟩ rfl rfl rfl rfl rfl (by kernel_rfl) Try.func6 (by kernel_rfl)
    (of_decide_eq_true (by kernel_rfl)) (by unfold Func.isWrapper; rw [if_neg (of_decide_eq_false (by kernel_rfl))]; exact ⟨rfl, rfl⟩)
    (fun os started H enc _ => lifted os started H enc)

theorem proved : Rows.FnAppealsSaid :=
  over
#print axioms proved
end Go.Proofs.Ytjeldedmaanhbaa.fnAppeals
