/- FnCorrections: for every code of at most 65536 bytes: CorrectSheet, UndoCorrection, CorrectAll and ChangedLines answer as the reference at what is drawn; a correction that is made can be found again, corrections in order are made one after the other, and other lines stay. No condition.
-/
import Derived.Test.YtmahfkimeclcbaaRead
import Derived.Test.YtmahfkimeclcbaaByt
import Derived.Test.YtmahfkimeclcbaaCorDD
import Derived.Test.YtmahfkimeclcbaaVee
import Derived.Deep.DeepCutAuto
import Derived.HandedShaped
namespace Go.Proofs.Ytmahfkimeclcbaa.fnCorrections
open Go Go.ChangeShapes Go.WideShapes Go.ChangeAt Go.RowKit Go.Sort
open Go.ChangeMaps (open_string)
set_option linter.unusedVariables false

theorem own : ownKnob Try.prog.godebug = none := by kernel_rfl
theorem laidOut : laidOutB Try.prog = true := by kernel_rfl

set_option maxRecDepth 100000 in
set_option maxHeartbeats 8000000 in
theorem walk (A : Option Addr) (n c : Nat) (l : List Int) (mx : Int) (w : World) (ha : Rd byV 1 w A n c l) (hb : ∀ x ∈ l, 0 ≤ x ∧ x ≤ 255) (hM : w.cell? ⟨0, 0, none⟩ = some (.int .i64 mx)) :
    Calls Try.prog 3 #[.slice A n c] w fun e w' => e = .returned (.bool true) ∧ Below w.heap.size w w' := by
  have HM := Lib.hid hM
  clear hM
  have hm := ha.le
  go_enter Try.func3, Try.ntmps3
  go_wp2_with fail
  refine (vBig_any _ _ _ _ hm).mono ?_
  rintro e wx ⟨rfl, rfl⟩
  by_cases hbig : (65536 : Int) < (n : Int)
  · go_wp2
    go_ret
    exact ⟨rfl, Below.refl _ _⟩
  go_wp2_with fail
  refine (drawCorrect_any _ _ _ l _ ha hb).mono ?_
  rintro e w1 ⟨⟨A1, q1, c1, l1, x, rfl, hq1, ⟨o1, hgl⟩, hx⟩, b1⟩
  have t1 := b1
  have o1_b := o1
  have X := Lib.hid hx
  have HG := Lib.hid (t1M hgl)
  clear hx hgl
  have b2 := below_alloc (w := w1) (.cells #[.int .i64 x.line, .string x.old, .string x.new] 26)
  have v0 : (w1.alloc (.cells #[.int .i64 x.line, .string x.old, .string x.new] 26)).cell? ⟨w1.heap.size, 0, none⟩ = some (.int .i64 x.line) := cell_of_row _ _ 0 _ _ _ (heap_new rfl)
  have v1 : (w1.alloc (.cells #[.int .i64 x.line, .string x.old, .string x.new] 26)).cell? ⟨w1.heap.size, 1, none⟩ = some (.string x.old) := cell_of_row _ _ 1 _ _ _ (heap_new rfl)
  have v2 : (w1.alloc (.cells #[.int .i64 x.line, .string x.old, .string x.new] 26)).cell? ⟨w1.heap.size, 2, none⟩ = some (.string x.new) := cell_of_row _ _ 2 _ _ _ (heap_new rfl)
  have t2 := below_trans t1 b2
  have o1 := o1.below b2
  go_wp2_with fail
  generalize hgw2 : w1.alloc (.cells #[.int .i64 x.line, .string x.old, .string x.new] 26) = w2 at *
  clear hgw2
  refine (implCorrectSheet_any _ _ _ l1 x mx _ (o1.rd stV_len) (by omega) HG.out (co1M X.out).1 (co1M X.out).2 (cell_below t2 HM.out)).mono ?_
  rintro e w3 ⟨⟨A2, q2, c2, rfl, o2⟩, b3⟩
  have t3 := below_trans t2 b3
  have o1 := o1.below b3
  replace v0 := cell_below b3 v0
  replace v1 := cell_below b3 v1
  replace v2 := cell_below b3 v2
  have o2_b := o2
  go_wp2_with fail
  refine (specCorrectSheet_any _ _ _ l1 x _ (o1.rd stV_len) (by omega) HG.out (co1M X.out).1 (co1M X.out).2).mono ?_
  rintro e w4 ⟨⟨A3, q3, c3, rfl, o3⟩, b4⟩
  have t4 := below_trans t3 b4
  have o1 := o1.below b4
  have o2 := o2.below b4
  replace v0 := cell_below b4 v0
  replace v1 := cell_below b4 v1
  replace v2 := cell_below b4 v2
  have o3_b := o3
  go_wp2_with fail
  refine (vTexts_same _ _ _ _ _ _ _ _ (o2.rd stV_len) (o3.rd stV_len)).mono ?_
  rintro e w5 ⟨rfl, b5⟩
  have t5 := below_trans t4 b5
  have o1 := o1.below b5
  have o2 := o2.below b5
  have o3 := o3.below b5
  replace v0 := cell_below b5 v0
  replace v1 := cell_below b5 v1
  replace v2 := cell_below b5 v2
  go_upto_if 65 with fail
  go_cut [6, 8] (fun s6 s8 wx => Below w.heap.size w wx)
  case first =>
    cases hok : shG l1 x
    · clear hok
      go_wp2_with fail
      go_meet
      case rel => exact t5
    · obtain ⟨ha1, hc1, hs1⟩ := changed_one hok
      have hlen := shL_len l1 x
      have hqn : q2 ≤ 1048576 := by rw [← o2.len]; have := o1.len; omega
      have HGn := Lib.hid (t1M (sh_good hok))
      have hund : Hid (∀ b, undoO (shL l1 x) x = some b → undoL (shL l1 x) x = l1) := fun b hb => undo_of_correct hok hb
      clear hok hlen
      go_wp2_with fail
      have b6 := below_alloc (w := w5) (.cells #[.int .i64 x.line, .string x.old, .string x.new] 26)
      have lx : Own coV 3 (w5.alloc (.cells #[.int .i64 x.line, .string x.old, .string x.new] 26)) w5.heap.size 26 (some ⟨w5.heap.size, 0, none⟩) 1 1 [x] := own_one w5 #[.int .i64 x.line, .string x.old, .string x.new] 26 (x) rfl rfl
      have t6 := below_trans t5 b6
      have o1 := o1.below b6
      have o2 := o2.below b6
      have o3 := o3.below b6
      replace v0 := cell_below b6 v0
      replace v1 := cell_below b6 v1
      replace v2 := cell_below b6 v2
      generalize hgw6 : w5.alloc (.cells #[.int .i64 x.line, .string x.old, .string x.new] 26) = w6 at *
      clear hgw6
      refine (implChangedLines_any _ _ _ l1 _ _ _ [x] mx _ (o1.rd stV_len) (lx.rd coV_len) (by omega) HG.out (fun s hs => by rw [List.mem_singleton.1 hs]; exact co1M X.out) (cell_below t6 HM.out)).mono ?_
      rintro e w7 ⟨⟨A4, q4, c4, rfl, o4⟩, b7⟩
      have t7 := below_trans t6 b7
      have o1 := o1.below b7
      have o2 := o2.below b7
      have o3 := o3.below b7
      have lx := lx.below b7
      replace v0 := cell_below b7 v0
      replace v1 := cell_below b7 v1
      replace v2 := cell_below b7 v2
      have o4_b := o4
      rw [ha1]
      have hC2 := o4
      rw [hc1] at hC2
      replace o4 := hC2
      replace o4_b := hC2
      clear hC2 lx
      go_wp2_with fail
      have b8 := below_alloc (w := w7) (.cells #[.int .i64 x.line] 3)
      have li : Own inV 1 (w7.alloc (.cells #[.int .i64 x.line] 3)) w7.heap.size 3 (some ⟨w7.heap.size, 0, none⟩) 1 1 [x.line] := own_one w7 #[.int .i64 x.line] 3 (x.line) rfl rfl
      have t8 := below_trans t7 b8
      have o1 := o1.below b8
      have o2 := o2.below b8
      have o3 := o3.below b8
      have o4 := o4.below b8
      replace v0 := cell_below b8 v0
      replace v1 := cell_below b8 v1
      replace v2 := cell_below b8 v2
      generalize hgw8 : w7.alloc (.cells #[.int .i64 x.line] 3) = w8 at *
      clear hgw8
      refine (vInts_same _ _ _ _ _ _ [x.line] _ (o4.rd inV_len) (li.rd inV_len)).mono ?_
      rintro e w9 ⟨rfl, b9⟩
      have t9 := below_trans t8 b9
      have o1 := o1.below b9
      have o2 := o2.below b9
      have o3 := o3.below b9
      have o4 := o4.below b9
      have li := li.below b9
      replace v0 := cell_below b9 v0
      replace v1 := cell_below b9 v1
      replace v2 := cell_below b9 v2
      go_wp2_with fail
      refine (implIsSheet_any _ _ _ (shL l1 x) _ (o2.rd stV_len) (fun s hs => Nat.le_trans (HGn.out s hs) (by simp [maxLen]))).mono ?_
      rintro e wx ⟨rfl, rfl⟩
      rw [hs1]
      go_wp2_with fail
      refine (implUndo_any _ _ _ (shL l1 x) x mx _ (o2.rd stV_len) hqn HGn.out (co1M X.out).1 (co1M X.out).2 (cell_below t9 HM.out)).mono ?_
      rintro e w10 ⟨⟨A5, q5, c5, rfl, o5⟩, b10⟩
      have t10 := below_trans t9 b10
      have o1 := o1.below b10
      have o2 := o2.below b10
      have o3 := o3.below b10
      have o4 := o4.below b10
      have li := li.below b10
      replace v0 := cell_below b10 v0
      replace v1 := cell_below b10 v1
      replace v2 := cell_below b10 v2
      have o5_b := o5
      cases hun : undoG (shL l1 x) x
      · clear hun
        go_wp2_with fail
        go_meet
        case rel => exact t10
      · have hK2 := o5
        rw [hund.out _ (Option.eq_some_of_isSome hun)] at hK2
        replace o5 := hK2
        replace o5_b := hK2
        clear hun hK2
        go_wp2_with fail
        refine (vTexts_same _ _ _ _ _ _ l1 _ (o5.rd stV_len) (o1.rd stV_len)).mono ?_
        rintro e w11 ⟨rfl, b11⟩
        have t11 := below_trans t10 b11
        have o1 := o1.below b11
        have o2 := o2.below b11
        have o3 := o3.below b11
        have o4 := o4.below b11
        have li := li.below b11
        have o5 := o5.below b11
        replace v0 := cell_below b11 v0
        replace v1 := cell_below b11 v1
        replace v2 := cell_below b11 v2
        go_wp2_with fail
        go_meet
        case rel => exact t11
  case rest =>
  have t6 := hcut
  obtain ⟨w6, hwn⟩ : ∃ x : World, x = wc := ⟨_, rfl⟩
  subst hwn
  go_wp2_with fail
  refine (drawUndo_any _ _ _ l _ (ha.below t6) hb).mono ?_
  rintro e w7 ⟨⟨A4, q4, c4, l2, y, rfl, hq2, ⟨o4, hgl2⟩, hy⟩, b7⟩
  have t7 := below_trans t6 b7
  have o4_b := o4
  have Y := Lib.hid hy
  have HG2 := Lib.hid (t1M hgl2)
  clear hy hgl2
  have b8 := below_alloc (w := w7) (.cells #[.int .i64 y.line, .string y.old, .string y.new] 26)
  have u0 : (w7.alloc (.cells #[.int .i64 y.line, .string y.old, .string y.new] 26)).cell? ⟨w7.heap.size, 0, none⟩ = some (.int .i64 y.line) := cell_of_row _ _ 0 _ _ _ (heap_new rfl)
  have u1 : (w7.alloc (.cells #[.int .i64 y.line, .string y.old, .string y.new] 26)).cell? ⟨w7.heap.size, 1, none⟩ = some (.string y.old) := cell_of_row _ _ 1 _ _ _ (heap_new rfl)
  have u2 : (w7.alloc (.cells #[.int .i64 y.line, .string y.old, .string y.new] 26)).cell? ⟨w7.heap.size, 2, none⟩ = some (.string y.new) := cell_of_row _ _ 2 _ _ _ (heap_new rfl)
  have t8 := below_trans t7 b8
  have o4 := o4.below b8
  go_wp2_with fail
  generalize hgw8 : w7.alloc (.cells #[.int .i64 y.line, .string y.old, .string y.new] 26) = w8 at *
  clear hgw8
  refine (implUndo_any _ _ _ l2 y mx _ (o4.rd stV_len) (by omega) HG2.out (co1M Y.out).1 (co1M Y.out).2 (cell_below t8 HM.out)).mono ?_
  rintro e w9 ⟨⟨A5, q5, c5, rfl, o5⟩, b9⟩
  have t9 := below_trans t8 b9
  have o4 := o4.below b9
  replace u0 := cell_below b9 u0
  replace u1 := cell_below b9 u1
  replace u2 := cell_below b9 u2
  have o5_b := o5
  go_wp2_with fail
  refine (specUndo_any _ _ _ l2 y _ (o4.rd stV_len) (by omega) HG2.out (co1M Y.out).1 (co1M Y.out).2).mono ?_
  rintro e w10 ⟨⟨A6, q6, c6, rfl, o6⟩, b10⟩
  have t10 := below_trans t9 b10
  have o4 := o4.below b10
  have o5 := o5.below b10
  replace u0 := cell_below b10 u0
  replace u1 := cell_below b10 u1
  replace u2 := cell_below b10 u2
  have o6_b := o6
  go_wp2_with fail
  refine (vTexts_same _ _ _ _ _ _ _ _ (o5.rd stV_len) (o6.rd stV_len)).mono ?_
  rintro e w11 ⟨rfl, b11⟩
  have t11 := below_trans t10 b11
  have o4 := o4.below b11
  have o5 := o5.below b11
  have o6 := o6.below b11
  replace u0 := cell_below b11 u0
  replace u1 := cell_below b11 u1
  replace u2 := cell_below b11 u2
  go_upto_if 127 with fail
  go_cut [16, 18] (fun s16 s18 wx => Below w.heap.size w wx)
  case first =>
    cases hun : undoG l2 y
    · clear hun
      go_wp2_with fail
      go_meet
      case rel => exact t11
    · obtain ⟨hg3, hl3⟩ := correct_of_undo (Option.eq_some_of_isSome hun)
      have hlen := undoL_len l2 y
      have hqn : q5 ≤ 1048576 := by rw [← o5.len]; have := o4.len; omega
      have HGn := Lib.hid (show ∀ s ∈ undoL l2 y, s.size ≤ 1048576 from fun s hs => by have := line_sz (List.all_eq_true.1 (sh_all (sh_parts hg3).1) s hs); omega)
      clear hun hlen
      go_wp2_with fail
      refine (implCorrectSheet_any _ _ _ (undoL l2 y) y mx _ (o5.rd stV_len) hqn HGn.out (co1M Y.out).1 (co1M Y.out).2 (cell_below t11 HM.out)).mono ?_
      rintro e w12 ⟨⟨A7, q7, c7, rfl, o7⟩, b12⟩
      have t12 := below_trans t11 b12
      have o4 := o4.below b12
      have o5 := o5.below b12
      have o6 := o6.below b12
      replace u0 := cell_below b12 u0
      replace u1 := cell_below b12 u1
      replace u2 := cell_below b12 u2
      have o7_b := o7
      rw [hg3]
      have hK2 := o7
      rw [hl3] at hK2
      replace o7 := hK2
      replace o7_b := hK2
      clear hg3 hl3 hK2
      go_wp2_with fail
      refine (vTexts_same _ _ _ _ _ _ l2 _ (o7.rd stV_len) (o4.rd stV_len)).mono ?_
      rintro e w13 ⟨rfl, b13⟩
      have t13 := below_trans t12 b13
      have o4 := o4.below b13
      have o5 := o5.below b13
      have o6 := o6.below b13
      have o7 := o7.below b13
      replace u0 := cell_below b13 u0
      replace u1 := cell_below b13 u1
      replace u2 := cell_below b13 u2
      go_wp2_with fail
      go_meet
      case rel => exact t13
  case rest =>
  have t12 := hcut
  obtain ⟨w12, hwn⟩ : ∃ x : World, x = wc := ⟨_, rfl⟩
  subst hwn
  go_wp2_with fail
  refine (drawAll_any _ _ _ l _ (ha.below t12) hb).mono ?_
  rintro e w13 ⟨⟨A7, q7, c7, l3, A8, q8, c8, xs, rfl, hq7, hq8, ⟨o7, hgl3⟩, ⟨o8, hgxs⟩⟩, b13⟩
  have t13 := below_trans t12 b13
  have o7_b := o7
  have o8_b := o8
  have HGl3 := Lib.hid (t1M hgl3)
  have HGxs := Lib.hid (show ∀ s ∈ xs, s.old.size ≤ 1048576 ∧ s.new.size ≤ 1048576 from fun s hs => co1M (hgxs s hs))
  clear hgl3 hgxs
  go_wp2_with fail
  refine (implCorrectAll_any _ _ _ l3 _ _ _ xs mx _ (o7.rd stV_len) (o8.rd coV_len) (by omega) HGl3.out HGxs.out (cell_below t13 HM.out)).mono ?_
  rintro e w14 ⟨⟨A9, q9, c9, rfl, o9⟩, b14⟩
  have t14 := below_trans t13 b14
  have o7 := o7.below b14
  have o8 := o8.below b14
  have o9_b := o9
  go_wp2_with fail
  refine (specCorrectAll_any _ _ _ l3 _ _ _ xs _ (o7.rd stV_len) (o8.rd coV_len) (by omega) HGl3.out HGxs.out).mono ?_
  rintro e w15 ⟨⟨A10, q10, c10, rfl, o10⟩, b15⟩
  have t15 := below_trans t14 b15
  have o7 := o7.below b15
  have o8 := o8.below b15
  have o9 := o9.below b15
  have o10_b := o10
  go_wp2_with fail
  refine (vTexts_same _ _ _ _ _ _ _ _ (o9.rd stV_len) (o10.rd stV_len)).mono ?_
  rintro e w16 ⟨rfl, b16⟩
  have t16 := below_trans t15 b16
  have o7 := o7.below b16
  have o8 := o8.below b16
  have o9 := o9.below b16
  have o10 := o10.below b16
  go_upto_if 168 with fail
  go_cut [24, 26] (fun s24 s26 wx => Below w.heap.size w wx)
  case first =>
    cases hto : allG l3 xs
    · clear hto
      go_wp2_with fail
      go_meet
      case rel => exact t16
    · obtain ⟨hs0, hal⟩ := all_start hto
      have HS := Lib.hid (And.intro hs0 hal)
      have HQ := Lib.hid (o8.rd coV_len)
      have HP := Lib.hid (o7.rd stV_len)
      have HA := Lib.hid (o9.rd stV_len)
      have hxl := o8.len
      have TT := Lib.hid t16
      clear hto hs0 hal
      go_wp2
      go_loopw [27, 28] (fun nv iv wr => ∃ (i : Nat) (B : Option Addr) (q d : Nat) (lc : List ByteArray), iv = .int .i64 i ∧ i ≤ q8 ∧ nv = .slice B q d ∧ q ≤ 1048576 ∧ Rd stV 1 wr B q d lc ∧ Below w16.heap.size w16 wr ∧ Hid (sheetB lc = true ∧ allC lc (xs.drop i) = some (allL l3 xs))) (fun _ iv _ => q8 - (intOf iv).toNat)
      case atStart => exact ⟨0, _, _, _, l3, rfl, Nat.zero_le _, rfl, by omega, HP.out, Below.refl _ _, HS.out⟩
      case round =>
        obtain ⟨i, B, q, d, lc, rfl, hi, rfl, hqm, hR, hbw, hS⟩ := hrel
        have hqi := hR.len
        have RR := Lib.hid hR
        clear hR
        by_cases hlt : i < q8
        · obtain ⟨bb, oo, x, hAe, hx, c0, c1, c2⟩ := (HQ.out.below hbw).co (i := i) hlt
          obtain ⟨g1, g2, g3⟩ := all_step hx hS.out.1 hS.out.2
          have HN := Lib.hid (And.intro g3 g2)
          have hxm := HGxs.out x (List.mem_of_getElem? hx)
          have HSZ := Lib.hid (sheet_sz hS.out.1)
          have hi0 : (0 : Int) ≤ (i : Int) := by omega
          have hin : (i : Int) < (q8 : Int) := by omega
          have tw := below_trans TT.out hbw
          subst hAe
          clear hx hS g2 g3
          go_wp2_with fail
          refine (implCorrectSheet_any B q d lc x mx _ RR.out hqm HSZ.out hxm.1 hxm.2 (cell_below tw HM.out)).mono ?_
          rintro e wn ⟨⟨B4, q4, d4, rfl, o4⟩, b4⟩
          rw [g1]
          have hq4 : q4 ≤ 1048576 := by rw [← o4.len]; exact Nat.le_trans (shL_len lc x) (by omega)
          have R4 := Lib.hid (o4.rd stV_len)
          clear o4 g1 RR
          go_wp2
          go_roundw
          case rel => exact ⟨i + 1, _, _, _, _, by go_num, by omega, rfl, hq4, R4.out, below_trans hbw b4, HN.out⟩
          case measure => first | (simp [intOf]; done) | (simp [intOf]; omega)
        · obtain rfl : i = q8 := by omega
          have hE : lc = allL l3 xs := by
            have h9 := hS.out.2
            rw [allC_end (by omega)] at h9
            injection h9
          subst hE
          clear hS
          go_wp2_with fail
          refine (vTexts_same _ _ _ _ _ _ _ _ RR.out (HA.out.below hbw)).mono ?_
          rintro e wn ⟨rfl, b5⟩
          go_wp2_with fail
          go_meet
          case rel => exact below_trans TT.out (below_trans hbw b5)
  case rest =>
  have t17 := hcut
  obtain ⟨w17, hwn⟩ : ∃ x : World, x = wc := ⟨_, rfl⟩
  subst hwn
  go_wp2_with fail
  refine (drawChanged_any _ _ _ l _ (ha.below t17) hb).mono ?_
  rintro e w18 ⟨⟨A11, q11, c11, l4, A12, q12, c12, ys, rfl, hq11, hq12, ⟨o11, hgl4⟩, ⟨o12, hgys⟩⟩, b18⟩
  have t18 := below_trans t17 b18
  have o11_b := o11
  have o12_b := o12
  have HGl4 := Lib.hid (t1M hgl4)
  have HGys := Lib.hid (show ∀ s ∈ ys, s.old.size ≤ 1048576 ∧ s.new.size ≤ 1048576 from fun s hs => co1M (hgys s hs))
  clear hgl4 hgys
  go_wp2_with fail
  refine (implChangedLines_any _ _ _ l4 _ _ _ ys mx _ (o11.rd stV_len) (o12.rd coV_len) (by omega) HGl4.out HGys.out (cell_below t18 HM.out)).mono ?_
  rintro e w19 ⟨⟨A13, q13, c13, rfl, o13⟩, b19⟩
  have t19 := below_trans t18 b19
  have o11 := o11.below b19
  have o12 := o12.below b19
  have o13_b := o13
  go_wp2_with fail
  refine (specChangedLines_any _ _ _ l4 _ _ _ ys _ (o11.rd stV_len) (o12.rd coV_len) (by omega) HGl4.out HGys.out).mono ?_
  rintro e w20 ⟨⟨A14, q14, c14, rfl, o14⟩, b20⟩
  have t20 := below_trans t19 b20
  have o11 := o11.below b20
  have o12 := o12.below b20
  have o13 := o13.below b20
  have o14_b := o14
  go_wp2_with fail
  refine (vInts_same _ _ _ _ _ _ _ _ (o13.rd inV_len) (o14.rd inV_len)).mono ?_
  rintro e w21 ⟨rfl, b21⟩
  have t21 := below_trans t20 b21
  have o11 := o11.below b21
  have o12 := o12.below b21
  have o13 := o13.below b21
  have o14 := o14.below b21
  go_wp2
  go_ret
  exact ⟨rfl, t21⟩

set_option maxRecDepth 100000 in
theorem lifted (os : Os) (started : os.Started) (H : Type) (enc : TypeId × Value → H) :
    ReturnsInHanded {} Try.checked os 3 .any (Rows.fnCorrectionsSpec.pre6 enc Try.prog Try.f3 Rows.fnCorrectionsRow.domain false) (Rows.fnCorrectionsSpec.post enc Try.prog Try.f3 false true false false) := by
  refine returnsInHanded_of_change_shaped (C := Try.checked) own started (by kernel_rfl) Try.func3
    (ChangeSpec.witness6 (enc := enc) (C := Try.checked) false ⟨#[], #[.slice none 0 0], []⟩ 8 (by kernel_rfl) (by kernel_rfl) (by kernel_rfl) (by kernel_rfl)) ?_
  intro W base args ds gs before hval0 hW hcnd _ hsh _
  have hval : ∀ (j : Nat) t v, Try.f3.params[j]? = some t → args[j]? = some v → Value.okWide Try.prog W .any base t v := hval0
  have hW' := hW
  obtain ⟨p, q, hA0, hV, rfl, hfz, hnd⟩ := hW
  have hA : DataW.TrodAll enc Try.prog W 0 (fun _ => true) true Try.f3.params.toList args.toList ds p := hA0
  rw [Try.params3] at hA hval
  obtain ⟨v0, vs0, d0, ds0, p0, q0, hargs, rfl, rfl, h0, r0⟩ := trodAll_cons hA
  obtain ⟨rfl, rfl, rfl⟩ := trodAll_nil r0
  obtain rfl : args = #[v0] := by cases args; simp_all
  obtain ⟨rfl, rfl⟩ := trodVars_none hV
  obtain ⟨A0, n0, c0, l0, rfl, R0, G0⟩ := open_rd (ec := byV) Try.underlying22 (by kernel_rfl) (read_bytes) (by omega) byV_len (hval 0 22 v0 rfl rfl) h0
  obtain ⟨mx, hM⟩ := Try.laysM143.s1_3 W (show W.ShapedOpen Try.prog from hsh)
  refine (walk A0 n0 c0 l0 mx W R0 G0 hM).mono fun e W' ⟨he, hb⟩ => ?_
  subst he
  exact ⟨_, rfl, law_post laidOut (by kernel_rfl) (by kernel_rfl) Try.underlying4 rfl hW' rfl rfl rfl hb⟩

theorem over : Rows.fnCorrectionsRow.holds Try.pinned (OpenSpec.ofChange Rows.fnCorrectionsSpec) :=
  OpenClaim.holds_of_wide 3 Try.f3 rfl rfl rfl rfl rfl rfl rfl ⟨rfl, rfl, rfl, rfl, rfl⟩ rfl rfl rfl rfl rfl (by kernel_rfl) Try.func3 (by kernel_rfl)
    (of_decide_eq_true (by kernel_rfl)) (by unfold Func.isWrapper; rw [if_neg (of_decide_eq_false (by kernel_rfl))]; exact ⟨rfl, rfl⟩)
    (fun os started H enc _ => lifted os started H enc)

theorem proved : Rows.FnCorrectionsSaid :=
  over
#print axioms proved
end Go.Proofs.Ytmahfkimeclcbaa.fnCorrections
