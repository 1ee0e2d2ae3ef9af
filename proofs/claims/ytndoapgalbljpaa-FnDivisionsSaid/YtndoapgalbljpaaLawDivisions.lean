/- FnDivisions: for every code of at most 65536 bytes: SeparateParts, JoinClauses, DearestClause and DependentsOf answer as the reference at what is drawn; no clause depends on one of another part, the parts hold every clause once, and joined clauses have the words of both. No condition.
-/
import Derived.Test.YtndoapgalbljpaaRead
import Derived.Test.YtndoapgalbljpaaByt
import Derived.Test.YtndoapgalbljpaaDivK
import Derived.Test.YtndoapgalbljpaaDivDB
import Derived.Test.YtndoapgalbljpaaPartL
import Derived.Test.YtndoapgalbljpaaTail
import Derived.Test.YtndoapgalbljpaaVee
import Derived.Deep.DeepCutAuto
namespace Go.Proofs.Ytndoapgalbljpaa.fnDivisions
open Go Go.ChangeShapes Go.WideShapes Go.ChangeAt Go.RowKit Go.Sort
open Go.ChangeMaps (open_string)
set_option linter.unusedVariables false

theorem own : ownKnob Try.prog.godebug = none := by kernel_rfl
theorem laidOut : laidOutB Try.prog = true := by kernel_rfl

set_option maxRecDepth 100000 in
set_option maxHeartbeats 16000000 in
theorem walk (A : Option Addr) (n c : Nat) (l : List Int) (w : World) (ha : Rd byV 1 w A n c l) (hb : ∀ x ∈ l, 0 ≤ x ∧ x ≤ 255) :
    Calls Try.prog 4 #[.slice A n c] w fun e w' => e = .returned (.bool true) ∧ Below w.heap.size w w' := by
  have hm := ha.le
  go_enter Try.func4, Try.ntmps4
  go_wp2_with fail
  refine (vBig_any _ _ _ _ hm).mono ?_
  rintro e wx ⟨rfl, rfl⟩
  by_cases hbig : (65536 : Int) < (n : Int)
  · go_wp2
    go_ret
    exact ⟨rfl, Below.refl _ _⟩
  go_wp2_with fail
  refine (drawSep_any _ _ _ l _ ha hb).mono ?_
  rintro e w1 ⟨⟨A1, q1, c1, hs1, l1, rfl, hq1, o1, hg1⟩, b1⟩
  have t1 := b1
  have SZl1 := Lib.hid (gc_sz hg1)
  clear hg1
  go_wp2_with fail
  refine (implSeparate_any _ _ _ _ l1 _ o1.rd SZl1.out).mono ?_
  rintro e w2 ⟨⟨A2, q2, c2, hs2, rfl, o2⟩, b2⟩
  have t2 := below_trans t1 b2
  have o1 := o1.below b2
  go_wp2_with fail
  refine (specSeparate_any _ _ _ _ l1 _ o1.rd SZl1.out).mono ?_
  rintro e w3 ⟨⟨A3, q3, c3, hs3, rfl, o3⟩, b3⟩
  have t3 := below_trans t2 b3
  have o1 := o1.below b3
  have o2 := o2.below b3
  go_wp2_with fail
  refine (vTable_same _ _ _ _ _ _ _ _ _ _ o2.rd o3.rd).mono ?_
  rintro e w4 ⟨rfl, b4⟩
  have t4 := below_trans t3 b4
  have o1 := o1.below b4
  have o2 := o2.below b4
  have o3 := o3.below b4
  have LX := Lib.hid o1.rd
  have PX := Lib.hid o2.rd
  have TT := Lib.hid t4
  have ha2 := Lib.hid (ha.below t4)
  have hqp : q2 ≤ 16 := by rw [← o2.len]; exact Nat.le_trans (sepL_len l1) (by rw [o1.len]; omega)
  clear o1 o2 o3
  go_wp2
  go_loopw [8, 9] (fun cv iv wr => ∃ i : Nat, i ≤ q2 ∧ iv = .int .i64 i ∧ cv = .int .i64 ((totI ((sepL l1).take i) : Nat) : Int) ∧ Below w4.heap.size w4 wr) (fun _ iv _ => q2 - (intOf iv).toNat)
  case atStart => exact ⟨0, Nat.zero_le _, rfl, rfl, Below.refl _ _⟩
  case round =>
    obtain ⟨i, hi, rfl, rfl, hbw⟩ := hrel
    have htot : totI ((sepL l1).take i) ≤ 64 := Nat.le_trans (totI_le _ _) (sepL_tot l1)
    by_cases hiq : i < q2
    · obtain ⟨bp, op, hd, p, hAp, hp, -, cp, xp⟩ := (PX.out.below hbw).at hiq
      obtain ⟨pA, pn, pc⟩ := hd
      replace xp : Rd inV 1 wr pA pn pc p := xp
      replace cp : wr.cell? ⟨bp, op + i, none⟩ = some (.slice pA pn pc) := cp
      have NX := Lib.hid (totI_next hp)
      have HPM := Lib.hid (List.mem_of_getElem? hp)
      have hpl : pn ≤ 64 := by rw [← xp.len]; have h1 := totI_mem hp; have h2 := sepL_tot l1; simp only [sizI] at h1; omega
      have HPL : Hid (sizI p = pn) := xp.len
      have XP := Lib.hid xp
      have hi0 : (0 : Int) ≤ (i : Int) := by omega
      have hi1 : (i : Int) < (q2 : Int) := by omega
      rw [hAp]
      have HAP := Lib.hid hAp
      clear hp xp hAp
      go_wp2
      obtain ⟨wo, hwo⟩ : ∃ wo : World, wo = wr := ⟨_, rfl⟩
      subst hwo
      go_loopw [10] (fun kv wr => ∃ k : Nat, k ≤ pn ∧ kv = .int .i64 k ∧ Below wo.heap.size wo wr) (fun kv _ => pn - (intOf kv).toNat)
      case atStart => exact ⟨0, Nat.zero_le _, rfl, Below.refl _ _⟩
      case round =>
        obtain ⟨k, hk, rfl, hbk⟩ := hrel
        have cp1 := cell_below hbk cp
        by_cases hkq : k < pn
        · obtain ⟨bx, ox, x, hAx, hx, cx⟩ := (XP.out.below hbk).in hkq
          obtain ⟨hok, hin⟩ := part_dep HPM.out (List.mem_of_getElem? hx)
          have HIN := Lib.hid hin
          have hk0 : (0 : Int) ≤ (k : Int) := by omega
          have hk1 : (k : Int) < (pn : Int) := by omega
          rw [hAx] at cp1
          have HAX := Lib.hid hAx
          clear hx hin hAx
          go_wp2_with fail
          refine (implDependents_any _ _ _ _ l1 x _ ((LX.out.below hbw).below hbk) SZl1.out).mono ?_
          rintro e wd ⟨⟨BD, qd, dd, rfl, od⟩, bd⟩
          rw [hok]
          have RD := Lib.hid (od.rd inV_len)
          have hqd : qd ≤ 16 := by rw [← od.len]; have h1 := depR_len l1 x; have h2 := LX.out.len; omega
          clear od
          go_wp2
          go_loopw [13] (fun jv wr => ∃ j : Nat, j ≤ qd ∧ jv = .int .i64 j ∧ Below wd.heap.size wd wr) (fun jv _ => qd - (intOf jv).toNat)
          case atStart => exact ⟨0, Nat.zero_le _, rfl, Below.refl _ _⟩
          case round =>
            obtain ⟨j, hj, rfl, hbj⟩ := hrel
            by_cases hjq : j < qd
            · obtain ⟨by_, oy, y, hAy, hy, cy⟩ := (RD.out.below hbj).in hjq
              have hyp : decide (y ∈ p) = true := decide_eq_true (HIN.out y (List.mem_of_getElem? hy))
              have cp2 := cell_below hbj (cell_below bd cp1)
              have XP2 : Rd inV 1 wr (some ⟨bx, ox, none⟩) pn pc p := by rw [← HAX.out]; exact ((XP.out.below hbk).below bd).below hbj
              have hj0 : (0 : Int) ≤ (j : Int) := by omega
              have hj1 : (j : Int) < (qd : Int) := by omega
              rw [hAy]
              have HAY := Lib.hid hAy
              have k0 := cell_regrown cp2
              have q0 := cell_regrown cy
              clear hy hAy
              go_wp2
              refine wp_region_quiet_below (by kernel_rfl) (by kernel_rfl) ?_
              repeat (go_big_quiet_step ((go_at_call 18; go_must (exact Calls.regrown_of (vHas_yes _ _ _ p y _ (XP2.below (below_regrown _ _ _)) (of_decide_eq_true hyp))))))
              refine wpQuiet_nil ?_
              intro _ hw'
              obtain ⟨⟨dq, osq⟩, hw''⟩ := hw'
              subst hw''
              go_wp2
              go_roundw
              case rel => exact ⟨j + 1, by omega, by go_num, below_grow hbj _ _⟩
              case measure => first | (simp [intOf]; done) | (simp [intOf]; omega)
            · go_wp2
              go_roundw
              case rel => exact ⟨k + 1, by omega, by go_num, below_trans hbk (below_trans bd hbj)⟩
              case measure => first | (simp [intOf]; done) | (simp [intOf]; omega)
        · obtain rfl : k = pn := by omega
          go_wp2
          go_roundw
          case rel => exact ⟨i + 1, by omega, by go_num, by rw [NX.out, HPL.out]; go_num, below_trans hbw hbk⟩
          case measure => first | (simp [intOf]; done) | (simp [intOf]; omega)
    · have TF := below_trans TT.out hbw
      have EC : Hid (clsB l1 = true → totI ((sepL l1).take i) = q1) := fun hv => by rw [List.take_of_length_le (by rw [PX.out.len]; omega), part_sum hv, LX.out.len]
      obtain ⟨w5, hwn⟩ : ∃ x : World, x = wr := ⟨_, rfl⟩
      subst hwn
      have t5 := TF
      cases hv : clsB l1
      · clear hv EC PX LX
        go_wp2_with fail
        refine (drawJoin_any _ _ _ l _ (ha.below t5) hb).mono ?_
        rintro e w6 ⟨⟨A4, q4, c4, hs4, l2, i2, rfl, hq4, o4, hg4⟩, b6⟩
        have t6 := below_trans t5 b6
        have SZl2 := Lib.hid (gc_sz hg4)
        clear hg4
        go_wp2_with fail
        refine (implJoin_any _ _ _ _ l2 i2 _ o4.rd SZl2.out).mono ?_
        rintro e w7 ⟨⟨A5, q5, c5, hs5, rfl, o5⟩, b7⟩
        have t7 := below_trans t6 b7
        have o4 := o4.below b7
        go_wp2_with fail
        refine (specJoin_any _ _ _ _ l2 i2 _ o4.rd SZl2.out).mono ?_
        rintro e w8 ⟨⟨A6, q6, c6, hs6, rfl, o6⟩, b8⟩
        have t8 := below_trans t7 b8
        have o4 := o4.below b8
        have o5 := o5.below b8
        go_wp2_with fail
        refine (vClauses_same _ _ _ _ _ _ _ _ _ _ o5.rd o6.rd).mono ?_
        rintro e w9 ⟨rfl, b9⟩
        have t9 := below_trans t8 b9
        have o4 := o4.below b9
        have o5 := o5.below b9
        have o6 := o6.below b9
        cases hj : joinG l2 i2
        · clear hj o4 o5 o6
          go_wp2_with fail
          refine (drawDear_any _ _ _ l _ (ha.below t9) hb).mono ?_
          rintro e w10 ⟨⟨A7, q7, c7, hs7, l4, rfl, hq7, o7, hg7⟩, b10⟩
          have t10 := below_trans t9 b10
          have SZl4 := Lib.hid (gc_sz hg7)
          clear hg7
          go_wp2_with fail
          refine (implDearest_any _ _ _ _ l4 _ o7.rd SZl4.out).mono ?_
          rintro e w11 ⟨rfl, b11⟩
          have t11 := below_trans t10 b11
          have o7 := o7.below b11
          go_wp2_with fail
          refine (specDearest_any _ _ _ _ l4 _ o7.rd SZl4.out).mono ?_
          rintro e w12 ⟨rfl, b12⟩
          have t12 := below_trans t11 b12
          have o7 := o7.below b12
          go_wp2_with fail
          refine (drawDep_any _ _ _ l _ (ha.below t12) hb).mono ?_
          rintro e w13 ⟨⟨A8, q8, c8, hs8, l5, i5, rfl, hq8, o8, hg8⟩, b13⟩
          have t13 := below_trans t12 b13
          have o7 := o7.below b13
          have SZl5 := Lib.hid (gc_sz hg8)
          clear hg8
          clear o7
          go_wp2_with fail
          refine (implDependents_any _ _ _ _ l5 i5 _ o8.rd SZl5.out).mono ?_
          rintro e w14 ⟨⟨A9, q9, c9, rfl, o9⟩, b14⟩
          have t14 := below_trans t13 b14
          have o8 := o8.below b14
          have o9_b := o9
          go_wp2_with fail
          refine (specDependents_any _ _ _ _ l5 i5 _ o8.rd SZl5.out).mono ?_
          rintro e w15 ⟨⟨A10, q10, c10, rfl, o10⟩, b15⟩
          have t15 := below_trans t14 b15
          have o8 := o8.below b15
          have o9 := o9.below b15
          have o10_b := o10
          go_wp2_with fail
          refine (vInts_same _ _ _ _ _ _ _ _ (o9.rd inV_len) (o10.rd inV_len)).mono ?_
          rintro e w16 ⟨rfl, b16⟩
          have t16 := below_trans t15 b16
          have o8 := o8.below b16
          have o9 := o9.below b16
          have o10 := o10.below b16
          go_wp2
          go_ret
          exact ⟨rfl, t16⟩
        · have JL := Lib.hid (join_law hj)
          have JC := Lib.hid (joinL_cls l2 i2)
          have SZY := Lib.hid (joinL_sz (i := i2) SZl2.out)
          have hqy : q5 + 1 = q4 := by rw [← o5.len, ← o4.len]; exact JL.out.1
          have hqe : ((q5 : Int) != (q4 : Int) - 1) = false := by simp; omega
          have LX2 : Hid (l2.length = q4) := Lib.hid o4.len
          have LY2 : Hid ((joinL l2 i2).length = q5) := Lib.hid o5.len
          have RX := Lib.hid o4.rd
          have RY := Lib.hid o5.rd
          have TJ := Lib.hid t9
          have e1 : Own boV 1 ((w9.alloc (.cells #[] 4)).alloc (.cells #[] 4)) w9.heap.size 4 (some ⟨w9.heap.size, 0, none⟩) 0 0 [] := Own.of_block (heap_old (heap_new rfl)) (Nat.le_refl _)
          have e2 : Own boV 1 ((w9.alloc (.cells #[] 4)).alloc (.cells #[] 4)) w9.heap.size 4 (some ⟨w9.heap.size + 1, 0, none⟩) 0 0 [] := Own.of_block (heap_new (by simp)) (by omega)
          have bb := below_alloc2 (w := w9) (.cells #[] 4) (.cells #[] 4)
          obtain ⟨i0, hii, hz0, hz1, hz2⟩ := info_parts Try.infobo
          clear hj o4 o5 o6
          go_wp2
          go_loopw [20, 22] (fun av kv wr => ∃ k : Nat, k ≤ q4 ∧ kv = .int .i64 k ∧ (∃ B d, av = .slice B k d ∧ Own boV 1 wr w9.heap.size 4 B k d (List.replicate k true) ∧ blockOf B ≠ some (w9.heap.size + 1)) ∧ Below w9.heap.size w9 wr ∧ Own boV 1 wr w9.heap.size 4 (some ⟨w9.heap.size + 1, 0, none⟩) 0 0 []) (fun _ kv _ => q4 - (intOf kv).toNat)
          case atStart => exact ⟨0, Nat.zero_le _, rfl, ⟨_, 0, rfl, e1, by simp [blockOf]⟩, bb, e2⟩
          case round =>
            clear e1 e2 bb
            obtain ⟨k, hk, rfl, ⟨B, d, rfl, ho, hne⟩, hbw, oz⟩ := hrel
            have HO := Lib.hid ho
            have OZ := Lib.hid oz
            have NE := Lib.hid hne
            clear ho oz hne
            by_cases hlt : k < q4
            · go_wp2_with (
                at_builtin
                refine wpList_push_at rfl _ _ _ rfl w9.heap.size 4 i0 (.bool false) 1 1 Try.underlying44 hii hz0 hz1 hz2 rfl (by omega) boV boV_len one_bool2 B k d _ rfl HO.out true _ rfl _ rfl (by first | rfl | simp) (by simp only [maxLen]; omega) (by omega) hbw.size ?_
                intro B4 d4 w4p o4 g4 hat4
                have OZ2 := Lib.hid (OZ.out.grown g4 (.inr (fun e => NE.out e.symm)))
                have NE2 := Lib.hid (hat4 (w9.heap.size + 1) (OZ.out.lt rfl).2 NE.out)
                have BB := Lib.hid (below_push hbw HO.out g4 (Nat.le_refl _))
                have O4 : Hid (Own boV 1 w4p w9.heap.size 4 B4 (k + 1) d4 (List.replicate (k + 1) true)) := by show Own _ _ _ _ _ _ _ _ _; rw [List.replicate_succ']; exact o4
                clear o4 g4 hat4)
              go_roundw
              case rel => exact ⟨k + 1, by omega, by go_num, ⟨B4, d4, rfl, O4.out, NE2.out⟩, BB.out, OZ2.out⟩
              case measure => first | (simp [intOf]; done) | (simp [intOf]; omega)
            · have OA : Hid (Own boV 1 wr w9.heap.size 4 B k d (List.replicate l2.length true)) := by show Own _ _ _ _ _ _ _ _ _; rw [LX2.out, ← (show k = q4 by omega)]; exact HO.out
              clear HO
              go_wp2
              go_loopw [21, 23] (fun bv jv wr => ∃ j : Nat, j ≤ q5 ∧ jv = .int .i64 j ∧ (∃ C g, bv = .slice C j g ∧ Own boV 1 wr w9.heap.size 4 C j g (List.replicate j true) ∧ (blockOf B = none ∨ blockOf B ≠ blockOf C)) ∧ Below w9.heap.size w9 wr ∧ Own boV 1 wr w9.heap.size 4 B k d (List.replicate l2.length true)) (fun _ jv _ => q5 - (intOf jv).toNat)
              case atStart => exact ⟨0, Nat.zero_le _, rfl, ⟨_, 0, rfl, OZ.out, .inr NE.out⟩, hbw, OA.out⟩
              case round =>
                clear OA OZ NE hbw
                obtain ⟨j, hj, rfl, ⟨C, g, rfl, hc, hne⟩, hbw, oa⟩ := hrel
                have HC := Lib.hid hc
                have OA := Lib.hid oa
                have NE := Lib.hid hne
                clear hc oa hne
                by_cases hlt2 : j < q5
                · go_wp2_with (
                    at_builtin
                    refine wpList_push_at rfl _ _ _ rfl w9.heap.size 4 i0 (.bool false) 1 1 Try.underlying44 hii hz0 hz1 hz2 rfl (by omega) boV boV_len one_bool2 C j g _ rfl HC.out true _ rfl _ rfl (by first | rfl | simp) (by simp only [maxLen]; omega) (by omega) hbw.size ?_
                    intro B4 d4 w4p o4 g4 hat4
                    have OA2 := Lib.hid (OA.out.grown g4 NE.out)
                    have NE2 := Lib.hid (apart_push NE.out (fun _ h => (OA.out.lt h).2) hat4)
                    have BB := Lib.hid (below_push hbw HC.out g4 (Nat.le_refl _))
                    have O4 : Hid (Own boV 1 w4p w9.heap.size 4 B4 (j + 1) d4 (List.replicate (j + 1) true)) := by show Own _ _ _ _ _ _ _ _ _; rw [List.replicate_succ']; exact o4
                    clear o4 g4 hat4)
                  go_roundw
                  case rel => exact ⟨j + 1, by omega, by go_num, ⟨B4, d4, rfl, O4.out, NE2.out⟩, BB.out, OA2.out⟩
                  case measure => first | (simp [intOf]; done) | (simp [intOf]; omega)
                · have OB : Hid (Own boV 1 wr w9.heap.size 4 C j g (List.replicate (joinL l2 i2).length true)) := by show Own _ _ _ _ _ _ _ _ _; rw [LY2.out, ← (show j = q5 by omega)]; exact HC.out
                  clear HC NE
                  go_wp2_with fail
                  refine (implDivided_any _ _ _ _ l2 _ _ _ (List.replicate l2.length true) _ (RX.out.below hbw) (OA.out.rd boV_len) SZl2.out).mono ?_
                  rintro e wd ⟨⟨AD, qd, dd, rfl, od⟩, bd⟩
                  go_wp2_with fail
                  refine (implDivided_any _ _ _ _ (joinL l2 i2) _ _ _ (List.replicate (joinL l2 i2).length true) _ (RY.out.below (below_trans hbw bd)) ((OB.out.below bd).rd boV_len) SZY.out).mono ?_
                  rintro e we ⟨⟨AE, qe, de, rfl, oe⟩, be⟩
                  rw [JL.out.2.1]
                  rw [JL.out.2.2] at oe
                  have OD := Lib.hid (od.below be)
                  have OE := Lib.hid oe
                  have B2 := Lib.hid (below_trans (below_trans hbw bd) be)
                  clear od oe hbw bd be OA OB
                  go_wp2_with fail
                  refine (vTexts_same _ _ _ _ _ _ _ _ (OD.out.rd stV_len) (OE.out.rd stV_len)).mono ?_
                  rintro e wf ⟨rfl, bf⟩
                  have B3 := Lib.hid (below_trans B2.out bf)
                  clear OD OE B2 bf
                  go_wp2_with fail
                  refine (AreClauses_any _ _ _ _ (joinL l2 i2) _ (RY.out.below B3.out) SZY.out).mono ?_
                  rintro e wg ⟨rfl, bg⟩
                  rw [JC.out]
                  have TG := below_trans TJ.out (below_trans B3.out bg)
                  obtain ⟨w10, hwn⟩ : ∃ x : World, x = wg := ⟨_, rfl⟩
                  subst hwn
                  have t10 := TG
                  go_wp2_with fail
                  refine (drawDear_any _ _ _ l _ (ha.below t10) hb).mono ?_
                  rintro e w11 ⟨⟨A7, q7, c7, hs7, l4, rfl, hq7, o7, hg7⟩, b11⟩
                  have t11 := below_trans t10 b11
                  have SZl4 := Lib.hid (gc_sz hg7)
                  clear hg7
                  go_wp2_with fail
                  refine (implDearest_any _ _ _ _ l4 _ o7.rd SZl4.out).mono ?_
                  rintro e w12 ⟨rfl, b12⟩
                  have t12 := below_trans t11 b12
                  have o7 := o7.below b12
                  go_wp2_with fail
                  refine (specDearest_any _ _ _ _ l4 _ o7.rd SZl4.out).mono ?_
                  rintro e w13 ⟨rfl, b13⟩
                  have t13 := below_trans t12 b13
                  have o7 := o7.below b13
                  go_wp2_with fail
                  refine (drawDep_any _ _ _ l _ (ha.below t13) hb).mono ?_
                  rintro e w14 ⟨⟨A8, q8, c8, hs8, l5, i5, rfl, hq8, o8, hg8⟩, b14⟩
                  have t14 := below_trans t13 b14
                  have o7 := o7.below b14
                  have SZl5 := Lib.hid (gc_sz hg8)
                  clear hg8
                  clear o7
                  go_wp2_with fail
                  refine (implDependents_any _ _ _ _ l5 i5 _ o8.rd SZl5.out).mono ?_
                  rintro e w15 ⟨⟨A9, q9, c9, rfl, o9⟩, b15⟩
                  have t15 := below_trans t14 b15
                  have o8 := o8.below b15
                  have o9_b := o9
                  go_wp2_with fail
                  refine (specDependents_any _ _ _ _ l5 i5 _ o8.rd SZl5.out).mono ?_
                  rintro e w16 ⟨⟨A10, q10, c10, rfl, o10⟩, b16⟩
                  have t16 := below_trans t15 b16
                  have o8 := o8.below b16
                  have o9 := o9.below b16
                  have o10_b := o10
                  go_wp2_with fail
                  refine (vInts_same _ _ _ _ _ _ _ _ (o9.rd inV_len) (o10.rd inV_len)).mono ?_
                  rintro e w17 ⟨rfl, b17⟩
                  have t17 := below_trans t16 b17
                  have o8 := o8.below b17
                  have o9 := o9.below b17
                  have o10 := o10.below b17
                  go_wp2
                  go_ret
                  exact ⟨rfl, t17⟩
      · rw [EC.out hv]
        clear hv EC PX LX
        go_wp2_with fail
        refine (drawJoin_any _ _ _ l _ (ha.below t5) hb).mono ?_
        rintro e w6 ⟨⟨A4, q4, c4, hs4, l2, i2, rfl, hq4, o4, hg4⟩, b6⟩
        have t6 := below_trans t5 b6
        have SZl2 := Lib.hid (gc_sz hg4)
        clear hg4
        go_wp2_with fail
        refine (implJoin_any _ _ _ _ l2 i2 _ o4.rd SZl2.out).mono ?_
        rintro e w7 ⟨⟨A5, q5, c5, hs5, rfl, o5⟩, b7⟩
        have t7 := below_trans t6 b7
        have o4 := o4.below b7
        go_wp2_with fail
        refine (specJoin_any _ _ _ _ l2 i2 _ o4.rd SZl2.out).mono ?_
        rintro e w8 ⟨⟨A6, q6, c6, hs6, rfl, o6⟩, b8⟩
        have t8 := below_trans t7 b8
        have o4 := o4.below b8
        have o5 := o5.below b8
        go_wp2_with fail
        refine (vClauses_same _ _ _ _ _ _ _ _ _ _ o5.rd o6.rd).mono ?_
        rintro e w9 ⟨rfl, b9⟩
        have t9 := below_trans t8 b9
        have o4 := o4.below b9
        have o5 := o5.below b9
        have o6 := o6.below b9
        cases hj : joinG l2 i2
        · clear hj o4 o5 o6
          go_wp2_with fail
          refine (drawDear_any _ _ _ l _ (ha.below t9) hb).mono ?_
          rintro e w10 ⟨⟨A7, q7, c7, hs7, l4, rfl, hq7, o7, hg7⟩, b10⟩
          have t10 := below_trans t9 b10
          have SZl4 := Lib.hid (gc_sz hg7)
          clear hg7
          go_wp2_with fail
          refine (implDearest_any _ _ _ _ l4 _ o7.rd SZl4.out).mono ?_
          rintro e w11 ⟨rfl, b11⟩
          have t11 := below_trans t10 b11
          have o7 := o7.below b11
          go_wp2_with fail
          refine (specDearest_any _ _ _ _ l4 _ o7.rd SZl4.out).mono ?_
          rintro e w12 ⟨rfl, b12⟩
          have t12 := below_trans t11 b12
          have o7 := o7.below b12
          go_wp2_with fail
          refine (drawDep_any _ _ _ l _ (ha.below t12) hb).mono ?_
          rintro e w13 ⟨⟨A8, q8, c8, hs8, l5, i5, rfl, hq8, o8, hg8⟩, b13⟩
          have t13 := below_trans t12 b13
          have o7 := o7.below b13
          have SZl5 := Lib.hid (gc_sz hg8)
          clear hg8
          clear o7
          go_wp2_with fail
          refine (implDependents_any _ _ _ _ l5 i5 _ o8.rd SZl5.out).mono ?_
          rintro e w14 ⟨⟨A9, q9, c9, rfl, o9⟩, b14⟩
          have t14 := below_trans t13 b14
          have o8 := o8.below b14
          have o9_b := o9
          go_wp2_with fail
          refine (specDependents_any _ _ _ _ l5 i5 _ o8.rd SZl5.out).mono ?_
          rintro e w15 ⟨⟨A10, q10, c10, rfl, o10⟩, b15⟩
          have t15 := below_trans t14 b15
          have o8 := o8.below b15
          have o9 := o9.below b15
          have o10_b := o10
          go_wp2_with fail
          refine (vInts_same _ _ _ _ _ _ _ _ (o9.rd inV_len) (o10.rd inV_len)).mono ?_
          rintro e w16 ⟨rfl, b16⟩
          have t16 := below_trans t15 b16
          have o8 := o8.below b16
          have o9 := o9.below b16
          have o10 := o10.below b16
          go_wp2
          go_ret
          exact ⟨rfl, t16⟩
        · have JL := Lib.hid (join_law hj)
          have JC := Lib.hid (joinL_cls l2 i2)
          have SZY := Lib.hid (joinL_sz (i := i2) SZl2.out)
          have hqy : q5 + 1 = q4 := by rw [← o5.len, ← o4.len]; exact JL.out.1
          have hqe : ((q5 : Int) != (q4 : Int) - 1) = false := by simp; omega
          have LX2 : Hid (l2.length = q4) := Lib.hid o4.len
          have LY2 : Hid ((joinL l2 i2).length = q5) := Lib.hid o5.len
          have RX := Lib.hid o4.rd
          have RY := Lib.hid o5.rd
          have TJ := Lib.hid t9
          have e1 : Own boV 1 ((w9.alloc (.cells #[] 4)).alloc (.cells #[] 4)) w9.heap.size 4 (some ⟨w9.heap.size, 0, none⟩) 0 0 [] := Own.of_block (heap_old (heap_new rfl)) (Nat.le_refl _)
          have e2 : Own boV 1 ((w9.alloc (.cells #[] 4)).alloc (.cells #[] 4)) w9.heap.size 4 (some ⟨w9.heap.size + 1, 0, none⟩) 0 0 [] := Own.of_block (heap_new (by simp)) (by omega)
          have bb := below_alloc2 (w := w9) (.cells #[] 4) (.cells #[] 4)
          obtain ⟨i0, hii, hz0, hz1, hz2⟩ := info_parts Try.infobo
          clear hj o4 o5 o6
          go_wp2
          go_loopw [20, 22] (fun av kv wr => ∃ k : Nat, k ≤ q4 ∧ kv = .int .i64 k ∧ (∃ B d, av = .slice B k d ∧ Own boV 1 wr w9.heap.size 4 B k d (List.replicate k true) ∧ blockOf B ≠ some (w9.heap.size + 1)) ∧ Below w9.heap.size w9 wr ∧ Own boV 1 wr w9.heap.size 4 (some ⟨w9.heap.size + 1, 0, none⟩) 0 0 []) (fun _ kv _ => q4 - (intOf kv).toNat)
          case atStart => exact ⟨0, Nat.zero_le _, rfl, ⟨_, 0, rfl, e1, by simp [blockOf]⟩, bb, e2⟩
          case round =>
            clear e1 e2 bb
            obtain ⟨k, hk, rfl, ⟨B, d, rfl, ho, hne⟩, hbw, oz⟩ := hrel
            have HO := Lib.hid ho
            have OZ := Lib.hid oz
            have NE := Lib.hid hne
            clear ho oz hne
            by_cases hlt : k < q4
            · go_wp2_with (
                at_builtin
                refine wpList_push_at rfl _ _ _ rfl w9.heap.size 4 i0 (.bool false) 1 1 Try.underlying44 hii hz0 hz1 hz2 rfl (by omega) boV boV_len one_bool2 B k d _ rfl HO.out true _ rfl _ rfl (by first | rfl | simp) (by simp only [maxLen]; omega) (by omega) hbw.size ?_
                intro B4 d4 w4p o4 g4 hat4
                have OZ2 := Lib.hid (OZ.out.grown g4 (.inr (fun e => NE.out e.symm)))
                have NE2 := Lib.hid (hat4 (w9.heap.size + 1) (OZ.out.lt rfl).2 NE.out)
                have BB := Lib.hid (below_push hbw HO.out g4 (Nat.le_refl _))
                have O4 : Hid (Own boV 1 w4p w9.heap.size 4 B4 (k + 1) d4 (List.replicate (k + 1) true)) := by show Own _ _ _ _ _ _ _ _ _; rw [List.replicate_succ']; exact o4
                clear o4 g4 hat4)
              go_roundw
              case rel => exact ⟨k + 1, by omega, by go_num, ⟨B4, d4, rfl, O4.out, NE2.out⟩, BB.out, OZ2.out⟩
              case measure => first | (simp [intOf]; done) | (simp [intOf]; omega)
            · have OA : Hid (Own boV 1 wr w9.heap.size 4 B k d (List.replicate l2.length true)) := by show Own _ _ _ _ _ _ _ _ _; rw [LX2.out, ← (show k = q4 by omega)]; exact HO.out
              clear HO
              go_wp2
              go_loopw [21, 23] (fun bv jv wr => ∃ j : Nat, j ≤ q5 ∧ jv = .int .i64 j ∧ (∃ C g, bv = .slice C j g ∧ Own boV 1 wr w9.heap.size 4 C j g (List.replicate j true) ∧ (blockOf B = none ∨ blockOf B ≠ blockOf C)) ∧ Below w9.heap.size w9 wr ∧ Own boV 1 wr w9.heap.size 4 B k d (List.replicate l2.length true)) (fun _ jv _ => q5 - (intOf jv).toNat)
              case atStart => exact ⟨0, Nat.zero_le _, rfl, ⟨_, 0, rfl, OZ.out, .inr NE.out⟩, hbw, OA.out⟩
              case round =>
                clear OA OZ NE hbw
                obtain ⟨j, hj, rfl, ⟨C, g, rfl, hc, hne⟩, hbw, oa⟩ := hrel
                have HC := Lib.hid hc
                have OA := Lib.hid oa
                have NE := Lib.hid hne
                clear hc oa hne
                by_cases hlt2 : j < q5
                · go_wp2_with (
                    at_builtin
                    refine wpList_push_at rfl _ _ _ rfl w9.heap.size 4 i0 (.bool false) 1 1 Try.underlying44 hii hz0 hz1 hz2 rfl (by omega) boV boV_len one_bool2 C j g _ rfl HC.out true _ rfl _ rfl (by first | rfl | simp) (by simp only [maxLen]; omega) (by omega) hbw.size ?_
                    intro B4 d4 w4p o4 g4 hat4
                    have OA2 := Lib.hid (OA.out.grown g4 NE.out)
                    have NE2 := Lib.hid (apart_push NE.out (fun _ h => (OA.out.lt h).2) hat4)
                    have BB := Lib.hid (below_push hbw HC.out g4 (Nat.le_refl _))
                    have O4 : Hid (Own boV 1 w4p w9.heap.size 4 B4 (j + 1) d4 (List.replicate (j + 1) true)) := by show Own _ _ _ _ _ _ _ _ _; rw [List.replicate_succ']; exact o4
                    clear o4 g4 hat4)
                  go_roundw
                  case rel => exact ⟨j + 1, by omega, by go_num, ⟨B4, d4, rfl, O4.out, NE2.out⟩, BB.out, OA2.out⟩
                  case measure => first | (simp [intOf]; done) | (simp [intOf]; omega)
                · have OB : Hid (Own boV 1 wr w9.heap.size 4 C j g (List.replicate (joinL l2 i2).length true)) := by show Own _ _ _ _ _ _ _ _ _; rw [LY2.out, ← (show j = q5 by omega)]; exact HC.out
                  clear HC NE
                  go_wp2_with fail
                  refine (implDivided_any _ _ _ _ l2 _ _ _ (List.replicate l2.length true) _ (RX.out.below hbw) (OA.out.rd boV_len) SZl2.out).mono ?_
                  rintro e wd ⟨⟨AD, qd, dd, rfl, od⟩, bd⟩
                  go_wp2_with fail
                  refine (implDivided_any _ _ _ _ (joinL l2 i2) _ _ _ (List.replicate (joinL l2 i2).length true) _ (RY.out.below (below_trans hbw bd)) ((OB.out.below bd).rd boV_len) SZY.out).mono ?_
                  rintro e we ⟨⟨AE, qe, de, rfl, oe⟩, be⟩
                  rw [JL.out.2.1]
                  rw [JL.out.2.2] at oe
                  have OD := Lib.hid (od.below be)
                  have OE := Lib.hid oe
                  have B2 := Lib.hid (below_trans (below_trans hbw bd) be)
                  clear od oe hbw bd be OA OB
                  go_wp2_with fail
                  refine (vTexts_same _ _ _ _ _ _ _ _ (OD.out.rd stV_len) (OE.out.rd stV_len)).mono ?_
                  rintro e wf ⟨rfl, bf⟩
                  have B3 := Lib.hid (below_trans B2.out bf)
                  clear OD OE B2 bf
                  go_wp2_with fail
                  refine (AreClauses_any _ _ _ _ (joinL l2 i2) _ (RY.out.below B3.out) SZY.out).mono ?_
                  rintro e wg ⟨rfl, bg⟩
                  rw [JC.out]
                  have TG := below_trans TJ.out (below_trans B3.out bg)
                  obtain ⟨w10, hwn⟩ : ∃ x : World, x = wg := ⟨_, rfl⟩
                  subst hwn
                  have t10 := TG
                  go_wp2_with fail
                  refine (drawDear_any _ _ _ l _ (ha.below t10) hb).mono ?_
                  rintro e w11 ⟨⟨A7, q7, c7, hs7, l4, rfl, hq7, o7, hg7⟩, b11⟩
                  have t11 := below_trans t10 b11
                  have SZl4 := Lib.hid (gc_sz hg7)
                  clear hg7
                  go_wp2_with fail
                  refine (implDearest_any _ _ _ _ l4 _ o7.rd SZl4.out).mono ?_
                  rintro e w12 ⟨rfl, b12⟩
                  have t12 := below_trans t11 b12
                  have o7 := o7.below b12
                  go_wp2_with fail
                  refine (specDearest_any _ _ _ _ l4 _ o7.rd SZl4.out).mono ?_
                  rintro e w13 ⟨rfl, b13⟩
                  have t13 := below_trans t12 b13
                  have o7 := o7.below b13
                  go_wp2_with fail
                  refine (drawDep_any _ _ _ l _ (ha.below t13) hb).mono ?_
                  rintro e w14 ⟨⟨A8, q8, c8, hs8, l5, i5, rfl, hq8, o8, hg8⟩, b14⟩
                  have t14 := below_trans t13 b14
                  have o7 := o7.below b14
                  have SZl5 := Lib.hid (gc_sz hg8)
                  clear hg8
                  clear o7
                  go_wp2_with fail
                  refine (implDependents_any _ _ _ _ l5 i5 _ o8.rd SZl5.out).mono ?_
                  rintro e w15 ⟨⟨A9, q9, c9, rfl, o9⟩, b15⟩
                  have t15 := below_trans t14 b15
                  have o8 := o8.below b15
                  have o9_b := o9
                  go_wp2_with fail
                  refine (specDependents_any _ _ _ _ l5 i5 _ o8.rd SZl5.out).mono ?_
                  rintro e w16 ⟨⟨A10, q10, c10, rfl, o10⟩, b16⟩
                  have t16 := below_trans t15 b16
                  have o8 := o8.below b16
                  have o9 := o9.below b16
                  have o10_b := o10
                  go_wp2_with fail
                  refine (vInts_same _ _ _ _ _ _ _ _ (o9.rd inV_len) (o10.rd inV_len)).mono ?_
                  rintro e w17 ⟨rfl, b17⟩
                  have t17 := below_trans t16 b17
                  have o8 := o8.below b17
                  have o9 := o9.below b17
                  have o10 := o10.below b17
                  go_wp2
                  go_ret
                  exact ⟨rfl, t17⟩

set_option maxRecDepth 100000 in
theorem lifted (os : Os) (started : os.Started) (H : Type) (enc : TypeId × Value → H) :
    ReturnsInHanded {} Try.checked os 4 .any (Rows.fnDivisionsSpec.pre6 enc Try.prog Try.f4 Rows.fnDivisionsRow.domain false) (Rows.fnDivisionsSpec.post enc Try.prog Try.f4 false true false false) := by
  refine returnsInHanded_of_change (C := Try.checked) own started (by kernel_rfl) Try.func4
    (ChangeSpec.witness6 (enc := enc) (C := Try.checked) false ⟨#[], #[.slice none 0 0], []⟩ 8 (by kernel_rfl) (by kernel_rfl) (by kernel_rfl) (by kernel_rfl)) ?_
  intro W base args ds gs before hval0 hW hcnd _
  have hval : ∀ (j : Nat) t v, Try.f4.params[j]? = some t → args[j]? = some v → Value.okWide Try.prog W .any base t v := hval0
  have hW' := hW
  obtain ⟨p, q, hA0, hV, rfl, hfz, hnd⟩ := hW
  have hA : DataW.TrodAll enc Try.prog W 0 (fun _ => true) true Try.f4.params.toList args.toList ds p := hA0
  rw [Try.params4] at hA hval
  obtain ⟨v0, vs0, d0, ds0, p0, q0, hargs, rfl, rfl, h0, r0⟩ := trodAll_cons hA
  obtain ⟨rfl, rfl, rfl⟩ := trodAll_nil r0
  obtain rfl : args = #[v0] := by cases args; simp_all
  obtain ⟨rfl, rfl⟩ := trodVars_none hV
  obtain ⟨A0, n0, c0, l0, rfl, R0, G0⟩ := open_rd (ec := byV) Try.underlying31 (by kernel_rfl) (read_bytes) (by omega) byV_len (hval 0 31 v0 rfl rfl) h0
  refine (walk A0 n0 c0 l0 W R0 G0).mono fun e W' ⟨he, hb⟩ => ?_
  subst he
  exact ⟨_, rfl, law_post laidOut (by kernel_rfl) (by kernel_rfl) Try.underlying4 rfl hW' rfl rfl rfl hb⟩

theorem over : Rows.fnDivisionsRow.holds Try.pinned (OpenSpec.ofChange Rows.fnDivisionsSpec) :=
  OpenClaim.holds_of_wide 4 Try.f4 rfl rfl rfl rfl rfl rfl rfl ⟨rfl, rfl, rfl, rfl, rfl⟩ rfl rfl rfl rfl rfl (by kernel_rfl) Try.func4 (by kernel_rfl)
    (of_decide_eq_true (by kernel_rfl)) (by unfold Func.isWrapper; rw [if_neg (of_decide_eq_false (by kernel_rfl))]; exact ⟨rfl, rfl⟩)
    (fun os started H enc _ => lifted os started H enc)

theorem proved : Rows.FnDivisionsSaid :=
  over
#print axioms proved
end Go.Proofs.Ytndoapgalbljpaa.fnDivisions
