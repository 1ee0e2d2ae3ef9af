/- FnMinuteMotions: for every code of at most 65536 bytes: IsComplete, OpenMotions, AdoptedMotions and EntriesOf answer as the reference at what is drawn; complete minutes have two entries of the chair at their ends, and no motion is open that was voted on last. No condition.
-/
import Derived.Test.YtflmokdeekjjiaaRead
import Derived.Test.YtflmokdeekjjiaaByt
import Derived.Test.YtflmokdeekjjiaaMinF
import Derived.Test.YtflmokdeekjjiaaMinM
import Derived.Test.YtflmokdeekjjiaaVee
namespace Go.Proofs.Ytflmokdeekjjiaa.fnMinuteMotions
open Go Go.ChangeShapes Go.WideShapes Go.ChangeAt Go.RowKit Go.Sort
open Go.ChangeMaps (open_string)
set_option linter.unusedVariables false

theorem own : ownKnob Try.prog.godebug = none := by kernel_rfl
theorem laidOut : laidOutB Try.prog = true := by kernel_rfl

set_option maxRecDepth 100000 in
set_option maxHeartbeats 8000000 in
theorem walk (A : Option Addr) (n c : Nat) (l : List Int) (w : World) (ha : Rd byV 1 w A n c l) (hb : ∀ x ∈ l, 0 ≤ x ∧ x ≤ 255) :
    Calls Try.prog 8 #[.slice A n c] w fun e w' => e = .returned (.bool true) ∧ Below w.heap.size w w' := by
  have hm := ha.le
  go_enter Try.func8, Try.ntmps8
  go_wp2_with fail
  refine (vBig_any _ _ _ _ hm).mono ?_
  rintro e wx ⟨rfl, rfl⟩
  by_cases hbig : (65536 : Int) < (n : Int)
  · go_wp2
    go_ret
    exact ⟨rfl, Below.refl _ _⟩
  go_wp2_with fail
  refine (drawComplete_any _ _ _ l _ ha hb).mono ?_
  rintro e w1 ⟨⟨A1, q1, c1, lp, rfl, hq1, ⟨o1, hgs1⟩⟩, b1⟩
  have t1 := b1
  have o1_b := o1
  have hsz : ∀ x ∈ lp, EnSz x := fun x hx => ens_sz (hgs1 x hx)
  go_wp2_with fail
  refine (implComplete_any _ _ _ _ _ (o1.rd enV_len) hsz).mono ?_
  rintro e w2 ⟨rfl, b2⟩
  have t2 := below_trans t1 b2
  have o1 := o1.below b2
  go_wp2_with fail
  refine (specComplete_any _ _ _ _ _ (o1.rd enV_len) hsz).mono ?_
  rintro e w3 ⟨rfl, b3⟩
  have t3 := below_trans t2 b3
  have o1 := o1.below b3
  cases hok : compB lp
  · clear hok
    go_wp2_with fail
    refine (implOpen_any _ _ _ _ _ (o1.rd enV_len) hsz).mono ?_
    rintro e w4 ⟨⟨A2, q2, c2, rfl, o2⟩, b4⟩
    have t4 := below_trans t3 b4
    have o1 := o1.below b4
    have o2_b := o2
    go_wp2_with fail
    refine (implAdopted_any _ _ _ _ _ (o1.rd enV_len) hsz).mono ?_
    rintro e w5 ⟨⟨A3, q3, c3, rfl, o3⟩, b5⟩
    have t5 := below_trans t4 b5
    have o1 := o1.below b5
    have o2 := o2.below b5
    have o3_b := o3
    go_wp2_with fail
    refine (specOpen_any _ _ _ _ _ (o1.rd enV_len) hsz).mono ?_
    rintro e w6 ⟨⟨A4, q4, c4, rfl, o4⟩, b6⟩
    have t6 := below_trans t5 b6
    have o1 := o1.below b6
    have o2 := o2.below b6
    have o3 := o3.below b6
    have o4_b := o4
    go_wp2_with fail
    refine (vTexts_same _ _ _ _ _ _ _ _ (o2.rd stV_len) (o4.rd stV_len)).mono ?_
    rintro e w7 ⟨rfl, b7⟩
    have t7 := below_trans t6 b7
    have o1 := o1.below b7
    have o2 := o2.below b7
    have o3 := o3.below b7
    have o4 := o4.below b7
    go_wp2_with fail
    refine (specAdopted_any _ _ _ _ _ (o1.rd enV_len) hsz).mono ?_
    rintro e w8 ⟨⟨A5, q5, c5, rfl, o5⟩, b8⟩
    have t8 := below_trans t7 b8
    have o1 := o1.below b8
    have o2 := o2.below b8
    have o3 := o3.below b8
    have o4 := o4.below b8
    have o5_b := o5
    go_wp2_with fail
    refine (vTexts_same _ _ _ _ _ _ _ _ (o3.rd stV_len) (o5.rd stV_len)).mono ?_
    rintro e w9 ⟨rfl, b9⟩
    have t9 := below_trans t8 b9
    have o1 := o1.below b9
    have o2 := o2.below b9
    have o3 := o3.below b9
    have o4 := o4.below b9
    have o5 := o5.below b9
    have hqo : q2 ≤ q1 := by rw [← o2.len, ← o1.len]; exact opL_len lp
    go_wp2
    have HO := Lib.hid o2
    have HLs := Lib.hid o1
    go_loopw [18] (fun iv wr => ∃ i : Nat, i ≤ q2 ∧ iv = .int .i64 i ∧ Below w9.heap.size w9 wr) (fun iv _ => q2 - (intOf iv).toNat)
    case atStart => exact ⟨0, Nat.zero_le _, rfl, Below.refl _ _⟩
    case round =>
      obtain ⟨i, hi, rfl, hbw⟩ := hrel
      by_cases hiq : i < q2
      · obtain ⟨bm, om, mm, hAm, hmm, dm⟩ := ((HO.out.below hbw).rd stV_len).st hiq
        have MM := Lib.hid (open_last (List.mem_of_getElem? hmm))
        have HMM := Lib.hid hmm
        clear hmm dm hAm
        go_wp2
        go_loopw [19, 20] (fun lv kv wr => ∃ k : Nat, k ≤ q1 ∧ kv = .int .i64 k ∧ lv = .int .i64 (lastK lp mm k) ∧ Below w9.heap.size w9 wr) (fun _ kv _ => q1 - (intOf kv).toNat)
        case atStart => exact ⟨0, Nat.zero_le _, rfl, rfl, hbw⟩
        case round =>
          clear hbw
          obtain ⟨k, hk, rfl, rfl, hbw⟩ := hrel
          by_cases hkn : k < q1
          · obtain ⟨be, oe, y, hAe, hy, c0, c1, c2, c3, c4, c5, c6⟩ := ((HLs.out.below hbw).rd enV_len).en (i := k) hkn
            obtain ⟨bm, om, m', hAm, hmm', dm⟩ := ((HO.out.below hbw).rd stV_len).st hiq
            obtain rfl : mm = m' := by have h5 := HMM.out; rw [hmm'] at h5; injection h5 with h5; exact h5.symm
            have HAe := Lib.hid hAe
            have HAm := Lib.hid hAm
            rw [hAe, hAm]
            have YES := Lib.hid (fun h => lastK_yes (m := mm) hy h)
            have NO := Lib.hid (fun h => lastK_no (m := mm) hy h)
            have hi0 : (0 : Int) ≤ (i : Int) := by omega
            have hiq' : (i : Int) < (q2 : Int) := by omega
            have hk0 : (0 : Int) ≤ (k : Int) := by omega
            have hkn' : (k : Int) < (q1 : Int) := by omega
            clear hy hmm' hAe hAm
            cases h1' : (y.mo.toList == mm.toList)
            · have h1 := Lib.hid h1'
              have E := Lib.hid (NO.out (by simp [hit, h1']))
              rw [← E.out]
              go_wp2_with fail
              go_quiet (fail)
              go_wp2
              go_roundw
              case rel => exact ⟨k + 1, by omega, by go_num, rfl, below_trans hbw ⟨rfl, rfl, rfl, Nat.le_refl _, fun i _ => rfl⟩⟩
              case measure => first | (simp [intOf]; done) | (simp [intOf]; omega)
            · have h1 := Lib.hid h1'
              by_cases h2' : y.kind = 2
              · have E := Lib.hid (YES.out (by simp [hit, h1', h2']))
                rw [h2'] at E
                have c0' := c0
                rw [h2'] at c0'
                clear c0 h2'
                go_wp2_with fail
                go_quiet (fail)
                go_wp2
                go_roundw
                case rel => exact ⟨k + 1, by omega, by go_num, by rw [E.out], below_trans hbw ⟨rfl, rfl, rfl, Nat.le_refl _, fun i _ => rfl⟩⟩
                case measure => first | (simp [intOf]; done) | (simp [intOf]; omega)
              · have e2 : (y.kind == 2) = false := by simpa using h2'
                by_cases h4' : y.kind = 4
                · have E := Lib.hid (YES.out (by simp [hit, h1', h4']))
                  rw [h4'] at E
                  have c0' := c0
                  rw [h4'] at c0'
                  clear c0 h4' h2' e2
                  go_wp2_with fail
                  go_quiet (fail)
                  go_wp2
                  go_roundw
                  case rel => exact ⟨k + 1, by omega, by go_num, by rw [E.out], below_trans hbw ⟨rfl, rfl, rfl, Nat.le_refl _, fun i _ => rfl⟩⟩
                  case measure => first | (simp [intOf]; done) | (simp [intOf]; omega)
                · have e4 : (y.kind == 4) = false := by simpa using h4'
                  have E := Lib.hid (NO.out (by simp [hit, h2', h4']))
                  rw [← E.out]
                  clear h2' h4'
                  go_wp2_with fail
                  go_quiet (fail)
                  go_wp2
                  go_roundw
                  case rel => exact ⟨k + 1, by omega, by go_num, rfl, below_trans hbw ⟨rfl, rfl, rfl, Nat.le_refl _, fun i _ => rfl⟩⟩
                  case measure => first | (simp [intOf]; done) | (simp [intOf]; omega)
          · obtain rfl : k = q1 := by omega
            have E := Lib.hid MM.out
            have HN := Lib.hid (show lp.length = k from HLs.out.len)
            rw [HN.out] at E
            rw [E.out]
            go_wp2
            go_roundw
            case rel => exact ⟨i + 1, by omega, by go_num, hbw⟩
            case measure => first | (simp [intOf]; done) | (simp [intOf]; omega)
      · skip
        obtain ⟨w10, hwn⟩ : ∃ wn : World, wn = wr := ⟨_, rfl⟩
        subst hwn
        have t10 := below_trans t9 hbw
        go_wp2_with fail
        refine (drawEntries_any _ _ _ l _ (ha.below t10) hb).mono ?_
        rintro e w11 ⟨⟨A6, q6, c6, lz, who, rfl, hqz, hwho, ⟨o6, hgs2⟩⟩, b11⟩
        have t11 := below_trans t10 b11
        have o6_b := o6
        have hsz2 : ∀ x ∈ lz, EnSz x := fun x hx => ens_sz (hgs2 x hx)
        have hwm : who.size ≤ maxLen := Nat.le_trans hwho (by simp [maxLen])
        go_wp2_with fail
        refine (implEntriesOf_any _ _ _ _ who _ (o6.rd enV_len) hsz2 hwm).mono ?_
        rintro e w12 ⟨⟨A7, q7, c7, rfl, o7⟩, b12⟩
        have t12 := below_trans t11 b12
        have o6 := o6.below b12
        have o7_b := o7
        go_wp2_with fail
        refine (specEntriesOf_any _ _ _ _ who _ (o6.rd enV_len) hsz2 hwm).mono ?_
        rintro e w13 ⟨⟨A8, q8, c8, rfl, o8⟩, b13⟩
        have t13 := below_trans t12 b13
        have o6 := o6.below b13
        have o7 := o7.below b13
        have o8_b := o8
        go_wp2_with fail
        refine (vInts_same _ _ _ _ _ _ _ _ (o7.rd inV_len) (o8.rd inV_len)).mono ?_
        rintro e w14 ⟨rfl, b14⟩
        have t14 := below_trans t13 b14
        have o6 := o6.below b14
        have o7 := o7.below b14
        have o8 := o8.below b14
        go_wp2
        go_ret
        exact ⟨rfl, t14⟩
  · have hln : lp.length = q1 := o1.len
    have hn0 : 0 < q1 := by
      rcases Nat.eq_zero_or_pos q1 with h0 | h0
      · exfalso
        have : lp = [] := List.eq_nil_of_length_eq_zero (by omega)
        subst this
        simp [compB, endsB] at hok
      · exact h0
    obtain ⟨be, oe, x0, hAe, hx0, -, cw, -, -, -, -, -⟩ := (o1.rd enV_len).en (i := 0) hn0
    obtain ⟨CP, h2n⟩ := comp_of hok hx0
    have CP' := Lib.hid CP
    have hwm0 : x0.who.size ≤ maxLen := (hsz x0 (List.mem_of_getElem? hx0)).1
    have hn2 : 2 ≤ q1 := by omega
    have HLN := Lib.hid hln
    simp only [Nat.zero_mul, Nat.add_zero] at cw
    subst hAe
    clear hok hx0 CP hln h2n
    go_wp2_with fail
    refine (implEntriesOf_any _ _ _ lp x0.who _ (o1.rd enV_len) hsz hwm0).mono ?_
    rintro e w4 ⟨⟨A2, q2, c2, rfl, o2⟩, b4⟩
    have t4 := below_trans t3 b4
    have o1 := o1.below b4
    have o2_b := o2
    rw [CP'.out.g]
    have hq2 : 2 ≤ q2 := by rw [← o2.len]; exact CP'.out.len
    have hqm := (o2.rd inV_len).le
    obtain ⟨b1, o1', v1, hA1, hv1, d1⟩ := (o2.rd inV_len).in (i := 0) (by omega)
    obtain rfl : v1 = 0 := by have := CP'.out.fst; rw [hv1] at this; injection this
    obtain ⟨b2, o2', v2, hA2, hv2, d2⟩ := (o2.rd inV_len).in (i := q2 - 1) (by omega)
    obtain rfl : v2 = (q1 : Int) - 1 := by have := CP'.out.lst; rw [o2.len, hv2, HLN.out] at this; injection this
    rw [hA1] at hA2
    injection hA2 with hA2
    injection hA2 with hb12 ho12
    subst hb12 ho12
    subst hA1
    simp only [Nat.add_zero] at d1
    clear hv1 hv2
    go_wp2_with fail
    refine (implOpen_any _ _ _ _ _ (o1.rd enV_len) hsz).mono ?_
    rintro e w5 ⟨⟨A3, q3, c3, rfl, o3⟩, b5⟩
    have t5 := below_trans t4 b5
    have o1 := o1.below b5
    have o2 := o2.below b5
    have o3_b := o3
    go_wp2_with fail
    refine (implAdopted_any _ _ _ _ _ (o1.rd enV_len) hsz).mono ?_
    rintro e w6 ⟨⟨A4, q4, c4, rfl, o4⟩, b6⟩
    have t6 := below_trans t5 b6
    have o1 := o1.below b6
    have o2 := o2.below b6
    have o3 := o3.below b6
    have o4_b := o4
    go_wp2_with fail
    refine (specOpen_any _ _ _ _ _ (o1.rd enV_len) hsz).mono ?_
    rintro e w7 ⟨⟨A5, q5, c5, rfl, o5⟩, b7⟩
    have t7 := below_trans t6 b7
    have o1 := o1.below b7
    have o2 := o2.below b7
    have o3 := o3.below b7
    have o4 := o4.below b7
    have o5_b := o5
    go_wp2_with fail
    refine (vTexts_same _ _ _ _ _ _ _ _ (o3.rd stV_len) (o5.rd stV_len)).mono ?_
    rintro e w8 ⟨rfl, b8⟩
    have t8 := below_trans t7 b8
    have o1 := o1.below b8
    have o2 := o2.below b8
    have o3 := o3.below b8
    have o4 := o4.below b8
    have o5 := o5.below b8
    go_wp2_with fail
    refine (specAdopted_any _ _ _ _ _ (o1.rd enV_len) hsz).mono ?_
    rintro e w9 ⟨⟨A6, q6, c6, rfl, o6⟩, b9⟩
    have t9 := below_trans t8 b9
    have o1 := o1.below b9
    have o2 := o2.below b9
    have o3 := o3.below b9
    have o4 := o4.below b9
    have o5 := o5.below b9
    have o6_b := o6
    go_wp2_with fail
    refine (vTexts_same _ _ _ _ _ _ _ _ (o4.rd stV_len) (o6.rd stV_len)).mono ?_
    rintro e w10 ⟨rfl, b10⟩
    have t10 := below_trans t9 b10
    have o1 := o1.below b10
    have o2 := o2.below b10
    have o3 := o3.below b10
    have o4 := o4.below b10
    have o5 := o5.below b10
    have o6 := o6.below b10
    have hqo : q3 ≤ q1 := by rw [← o3.len, ← o1.len]; exact opL_len lp
    go_wp2
    have HO := Lib.hid o3
    have HLs := Lib.hid o1
    go_loopw [18] (fun iv wr => ∃ i : Nat, i ≤ q3 ∧ iv = .int .i64 i ∧ Below w10.heap.size w10 wr) (fun iv _ => q3 - (intOf iv).toNat)
    case atStart => exact ⟨0, Nat.zero_le _, rfl, Below.refl _ _⟩
    case round =>
      obtain ⟨i, hi, rfl, hbw⟩ := hrel
      by_cases hiq : i < q3
      · obtain ⟨bm, om, mm, hAm, hmm, dm⟩ := ((HO.out.below hbw).rd stV_len).st hiq
        have MM := Lib.hid (open_last (List.mem_of_getElem? hmm))
        have HMM := Lib.hid hmm
        clear hmm dm hAm
        go_wp2
        go_loopw [19, 20] (fun lv kv wr => ∃ k : Nat, k ≤ q1 ∧ kv = .int .i64 k ∧ lv = .int .i64 (lastK lp mm k) ∧ Below w10.heap.size w10 wr) (fun _ kv _ => q1 - (intOf kv).toNat)
        case atStart => exact ⟨0, Nat.zero_le _, rfl, rfl, hbw⟩
        case round =>
          clear hbw
          obtain ⟨k, hk, rfl, rfl, hbw⟩ := hrel
          by_cases hkn : k < q1
          · obtain ⟨be, oe, y, hAe, hy, c0, c1, c2, c3, c4, c5, c6⟩ := ((HLs.out.below hbw).rd enV_len).en (i := k) hkn
            obtain ⟨bm, om, m', hAm, hmm', dm⟩ := ((HO.out.below hbw).rd stV_len).st hiq
            obtain rfl : mm = m' := by have h5 := HMM.out; rw [hmm'] at h5; injection h5 with h5; exact h5.symm
            have HAe := Lib.hid hAe
            have HAm := Lib.hid hAm
            rw [hAe, hAm]
            have YES := Lib.hid (fun h => lastK_yes (m := mm) hy h)
            have NO := Lib.hid (fun h => lastK_no (m := mm) hy h)
            have hi0 : (0 : Int) ≤ (i : Int) := by omega
            have hiq' : (i : Int) < (q3 : Int) := by omega
            have hk0 : (0 : Int) ≤ (k : Int) := by omega
            have hkn' : (k : Int) < (q1 : Int) := by omega
            clear hy hmm' hAe hAm
            cases h1' : (y.mo.toList == mm.toList)
            · have h1 := Lib.hid h1'
              have E := Lib.hid (NO.out (by simp [hit, h1']))
              rw [← E.out]
              go_wp2_with fail
              go_quiet (fail)
              go_wp2
              go_roundw
              case rel => exact ⟨k + 1, by omega, by go_num, rfl, below_trans hbw ⟨rfl, rfl, rfl, Nat.le_refl _, fun i _ => rfl⟩⟩
              case measure => first | (simp [intOf]; done) | (simp [intOf]; omega)
            · have h1 := Lib.hid h1'
              by_cases h2' : y.kind = 2
              · have E := Lib.hid (YES.out (by simp [hit, h1', h2']))
                rw [h2'] at E
                have c0' := c0
                rw [h2'] at c0'
                clear c0 h2'
                go_wp2_with fail
                go_quiet (fail)
                go_wp2
                go_roundw
                case rel => exact ⟨k + 1, by omega, by go_num, by rw [E.out], below_trans hbw ⟨rfl, rfl, rfl, Nat.le_refl _, fun i _ => rfl⟩⟩
                case measure => first | (simp [intOf]; done) | (simp [intOf]; omega)
              · have e2 : (y.kind == 2) = false := by simpa using h2'
                by_cases h4' : y.kind = 4
                · have E := Lib.hid (YES.out (by simp [hit, h1', h4']))
                  rw [h4'] at E
                  have c0' := c0
                  rw [h4'] at c0'
                  clear c0 h4' h2' e2
                  go_wp2_with fail
                  go_quiet (fail)
                  go_wp2
                  go_roundw
                  case rel => exact ⟨k + 1, by omega, by go_num, by rw [E.out], below_trans hbw ⟨rfl, rfl, rfl, Nat.le_refl _, fun i _ => rfl⟩⟩
                  case measure => first | (simp [intOf]; done) | (simp [intOf]; omega)
                · have e4 : (y.kind == 4) = false := by simpa using h4'
                  have E := Lib.hid (NO.out (by simp [hit, h2', h4']))
                  rw [← E.out]
                  clear h2' h4'
                  go_wp2_with fail
                  go_quiet (fail)
                  go_wp2
                  go_roundw
                  case rel => exact ⟨k + 1, by omega, by go_num, rfl, below_trans hbw ⟨rfl, rfl, rfl, Nat.le_refl _, fun i _ => rfl⟩⟩
                  case measure => first | (simp [intOf]; done) | (simp [intOf]; omega)
          · obtain rfl : k = q1 := by omega
            have E := Lib.hid MM.out
            have HN := Lib.hid (show lp.length = k from HLs.out.len)
            rw [HN.out] at E
            rw [E.out]
            go_wp2
            go_roundw
            case rel => exact ⟨i + 1, by omega, by go_num, hbw⟩
            case measure => first | (simp [intOf]; done) | (simp [intOf]; omega)
      · skip
        obtain ⟨w11, hwn⟩ : ∃ wn : World, wn = wr := ⟨_, rfl⟩
        subst hwn
        have t11 := below_trans t10 hbw
        go_wp2_with fail
        refine (drawEntries_any _ _ _ l _ (ha.below t11) hb).mono ?_
        rintro e w12 ⟨⟨A7, q7, c7, lz, who, rfl, hqz, hwho, ⟨o7, hgs2⟩⟩, b12⟩
        have t12 := below_trans t11 b12
        have o7_b := o7
        have hsz2 : ∀ x ∈ lz, EnSz x := fun x hx => ens_sz (hgs2 x hx)
        have hwm : who.size ≤ maxLen := Nat.le_trans hwho (by simp [maxLen])
        go_wp2_with fail
        refine (implEntriesOf_any _ _ _ _ who _ (o7.rd enV_len) hsz2 hwm).mono ?_
        rintro e w13 ⟨⟨A8, q8, c8, rfl, o8⟩, b13⟩
        have t13 := below_trans t12 b13
        have o7 := o7.below b13
        have o8_b := o8
        go_wp2_with fail
        refine (specEntriesOf_any _ _ _ _ who _ (o7.rd enV_len) hsz2 hwm).mono ?_
        rintro e w14 ⟨⟨A9, q9, c9, rfl, o9⟩, b14⟩
        have t14 := below_trans t13 b14
        have o7 := o7.below b14
        have o8 := o8.below b14
        have o9_b := o9
        go_wp2_with fail
        refine (vInts_same _ _ _ _ _ _ _ _ (o8.rd inV_len) (o9.rd inV_len)).mono ?_
        rintro e w15 ⟨rfl, b15⟩
        have t15 := below_trans t14 b15
        have o7 := o7.below b15
        have o8 := o8.below b15
        have o9 := o9.below b15
        go_wp2
        go_ret
        exact ⟨rfl, t15⟩

set_option maxRecDepth 100000 in
theorem lifted (os : Os) (started : os.Started) (H : Type) (enc : TypeId × Value → H) :
    ReturnsInHanded {} Try.checked os 8 .any (Rows.fnMinuteMotionsSpec.pre6 enc Try.prog Try.f8 Rows.fnMinuteMotionsRow.domain false) (Rows.fnMinuteMotionsSpec.post enc Try.prog Try.f8 false true false false) := by
  refine returnsInHanded_of_change (C := Try.checked) own started (by kernel_rfl) Try.func8
    (ChangeSpec.witness6 (enc := enc) (C := Try.checked) false ⟨#[], #[.slice none 0 0], []⟩ 8 (by kernel_rfl) (by kernel_rfl) (by kernel_rfl) (by kernel_rfl)) ?_
  intro W base args ds gs before hval0 hW hcnd _
  have hval : ∀ (j : Nat) t v, Try.f8.params[j]? = some t → args[j]? = some v → Value.okWide Try.prog W .any base t v := hval0
  have hW' := hW
  obtain ⟨p, q, hA0, hV, rfl, hfz, hnd⟩ := hW
  have hA : DataW.TrodAll enc Try.prog W 0 (fun _ => true) true Try.f8.params.toList args.toList ds p := hA0
  rw [Try.params8] at hA hval
  obtain ⟨v0, vs0, d0, ds0, p0, q0, hargs, rfl, rfl, h0, r0⟩ := trodAll_cons hA
  obtain ⟨rfl, rfl, rfl⟩ := trodAll_nil r0
  obtain rfl : args = #[v0] := by cases args; simp_all
  obtain ⟨rfl, rfl⟩ := trodVars_none hV
  obtain ⟨A0, n0, c0, l0, rfl, R0, G0⟩ := open_rd (ec := byV) Try.underlying53 (by kernel_rfl) (read_bytes) (by omega) byV_len (hval 0 53 v0 rfl rfl) h0
  refine (walk A0 n0 c0 l0 W R0 G0).mono fun e W' ⟨he, hb⟩ => ?_
  subst he
  exact ⟨_, rfl, law_post laidOut (by kernel_rfl) (by kernel_rfl) Try.underlying4 rfl hW' rfl rfl rfl hb⟩

theorem over : Rows.fnMinuteMotionsRow.holds Try.pinned (OpenSpec.ofChange Rows.fnMinuteMotionsSpec) :=
  OpenClaim.holds_of_wide 8 Try.f8 rfl rfl rfl rfl rfl rfl rfl ⟨rfl, rfl, rfl, rfl, rfl⟩ rfl rfl rfl rfl rfl (by kernel_rfl) Try.func8 (by kernel_rfl)
    (of_decide_eq_true (by kernel_rfl)) (by unfold Func.isWrapper; rw [if_neg (of_decide_eq_false (by kernel_rfl))]; exact ⟨rfl, rfl⟩)
    (fun os started H enc _ => lifted os started H enc)

theorem proved : Rows.FnMinuteMotionsSaid :=
  over
#print axioms proved
end Go.Proofs.Ytflmokdeekjjiaa.fnMinuteMotions
