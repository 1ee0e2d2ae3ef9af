/- FnOutcomes: for every code of at most 65536 bytes: OutcomeCounts, OpenAfter, MovedTogether and PathOf answer as the reference at what is drawn; all motions of an orderly trace have one outcome or are open, and open ones were open together. No condition.
-/
import Derived.Test.YtmmogpbbehgkiaaRead
import Derived.Test.YtmmogpbbehgkiaaByt
import Derived.Test.YtmmogpbbehgkiaaTraO
import Derived.Test.YtmmogpbbehgkiaaVee
import Derived.Deep.DeepCutAuto
namespace Go.Proofs.Ytmmogpbbehgkiaa.fnOutcomes
open Go Go.ChangeShapes Go.WideShapes Go.ChangeAt Go.RowKit Go.Sort
open Go.ChangeMaps (open_string)
set_option linter.unusedVariables false

theorem own : ownKnob Try.prog.godebug = none := by kernel_rfl
theorem laidOut : laidOutB Try.prog = true := by kernel_rfl

set_option maxRecDepth 100000 in
set_option maxHeartbeats 16000000 in
theorem walk (A : Option Addr) (n c : Nat) (l : List Int) (w : World) (ha : Rd byV 1 w A n c l) (hb : ∀ x ∈ l, 0 ≤ x ∧ x ≤ 255) :
    Calls Try.prog 4 #[.slice A n c] w fun e w' => e = .returned (.bool true) ∧ Below w.heap.size w w' := by
  have hm := ha.le
  go_enter Try.func4, Try.ntmps4
  go_wp2_with fail
  refine (vBig_any _ _ _ _ hm).mono ?_
  rintro e wx ⟨rfl, rfl⟩
  by_cases hbig : (65536 : Int) < (n : Int)
  · go_wp2
    go_ret
    exact ⟨rfl, Below.refl _ _⟩
  go_wp2_with fail
  refine (drawOutcome_any _ _ _ l _ ha hb).mono ?_
  rintro e w1 ⟨⟨Av1, qv1, cv1, l1, rfl, hq1, v1⟩, b1⟩
  have t1 := b1
  have r1 := v1.rd tsV_len
  clear v1
  go_wp2_with fail
  refine (implOutcomeCounts_any _ _ _ l1 _ r1).mono ?_
  rintro e w2 ⟨⟨A1, q1, c1, rfl, o1⟩, b2⟩
  have t2 := below_trans t1 b2
  replace r1 := r1.below b2
  have o1_b := o1
  go_wp2_with fail
  refine (specOutcomeCounts_any _ _ _ l1 _ r1).mono ?_
  rintro e w3 ⟨⟨A2, q2, c2, rfl, o2⟩, b3⟩
  have t3 := below_trans t2 b3
  have o1 := o1.below b3
  replace r1 := r1.below b3
  have o2_b := o2
  go_wp2_with fail
  refine (vInts_same _ _ _ _ _ _ _ _ (o1.rd inV_len) (o2.rd inV_len)).mono ?_
  rintro e w4 ⟨rfl, b4⟩
  have t4 := below_trans t3 b4
  have o1 := o1.below b4
  have o2 := o2.below b4
  replace r1 := r1.below b4
  go_wp2_with fail
  refine (implOpenAfter_any _ _ _ l1 _ r1).mono ?_
  rintro e w5 ⟨⟨A3, q3, c3, rfl, o3⟩, b5⟩
  have t5 := below_trans t4 b5
  have o1 := o1.below b5
  have o2 := o2.below b5
  replace r1 := r1.below b5
  have o3_b := o3
  go_wp2_with fail
  refine (specOpenAfter_any _ _ _ l1 _ r1).mono ?_
  rintro e w6 ⟨⟨A4, q4, c4, rfl, o4⟩, b6⟩
  have t6 := below_trans t5 b6
  have o1 := o1.below b6
  have o2 := o2.below b6
  have o3 := o3.below b6
  replace r1 := r1.below b6
  have o4_b := o4
  go_wp2_with fail
  refine (vInts_same _ _ _ _ _ _ _ _ (o3.rd inV_len) (o4.rd inV_len)).mono ?_
  rintro e w7 ⟨rfl, b7⟩
  have t7 := below_trans t6 b7
  have o1 := o1.below b7
  have o2 := o2.below b7
  have o3 := o3.below b7
  have o4 := o4.below b7
  replace r1 := r1.below b7
  go_wp2_with fail
  refine (implMoved_any _ _ _ l1 _ r1).mono ?_
  rintro e w8 ⟨⟨A5, q5, c5, hs5, rfl, o5⟩, b8⟩
  have t8 := below_trans t7 b8
  have o1 := o1.below b8
  have o2 := o2.below b8
  have o3 := o3.below b8
  have o4 := o4.below b8
  replace r1 := r1.below b8
  go_wp2_with fail
  refine (specMoved_any _ _ _ l1 _ r1).mono ?_
  rintro e w9 ⟨⟨A6, q6, c6, hs6, rfl, o6⟩, b9⟩
  have t9 := below_trans t8 b9
  have o1 := o1.below b9
  have o2 := o2.below b9
  have o3 := o3.below b9
  have o4 := o4.below b9
  have o5 := o5.below b9
  replace r1 := r1.below b9
  go_wp2_with fail
  refine (vTable_same _ _ _ _ _ _ _ _ _ _ o5.rd o6.rd).mono ?_
  rintro e w10 ⟨rfl, b10⟩
  have t10 := below_trans t9 b10
  have o1 := o1.below b10
  have o2 := o2.below b10
  have o3 := o3.below b10
  have o4 := o4.below b10
  have o5 := o5.below b10
  have o6 := o6.below b10
  replace r1 := r1.below b10
  cases hok : asked l1
  · clear hok
    go_wp2_with fail
    refine (drawPath_any _ _ _ l _ (ha.below t10) hb).mono ?_
    rintro e w11 ⟨⟨Av2, qv2, cv2, l2, m2, rfl, hq2, v2⟩, b11⟩
    have t11 := below_trans t10 b11
    have o1 := o1.below b11
    have o2 := o2.below b11
    have o3 := o3.below b11
    have o4 := o4.below b11
    have o5 := o5.below b11
    have o6 := o6.below b11
    replace r1 := r1.below b11
    have r2 := v2.rd tsV_len
    clear v2
    cases hpo : (goodL l2 && inB m2 1 20)
    · have HPO := Lib.hid hpo
      clear hpo
      go_wp2_with fail
      refine (implPathOf_no _ _ _ l2 m2 _ r2 HPO.out).mono ?_
      rintro e w12 ⟨rfl, b12⟩
      have t12 := below_trans t11 b12
      replace r2 := r2.below b12
      go_wp2_with fail
      refine (specPathOf_no _ _ _ l2 m2 _ r2 HPO.out).mono ?_
      rintro e wx ⟨rfl, rfl⟩
      go_wp2
      go_ret
      exact ⟨rfl, t12⟩
    · rw [Bool.and_eq_true] at hpo
      have HG := Lib.hid hpo.1
      have HI := Lib.hid hpo.2
      clear hpo
      go_wp2_with fail
      refine (implPathOf_yes _ _ _ l2 m2 _ r2 HG.out HI.out).mono ?_
      rintro e w12 ⟨rfl, b12⟩
      have t12 := below_trans t11 b12
      replace r2 := r2.below b12
      go_wp2_with fail
      refine (specPathOf_yes _ _ _ l2 m2 _ r2 HG.out HI.out).mono ?_
      rintro e wx ⟨rfl, rfl⟩
      generalize path l2 m2 = pp at *
      go_wp2
      go_ret
      exact ⟨rfl, t12⟩
  · have HOK := Lib.hid hok
    have HGD : Hid (goodL l1 = true) := by have h9 := hok; simp only [asked, Bool.and_eq_true] at h9; exact h9.1
    have OS := Lib.hid (out_sum hok)
    have CB := Lib.hid (outR_bd hok)
    have R1 := Lib.hid r1
    have CC := Lib.hid (o1.rd inV_len)
    have OO := Lib.hid (o3.rd inV_len)
    have PQ := Lib.hid o5.rd
    have OL := Lib.hid o3.len
    have CL := Lib.hid o1.len
    have PL := Lib.hid o5.len
    have TT := Lib.hid t10
    have hqo : q3 ≤ 20 := by have h8 := OL.out; have h9 := openL_20 l1; rw [show openR l1 = openL l1 from by simp [openR, hok]] at h8; omega
    have hqp : q5 ≤ 400 := by have h8 := PL.out; have h9 := movR_len l1; omega
    clear hok r1 o1 o1_b o2 o2_b o3 o3_b o4 o4_b o5 o6
    go_wp2
    go_loopw [16, 17] (fun mv kv wr => ∃ j : Nat, j ≤ 20 ∧ kv = .int .i64 ((j : Int) + 1) ∧ mv = .int .i64 ((movTo l1 j : Nat) : Int) ∧ Below w10.heap.size w10 wr) (fun _ kv _ => 21 - (intOf kv).toNat)
    case atStart => exact ⟨0, by omega, rfl, rfl, Below.refl _ _⟩
    case round =>
      obtain ⟨j, hj, rfl, rfl, hbw⟩ := hrel
      have hmj := movTo_le l1 j
      by_cases hj20 : j < 20
      · have hin : inB ((j : Int) + 1) 1 20 = true := inB_t (by omega) (by omega)
        have HIN := Lib.hid hin
        have hle : (j : Int) + 1 ≤ 20 := by omega
        clear hin
        go_wp2_with fail
        refine (implPathOf_yes _ _ _ l1 ((j : Int) + 1) _ (R1.out.below hbw) HGD.out HIN.out).mono ?_
        rintro e wa ⟨rfl, ba⟩
        have tb := below_trans hbw ba
        cases hem : (kinds l1 ((j : Int) + 1)).isEmpty
        · have E := Lib.hid (movTo_yes hem)
          have hp : 0 < (path l1 ((j : Int) + 1)).size := by
            rcases Nat.eq_zero_or_pos (path l1 ((j : Int) + 1)).size with h | h
            · rw [(path_emp _ _).1 h] at hem; cases hem
            · exact h
          have hte := toList_ne hp
          generalize path l1 ((j : Int) + 1) = pp at *
          generalize movTo l1 j = mj at *
          clear hem hp
          go_wp2
          go_roundw
          case rel => exact ⟨j + 1, by omega, by go_num, by rw [E.out]; go_num, tb⟩
          case measure => first | (simp [intOf]; done) | (simp [intOf]; omega)
        · have E := Lib.hid (movTo_no hem)
          rw [path_empty (List.isEmpty_iff.1 hem)]
          generalize movTo l1 j = mj at *
          clear hem
          go_wp2
          go_roundw
          case rel => exact ⟨j + 1, by omega, by go_num, by rw [E.out], tb⟩
          case measure => first | (simp [intOf]; done) | (simp [intOf]; omega)
      · obtain rfl : j = 20 := by omega
        obtain ⟨bc, oc, x3, hAc, hx3, c3⟩ := (CC.out.below hbw).in (i := 3) (by rw [← CL.out]; obtain ⟨h9, -⟩ := List.getElem?_eq_some_iff.1 OS.out.2; exact h9)
        obtain rfl : x3 = ((q3 : Nat) : Int) := by rw [OS.out.2, OL.out] at hx3; injection hx3 with hx3; exact hx3.symm
        have hq3 : (3 : Int) < (q1 : Int) := by rw [← CL.out]; obtain ⟨h9, -⟩ := List.getElem?_eq_some_iff.1 OS.out.2; omega
        have hm0 : (0 : Int) ≤ ((movTo l1 20 : Nat) : Int) := by omega
        rw [hAc]
        go_wp2_with fail
        refine (rSum_any _ _ _ (outR l1) _ (by rw [← hAc]; exact CC.out.below hbw) CB.out (by have h8 := CL.out; have h4 := outR_4 l1; omega)).mono ?_
        rintro e wx ⟨rfl, rfl⟩
        rw [OS.out.1]
        generalize movTo l1 20 = mj at *
        clear hAc hx3
        go_wp2
        go_loopw [20] (fun iv wr => ∃ i : Nat, i ≤ q3 ∧ iv = .int .i64 i ∧ Below w10.heap.size w10 wr) (fun iv _ => q3 - (intOf iv).toNat)
        case atStart => exact ⟨0, Nat.zero_le _, rfl, hbw⟩
        case round =>
          clear hbw c3
          obtain ⟨i, hi, rfl, hbw⟩ := hrel
          by_cases hiq : i < q3
          · go_wp2
            obtain ⟨wo, hwo⟩ : ∃ wo : World, wo = wr := ⟨_, rfl⟩
            subst hwo
            go_loopw [21] (fun kv wr => ∃ k : Nat, i + 1 ≤ k ∧ k ≤ q3 ∧ kv = .int .i64 k ∧ Below w10.heap.size w10 wr) (fun kv _ => q3 - (intOf kv).toNat)
            case atStart => exact ⟨i + 1, Nat.le_refl _, by omega, by go_num, hbw⟩
            case round =>
              clear hbw
              obtain ⟨k, hk1, hk, rfl, hbw⟩ := hrel
              by_cases hkq : k < q3
              · obtain ⟨ai, hai⟩ : ∃ a, (openR l1)[i]? = some a := ⟨_, List.getElem?_eq_getElem (by rw [OL.out]; exact hiq)⟩
                obtain ⟨ak, hak⟩ : ∃ a, (openR l1)[k]? = some a := ⟨_, List.getElem?_eq_getElem (by rw [OL.out]; exact hkq)⟩
                have TA := Lib.hid (th_all HOK.out hai hak (by omega))
                have HAI := Lib.hid hai
                have HAK := Lib.hid hak
                clear hai hak
                go_wp2
                obtain ⟨wi, hwi⟩ : ∃ wi : World, wi = wr := ⟨_, rfl⟩
                subst hwi
                go_loopw [22, 23] (fun tv jv wr => ∃ j : Nat, j ≤ q5 ∧ jv = .int .i64 j ∧ tv = .bool (thTo (movR l1) ai ak j) ∧ Below w10.heap.size w10 wr) (fun _ jv _ => q5 - (intOf jv).toNat)
                case atStart => exact ⟨0, Nat.zero_le _, rfl, rfl, hbw⟩
                case round =>
                  clear hbw
                  obtain ⟨j, hj, rfl, rfl, hbw⟩ := hrel
                  by_cases hjq : j < q5
                  · obtain ⟨bp, op, hd, x, hAp, hx, -, c0, x0⟩ := (PQ.out.below hbw).at hjq
                    obtain ⟨p0, p1, rfl⟩ := mov_pair (List.mem_of_getElem? hx)
                    obtain ⟨bi, oi, yi, hAi, hyi, ci⟩ := (OO.out.below hbw).in hiq
                    obtain ⟨bk, ok, yk, hAk, hyk, ck⟩ := (OO.out.below hbw).in hkq
                    obtain rfl : ai = yi := by have h9 := HAI.out; rw [hyi] at h9; injection h9 with h9; exact h9.symm
                    obtain rfl : ak = yk := by have h9 := HAK.out; rw [hyk] at h9; injection h9 with h9; exact h9.symm
                    have hbk := hAi.symm.trans hAk
                    injection hbk with hbk
                    injection hbk with u1 u2
                    subst u1 u2
                    obtain ⟨pA, pn, pc⟩ := hd
                    have hpn : pn = 2 := x0.len.symm
                    subst hpn
                    replace x0 : Rd inV 1 wr pA 2 pc [p0, p1] := x0
                    replace c0 : wr.cell? ⟨bp, op + j, none⟩ = some (.slice pA 2 pc) := c0
                    obtain ⟨bq, oq, z0, hAq, hz0, d0⟩ := x0.in (i := 0) (by omega)
                    obtain ⟨bq', oq', z1, hAq', hz1, d1⟩ := x0.in (i := 1) (by omega)
                    try simp only at hAq hAq'
                    have hbq := hAq.symm.trans hAq'
                    injection hbq with hbq
                    injection hbq with u3 u4
                    subst u3 u4
                    obtain rfl : p0 = z0 := by injection hz0
                    obtain rfl : p1 = z1 := by injection hz1
                    subst hAq
                    simp only [Nat.add_zero] at d0
                    have NX := Lib.hid (thTo_next (a := ai) (b := ak) hx)
                    have hj0 : (0 : Int) ≤ (j : Int) := by omega
                    have hj1 : (j : Int) < (q5 : Int) := by omega
                    have hi0 : (0 : Int) ≤ (i : Int) := by omega
                    have hi1 : (i : Int) < (q3 : Int) := by omega
                    have hk0 : (0 : Int) ≤ (k : Int) := by omega
                    have hk2 : (k : Int) < (q3 : Int) := by omega
                    rw [hAp, hAi]
                    have HAP := Lib.hid hAp
                    have HAi := Lib.hid hAi
                    clear hx hyi hyk hz0 hz1 x0 hAq' hAp hAi hAk
                    cases e0 : thTo (movR l1) ai ak j
                    · cases e1 : (p0 == ai)
                      · have NF : Hid (thTo (movR l1) ai ak (j + 1) = false) := by show _ = _; rw [NX.out, e0, e1]; rfl
                        go_wp2_with fail
                        go_quiet (fail)
                        have b9 := below_trans hbw (below_drewN wr nq)
                        go_wp2
                        go_roundw
                        case rel => exact ⟨j + 1, by omega, by go_num, by rw [NF.out], b9⟩
                        case measure => first | (simp [intOf]; done) | (simp [intOf]; omega)
                      · cases e2 : (p1 == ak)
                        · have NF : Hid (thTo (movR l1) ai ak (j + 1) = false) := by show _ = _; rw [NX.out, e0, e1, e2]; rfl
                          go_wp2_with fail
                          go_quiet (fail)
                          have b9 := below_trans hbw (below_drewN wr nq)
                          go_wp2
                          go_roundw
                          case rel => exact ⟨j + 1, by omega, by go_num, by rw [NF.out], b9⟩
                          case measure => first | (simp [intOf]; done) | (simp [intOf]; omega)
                        · have NF : Hid (thTo (movR l1) ai ak (j + 1) = true) := by show _ = _; rw [NX.out, e0, e1, e2]; rfl
                          go_wp2_with fail
                          go_quiet (fail)
                          have b9 := below_trans hbw (below_drewN wr nq)
                          go_wp2
                          go_roundw
                          case rel => exact ⟨j + 1, by omega, by go_num, by rw [NF.out], b9⟩
                          case measure => first | (simp [intOf]; done) | (simp [intOf]; omega)
                    · have NF : Hid (thTo (movR l1) ai ak (j + 1) = true) := by show _ = _; rw [NX.out, e0]; rfl
                      go_wp2_with fail
                      go_quiet (fail)
                      have b9 := below_trans hbw (below_drewN wr nq)
                      go_wp2
                      go_roundw
                      case rel => exact ⟨j + 1, by omega, by go_num, by rw [NF.out], b9⟩
                      case measure => first | (simp [intOf]; done) | (simp [intOf]; omega)
                  · obtain rfl : j = q5 := by omega
                    have TB : Hid (thTo (movR l1) ai ak j = true) := by have h9 := TA.out; rw [PL.out] at h9; exact h9
                    rw [TB.out]
                    go_wp2
                    go_roundw
                    case rel => exact ⟨k + 1, by omega, by omega, by go_num, hbw⟩
                    case measure => first | (simp [intOf]; done) | (simp [intOf]; omega)
              · obtain rfl : k = q3 := by omega
                go_wp2
                go_roundw
                case rel => exact ⟨i + 1, by omega, by go_num, hbw⟩
                case measure => first | (simp [intOf]; done) | (simp [intOf]; omega)
          · have TF := below_trans TT.out hbw
            obtain ⟨w11, hwn⟩ : ∃ x : World, x = wr := ⟨_, rfl⟩
            subst hwn
            have t11 := TF
            go_wp2_with fail
            refine (drawPath_any _ _ _ l _ (ha.below t11) hb).mono ?_
            rintro e w12 ⟨⟨Av2, qv2, cv2, l2, m2, rfl, hq2, v2⟩, b12⟩
            have t12 := below_trans t11 b12
            have r2 := v2.rd tsV_len
            clear v2
            cases hpo : (goodL l2 && inB m2 1 20)
            · have HPO := Lib.hid hpo
              clear hpo
              go_wp2_with fail
              refine (implPathOf_no _ _ _ l2 m2 _ r2 HPO.out).mono ?_
              rintro e w13 ⟨rfl, b13⟩
              have t13 := below_trans t12 b13
              replace r2 := r2.below b13
              go_wp2_with fail
              refine (specPathOf_no _ _ _ l2 m2 _ r2 HPO.out).mono ?_
              rintro e wx ⟨rfl, rfl⟩
              go_wp2
              go_ret
              exact ⟨rfl, t13⟩
            · rw [Bool.and_eq_true] at hpo
              have HG := Lib.hid hpo.1
              have HI := Lib.hid hpo.2
              clear hpo
              go_wp2_with fail
              refine (implPathOf_yes _ _ _ l2 m2 _ r2 HG.out HI.out).mono ?_
              rintro e w13 ⟨rfl, b13⟩
              have t13 := below_trans t12 b13
              replace r2 := r2.below b13
              go_wp2_with fail
              refine (specPathOf_yes _ _ _ l2 m2 _ r2 HG.out HI.out).mono ?_
              rintro e wx ⟨rfl, rfl⟩
              generalize path l2 m2 = pp at *
              go_wp2
              go_ret
              exact ⟨rfl, t13⟩

set_option maxRecDepth 100000 in
theorem lifted (os : Os) (started : os.Started) (H : Type) (enc : TypeId × Value → H) :
    ReturnsInHanded {} Try.checked os 4 .any (Rows.fnOutcomesSpec.pre6 enc Try.prog Try.f4 Rows.fnOutcomesRow.domain false) (Rows.fnOutcomesSpec.post enc Try.prog Try.f4 false true false false) := by
  refine returnsInHanded_of_change (C := Try.checked) own started (by kernel_rfl) Try.func4
    (ChangeSpec.witness6 (enc := enc) (C := Try.checked) false ⟨#[], #[.slice none 0 0], []⟩ 8 (by kernel_rfl) (by kernel_rfl) (by kernel_rfl) (by kernel_rfl)) ?_
  intro W base args ds gs before hval0 hW hcnd _
  have hval : ∀ (j : Nat) t v, Try.f4.params[j]? = some t → args[j]? = some v → Value.okWide Try.prog W .any base t v := hval0
  have hW' := hW
  obtain ⟨p, q, hA0, hV, rfl, hfz, hnd⟩ := hW
  have hA : DataW.TrodAll enc Try.prog W 0 (fun _ => true) true Try.f4.params.toList args.toList ds p := hA0
  rw [Try.params4] at hA hval
  obtain ⟨v0, vs0, d0, ds0, p0, q0, hargs, rfl, rfl, h0, r0⟩ := trodAll_cons hA
  obtain ⟨rfl, rfl, rfl⟩ := trodAll_nil r0
  obtain rfl : args = #[v0] := by cases args; simp_all
  obtain ⟨rfl, rfl⟩ := trodVars_none hV
  obtain ⟨A0, n0, c0, l0, rfl, R0, G0⟩ := open_rd (ec := byV) Try.underlying34 (by kernel_rfl) (read_bytes) (by omega) byV_len (hval 0 34 v0 rfl rfl) h0
  refine (walk A0 n0 c0 l0 W R0 G0).mono fun e W' ⟨he, hb⟩ => ?_
  subst he
  exact ⟨_, rfl, law_post laidOut (by kernel_rfl) (by kernel_rfl) Try.underlying4 rfl hW' rfl rfl rfl hb⟩

theorem over : Rows.fnOutcomesRow.holds Try.pinned (OpenSpec.ofChange Rows.fnOutcomesSpec) :=
  OpenClaim.holds_of_wide 4 Try.f4 rfl rfl rfl rfl rfl rfl rfl ⟨rfl, rfl, rfl, rfl, rfl⟩ rfl rfl rfl rfl rfl (by kernel_rfl) Try.func4 (by kernel_rfl)
    (of_decide_eq_true (by kernel_rfl)) (by unfold Func.isWrapper; rw [if_neg (of_decide_eq_false (by kernel_rfl))]; exact ⟨rfl, rfl⟩)
    (fun os started H enc _ => lifted os started H enc)

theorem proved : Rows.FnOutcomesSaid :=
  over
#print axioms proved
end Go.Proofs.Ytmmogpbbehgkiaa.fnOutcomes
