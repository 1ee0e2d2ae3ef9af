/-
  YtndoapgalbljpaaDivK: SeparateParts, both sides. (Printed by wip/gen/divk.py.)
-/
import Derived.Test.YtndoapgalbljpaaDivJ
import Derived.Test.YtndoapgalbljpaaCur
import Derived.Test.YtndoapgalbljpaaColM
import Derived.Test.YtndoapgalbljpaaParK
namespace Go.Proofs.Ytndoapgalbljpaa
open Go Go.RowKit Go.Sort
set_option linter.unusedVariables false

theorem Try.infoSl : (Try.prog.info? 38).map (fun i => (i.zero, i.size, i.bytes)) = some (some (.slice none 0 0), 1, 24) := by kernel_rfl
theorem one_hi : ∀ x : HI, ∀ u ∈ hIV x, u.oneCell' = true := by intro x u h; simp [hIV] at h; subst h; rfl
theorem InnI.ext {w : World} {base top : Nat} {hs : List HI} {l : List (List Int)} {x : List Int} (h : InnI w base top hs l) (hl : hs.length ≤ l.length) : InnI w base top hs (l ++ [x]) :=
  ⟨fun i k y h1 h2 => h.p_ i k y h1 (by rw [List.getElem?_append_left (by have := (List.getElem?_eq_some_iff.1 h1).1; omega)] at h2; exact h2), h.dp, h.tp⟩


set_option maxRecDepth 100000 in
set_option maxHeartbeats 4000000 in
theorem implSeparate_any (A : Option Addr) (n c : Nat) (hs0 : List HC) (l : List CL) (w : World) (ha : RdC w A n c hs0 l) (hg : ∀ x ∈ l, ClSz x) :
    Calls Try.prog 14 #[.slice A n c] w fun e w' => (∃ B q d hs, e = .returned (.tuple #[.slice B q d, .bool (clsB l)]) ∧ OwnI w' w.heap.size w'.heap.size B q d hs (sepL l)) ∧ Below w.heap.size w w' := by
  obtain ⟨i0, hii, hz0, hz1, hz2⟩ := info_parts Try.infoin
  obtain ⟨l0, lii, lz0, lz1, lz2⟩ := info_parts Try.infoSl
  have HL := Lib.hid ha.len
  go_enter Try.func14, Try.ntmps14
  go_wp2_with fail
  refine (AreClauses_any _ _ _ _ _ _ ha hg).mono ?_
  rintro e w1 ⟨rfl, b1⟩
  cases h1 : clsB l
  · have E := Lib.hid h1
    clear ha
    go_wp2
    go_ret2
    exact ⟨⟨_, _, _, [], ret_sl_bool' E.out.symm, by rw [sepL_no E.out]; exact OwnI.nil _ _ _⟩, b1⟩
  have HV := Lib.hid h1
  have hn8 : n ≤ 8 := by rw [← HL.out]; exact cls_len h1
  clear h1 hg
  go_wp2_with fail
  refine (upTo_any n _ (by omega)).mono ?_
  rintro e w2 ⟨⟨BF, dF, rfl, oF⟩, b2⟩
  have t2 := below_trans b1 b2
  have hs1 := b1.size
  have oF' : Own inV 1 w2 w1.heap.size 3 BF n dF (fTo l 0 0) := by rw [fTo_start, HL.out]; exact oF
  clear oF
  go_wp2
  go_loopw [25] (fun iv wr => ∃ i : Nat, i ≤ n ∧ iv = .int .i64 i ∧ Own inV 1 wr w1.heap.size 3 BF n dF (fTo l i 0) ∧ Below w.heap.size w wr) (fun iv _ => n - (intOf iv).toNat)
  case atStart => exact ⟨0, Nat.zero_le _, rfl, oF', t2⟩
  case round =>
    clear oF' t2
    obtain ⟨i, hi, rfl, ho, hbw⟩ := hrel
    by_cases hin : i < n
    · obtain ⟨b3, o3, hc, x, rfl, hx, hh, c0, c1, x0, x1⟩ := (ha.below hbw).at hin
      have HH := Lib.hid hh
      have HX := Lib.hid hx
      have ND := Lib.hid (nd_of hx)
      have NB := Lib.hid (fun y (hy : y ∈ x.ns) => ns_bd HV.out hx hy)
      have hnn := x1.le
      have XL := Lib.hid x1.len
      have HO := Lib.hid (ho.alloc (.cells #[.slice hc.wA hc.wn hc.wc, .slice hc.nA hc.nn hc.nc] 57))
      have ta : Below w.heap.size w (wr.alloc (.cells #[.slice hc.wA hc.wn hc.wc, .slice hc.nA hc.nn hc.nc] 57)) := below_trans hbw (below_alloc _)
      clear hx hh x0 x1 ho
      go_wp2
      obtain ⟨wo, hwo⟩ : ∃ wo : World, wo = wr := ⟨_, rfl⟩
      subst hwo
      go_loopw [33] (fun jv wr => ∃ j : Nat, j ≤ hc.nn ∧ jv = .int .i64 j ∧ Own inV 1 wr w1.heap.size 3 BF n dF (fTo l i j) ∧ Below w.heap.size w wr) (fun jv _ => hc.nn - (intOf jv).toNat)
      case atStart => exact ⟨0, Nat.zero_le _, rfl, HO.out, ta⟩
      case round =>
        clear HO ta hbw
        obtain ⟨j, hj, rfl, ho, hbw⟩ := hrel
        by_cases hjn : j < hc.nn
        · obtain ⟨b3', o3', h', x', -, hx', hh', -, -, -, x1'⟩ := (ha.below hbw).at hin
          obtain rfl : hc = h' := by have h5 := HH.out; rw [hh'] at h5; injection h5 with h5; exact h5.symm
          obtain rfl : x = x' := by have h5 := HX.out; rw [hx'] at h5; injection h5 with h5; exact h5.symm
          obtain ⟨b4, o4, y, hAe, hy, d1⟩ := x1'.in hjn
          have hyb := NB.out y (List.mem_of_getElem? hy)
          obtain ⟨m, rfl⟩ := Int.eq_ofNat_of_zero_le hyb.1
          have hmi : m < i := by have := hyb.2; omega
          have NXT := Lib.hid (fTo_step (l := l) (i := i) (j := j) (y := (m : Int)) (by rw [ND.out]; exact hy))
          have FL := Lib.hid ((fTo_len l i j).trans HL.out)
          generalize fTo l i j = F at *
          obtain ⟨fi, hfi⟩ : ∃ v, F[i]? = some v := ⟨_, List.getElem?_eq_getElem (by rw [FL.out]; exact hin)⟩
          obtain ⟨fm, hfm⟩ : ∃ v, F[m]? = some v := ⟨_, List.getElem?_eq_getElem (by rw [FL.out]; omega)⟩
          obtain ⟨gF, rfl⟩ := ho.form (by omega)
          have ci := ho.cell inV_len (i := i) (j := 0) hfi rfl
          have cm := ho.cell inV_len (i := m) (j := 0) hfm rfl
          simp only [Nat.mul_one, Nat.add_zero] at ci cm
          have JN := Lib.hid (show joinM F (i, m) = turnM F (max fi fm) (min fi fm) by simp [joinM, List.getD, hfi, hfm])
          rw [Int.toNat_natCast] at NXT
          have HO := Lib.hid ho
          rw [hAe]
          clear hAe hx' hh' x1' hy hyb hfi hfm ho
          have hi0 : (0 : Int) ≤ (i : Int) := by omega
          have hin' : (i : Int) < (n : Int) := by omega
          have hm0 : (0 : Int) ≤ (m : Int) := by omega
          have hmn' : (m : Int) < (n : Int) := by omega
          rcases Int.lt_trichotomy fi fm with hlf | hlf | hlf
          · have J2 := Lib.hid (show fTo l i (j + 1) = turnM F fm fi by rw [NXT.out, JN.out, Int.max_eq_right (by omega), Int.min_eq_left (by omega)])
            clear JN NXT
            go_wp2_with fail
            go_quiet (fail)
            have HQ : Hid (Own inV 1 (wr.drewN nq) w1.heap.size 3 (some ⟨gF, 0, none⟩) n dF (trT F fm fi 0)) := by show Own _ _ _ _ _ _ _ _ _; rw [trT_start]; exact ⟨HO.out.len, HO.out.row⟩
            have tq : Below w.heap.size w (wr.drewN nq) := below_trans hbw (below_drewN wr nq)
            clear HO hbw
            go_wp2_with fail
            go_loopw [57] (fun kv wr => ∃ k : Nat, k ≤ n ∧ kv = .int .i64 k ∧ Own inV 1 wr w1.heap.size 3 (some ⟨gF, 0, none⟩) n dF (trT F fm fi k) ∧ Below w.heap.size w wr) (fun kv _ => n - (intOf kv).toNat)
            case atStart => exact ⟨0, Nat.zero_le _, rfl, HQ.out, tq⟩
            case round =>
              clear HQ tq
              obtain ⟨k, hk, rfl, ho, hbw⟩ := hrel
              by_cases hkn : k < n
              · obtain ⟨fk, hfk⟩ : ∃ v, F[k]? = some v := ⟨_, List.getElem?_eq_getElem (by rw [FL.out]; exact hkn)⟩
                have hg := trT_get (hi := fm) (lo := fi) hfk
                have ck := ho.cell inV_len (i := k) (j := 0) hg rfl
                have fk' := ho.frozen k
                simp only [Nat.mul_one, Nat.add_zero] at ck
                have hgb : w1.heap.size ≤ gF := (ho.lt (k := gF) rfl).1
                have ST := Lib.hid (ho.store inV_len (i := k) (j := 0) hg (by omega) fi (.int .i64 fi) rfl)
                have HO := Lib.hid ho
                clear ho hg
                cases h5 : (fk == fm)
                · have E := Lib.hid (trT_no (hi := fm) (lo := fi) hfk (by simpa using h5))
                  clear hfk
                  go_wp2
                  go_roundw
                  case rel => exact ⟨k + 1, by omega, by go_num, by rw [E.out]; exact HO.out, hbw⟩
                  case measure => first | (simp [intOf]; done) | (simp [intOf]; omega)
                · obtain rfl : fk = fm := by simpa using h5
                  have E := Lib.hid (trT_yes (hi := fk) (lo := fi) hfk)
                  clear hfk
                  go_wp2
                  have S1 := ST.out.1
                  simp only [Nat.mul_one, Nat.add_zero] at S1
                  rw [E.out] at S1
                  go_roundw
                  case rel => exact ⟨k + 1, by omega, by go_num, S1, below_setCell hbw _ _ _ (by omega)⟩
                  case measure => first | (simp [intOf]; done) | (simp [intOf]; omega)
              · obtain rfl : k = n := by omega
                have HO := Lib.hid ho
                have TE := Lib.hid (trT_end (hi := fm) (lo := fi) FL.out)
                clear ho
                go_wp2
                go_roundw
                case rel => exact ⟨j + 1, by omega, by go_num, by rw [J2.out, ← TE.out]; exact HO.out, hbw⟩
                case measure => first | (simp [intOf]; done) | (simp [intOf]; omega)
          · obtain rfl : fi = fm := hlf
            have J2 := Lib.hid (show fTo l i (j + 1) = turnM F fi fi by rw [NXT.out, JN.out, Int.max_self, Int.min_self])
            clear JN NXT
            go_wp2_with fail
            go_quiet (fail)
            have HQ : Hid (Own inV 1 (wr.drewN nq) w1.heap.size 3 (some ⟨gF, 0, none⟩) n dF (trT F fi fi 0)) := by show Own _ _ _ _ _ _ _ _ _; rw [trT_start]; exact ⟨HO.out.len, HO.out.row⟩
            have tq : Below w.heap.size w (wr.drewN nq) := below_trans hbw (below_drewN wr nq)
            clear HO hbw
            go_wp2_with fail
            go_loopw [57] (fun kv wr => ∃ k : Nat, k ≤ n ∧ kv = .int .i64 k ∧ Own inV 1 wr w1.heap.size 3 (some ⟨gF, 0, none⟩) n dF (trT F fi fi k) ∧ Below w.heap.size w wr) (fun kv _ => n - (intOf kv).toNat)
            case atStart => exact ⟨0, Nat.zero_le _, rfl, HQ.out, tq⟩
            case round =>
              clear HQ tq
              obtain ⟨k, hk, rfl, ho, hbw⟩ := hrel
              by_cases hkn : k < n
              · obtain ⟨fk, hfk⟩ : ∃ v, F[k]? = some v := ⟨_, List.getElem?_eq_getElem (by rw [FL.out]; exact hkn)⟩
                have hg := trT_get (hi := fi) (lo := fi) hfk
                have ck := ho.cell inV_len (i := k) (j := 0) hg rfl
                have fk' := ho.frozen k
                simp only [Nat.mul_one, Nat.add_zero] at ck
                have hgb : w1.heap.size ≤ gF := (ho.lt (k := gF) rfl).1
                have ST := Lib.hid (ho.store inV_len (i := k) (j := 0) hg (by omega) fi (.int .i64 fi) rfl)
                have HO := Lib.hid ho
                clear ho hg
                cases h5 : (fk == fi)
                · have E := Lib.hid (trT_no (hi := fi) (lo := fi) hfk (by simpa using h5))
                  clear hfk
                  go_wp2
                  go_roundw
                  case rel => exact ⟨k + 1, by omega, by go_num, by rw [E.out]; exact HO.out, hbw⟩
                  case measure => first | (simp [intOf]; done) | (simp [intOf]; omega)
                · obtain rfl : fk = fi := by simpa using h5
                  have E := Lib.hid (trT_yes (hi := fk) (lo := fk) hfk)
                  clear hfk
                  go_wp2
                  have S1 := ST.out.1
                  simp only [Nat.mul_one, Nat.add_zero] at S1
                  rw [E.out] at S1
                  go_roundw
                  case rel => exact ⟨k + 1, by omega, by go_num, S1, below_setCell hbw _ _ _ (by omega)⟩
                  case measure => first | (simp [intOf]; done) | (simp [intOf]; omega)
              · obtain rfl : k = n := by omega
                have HO := Lib.hid ho
                have TE := Lib.hid (trT_end (hi := fi) (lo := fi) FL.out)
                clear ho
                go_wp2
                go_roundw
                case rel => exact ⟨j + 1, by omega, by go_num, by rw [J2.out, ← TE.out]; exact HO.out, hbw⟩
                case measure => first | (simp [intOf]; done) | (simp [intOf]; omega)
          · have J2 := Lib.hid (show fTo l i (j + 1) = turnM F fi fm by rw [NXT.out, JN.out, Int.max_eq_left (by omega), Int.min_eq_right (by omega)])
            clear JN NXT
            go_wp2_with fail
            go_quiet (fail)
            have HQ : Hid (Own inV 1 (wr.drewN nq) w1.heap.size 3 (some ⟨gF, 0, none⟩) n dF (trT F fi fm 0)) := by show Own _ _ _ _ _ _ _ _ _; rw [trT_start]; exact ⟨HO.out.len, HO.out.row⟩
            have tq : Below w.heap.size w (wr.drewN nq) := below_trans hbw (below_drewN wr nq)
            clear HO hbw
            go_wp2_with fail
            go_loopw [57] (fun kv wr => ∃ k : Nat, k ≤ n ∧ kv = .int .i64 k ∧ Own inV 1 wr w1.heap.size 3 (some ⟨gF, 0, none⟩) n dF (trT F fi fm k) ∧ Below w.heap.size w wr) (fun kv _ => n - (intOf kv).toNat)
            case atStart => exact ⟨0, Nat.zero_le _, rfl, HQ.out, tq⟩
            case round =>
              clear HQ tq
              obtain ⟨k, hk, rfl, ho, hbw⟩ := hrel
              by_cases hkn : k < n
              · obtain ⟨fk, hfk⟩ : ∃ v, F[k]? = some v := ⟨_, List.getElem?_eq_getElem (by rw [FL.out]; exact hkn)⟩
                have hg := trT_get (hi := fi) (lo := fm) hfk
                have ck := ho.cell inV_len (i := k) (j := 0) hg rfl
                have fk' := ho.frozen k
                simp only [Nat.mul_one, Nat.add_zero] at ck
                have hgb : w1.heap.size ≤ gF := (ho.lt (k := gF) rfl).1
                have ST := Lib.hid (ho.store inV_len (i := k) (j := 0) hg (by omega) fm (.int .i64 fm) rfl)
                have HO := Lib.hid ho
                clear ho hg
                cases h5 : (fk == fi)
                · have E := Lib.hid (trT_no (hi := fi) (lo := fm) hfk (by simpa using h5))
                  clear hfk
                  go_wp2
                  go_roundw
                  case rel => exact ⟨k + 1, by omega, by go_num, by rw [E.out]; exact HO.out, hbw⟩
                  case measure => first | (simp [intOf]; done) | (simp [intOf]; omega)
                · obtain rfl : fk = fi := by simpa using h5
                  have E := Lib.hid (trT_yes (hi := fk) (lo := fm) hfk)
                  clear hfk
                  go_wp2
                  have S1 := ST.out.1
                  simp only [Nat.mul_one, Nat.add_zero] at S1
                  rw [E.out] at S1
                  go_roundw
                  case rel => exact ⟨k + 1, by omega, by go_num, S1, below_setCell hbw _ _ _ (by omega)⟩
                  case measure => first | (simp [intOf]; done) | (simp [intOf]; omega)
              · obtain rfl : k = n := by omega
                have HO := Lib.hid ho
                have TE := Lib.hid (trT_end (hi := fi) (lo := fm) FL.out)
                clear ho
                go_wp2
                go_roundw
                case rel => exact ⟨j + 1, by omega, by go_num, by rw [J2.out, ← TE.out]; exact HO.out, hbw⟩
                case measure => first | (simp [intOf]; done) | (simp [intOf]; omega)
        · have hjl : j = hc.nn := by omega
          have NE := Lib.hid (fTo_next (l := l) (i := i) (j := j) (by rw [ND.out, XL.out]; omega))
          have HO := Lib.hid ho
          clear ha ho hjl
          go_wp2
          go_roundw
          case rel => exact ⟨i + 1, by omega, by go_num, by rw [← NE.out]; exact HO.out, hbw⟩
          case measure => first | (simp [intOf]; done) | (simp [intOf]; omega)
    · obtain rfl : n = i := by omega
      have oF : Own inV 1 (wr.alloc (.cells #[] 38)) w1.heap.size 3 BF n dF (prtM l) := by
        have FE := fTo_fin l
        rw [HL.out] at FE
        rw [← FE]
        exact ho.alloc _
      have oO : Own hIV 1 (wr.alloc (.cells #[] 38)) w.heap.size 38 (some ⟨wr.heap.size, 0, none⟩) 0 0 [] := (Own.empty hIV 1 wr 38).base_le hbw.size
      have tW : Below w.heap.size w (wr.alloc (.cells #[] 38)) := below_trans hbw (below_alloc _)
      generalize hF : prtM l = F at *
      have PF := Lib.hid hF
      clear hF ho ha hbw
      go_wp2
      go_loopw [12, 76] (fun v kv wr => ∃ k : Nat, k ≤ n ∧ kv = .int .i64 k ∧ (∃ B q d hs, v = .slice B q d ∧ q ≤ k ∧ Own hIV 1 wr w.heap.size 38 B q d hs ∧ (pTo F n k).length = q ∧ InnI wr w.heap.size wr.heap.size hs (pTo F n k)) ∧ Below w.heap.size w wr ∧ Own inV 1 wr w1.heap.size 3 BF n dF F) (fun _ kv _ => n - (intOf kv).toNat)
      case atStart => exact ⟨0, Nat.zero_le _, rfl, ⟨_, 0, _, [], rfl, Nat.le_refl _, oO, rfl, InnI.nil _ _ _ _⟩, tW, oF⟩
      case round =>
        clear oO tW oF
        obtain ⟨k, hk, rfl, ⟨B, q, d, hs, rfl, hq, ho, hql, hI⟩, hbw, oF⟩ := hrel
        have HO := Lib.hid ho
        have HQ := Lib.hid hql
        have HI := Lib.hid hI
        have HF := Lib.hid oF
        clear ho hql hI oF
        by_cases hlt : k < n
        · -- the part of the mark k
          have oe := Own.empty inV 1 wr 3
          have be := below_alloc (w := wr) (.cells #[] 3)
          go_wp2
          obtain ⟨wi, hwi⟩ : ∃ wi : World, wi = wr := ⟨_, rfl⟩
          subst hwi
          go_loopw [14, 82] (fun v jv wr => ∃ j : Nat, j ≤ n ∧ jv = .int .i64 j ∧ (∃ B q d, v = .slice B q d ∧ q ≤ j ∧ Own inV 1 wr wi.heap.size 3 B q d (pAt F k j)) ∧ Below wi.heap.size wi wr) (fun _ jv _ => n - (intOf jv).toNat)
          case atStart => exact ⟨0, Nat.zero_le _, rfl, ⟨_, 0, 0, rfl, Nat.le_refl _, oe⟩, be⟩
          case round =>
            clear oe be
            obtain ⟨j, hj, rfl, ⟨B2, q2, d2, rfl, hq2, ho2⟩, hb2⟩ := hrel
            have HO2 := Lib.hid ho2
            have t2 := below_trans hbw hb2
            clear ho2
            by_cases hjn : j < n
            · obtain ⟨b5, o5, z, hAe, hz, c5⟩ := ((HF.out.below hb2).rd inV_len).in hjn
              have GZ := Lib.hid (show F.getD j 0 = z by simp [List.getD, hz])
              clear hz
              rw [hAe]
              clear hAe
              cases h5 : (z == (k : Int))
              · have E := Lib.hid (pAt_no (F := F) (i := k) (k := j) (by rw [GZ.out]; simpa using h5))
                go_wp2
                go_roundw
                case rel => exact ⟨j + 1, by omega, by go_num, ⟨B2, q2, d2, rfl, by omega, by rw [E.out]; exact HO2.out⟩, hb2⟩
                case measure => first | (simp [intOf]; done) | (simp [intOf]; omega)
              · have E := Lib.hid (pAt_yes (F := F) (i := k) (k := j) (by rw [GZ.out]; simpa using h5))
                go_wp2_with (at_builtin; refine wpList_push rfl _ _ _ rfl wi.heap.size 3 i0 (.int .i64 0) 1 8 Try.underlying38 hii hz0 hz1 hz2 rfl (by omega) inV inV_len one_int2 B2 q2 d2 _ rfl HO2.out (j : Int) _ rfl _ rfl (by first | rfl | simp) (by simp only [maxLen]; omega) (by omega) hb2.size ?_; intro B3 d3 w3 ho3 hg3)
                go_roundw
                case rel => exact ⟨j + 1, by omega, by go_num, ⟨B3, q2 + 1, d3, rfl, by omega, by rw [E.out]; exact ho3⟩, below_push hb2 HO2.out hg3 (Nat.le_refl _)⟩
                case measure => first | (simp [intOf]; done) | (simp [intOf]; omega)
            · obtain rfl : j = n := by omega
              have PL := Lib.hid HO2.out.len
              have OB := Lib.hid (HO.out.below hb2)
              have FB := Lib.hid (HF.out.below hb2)
              by_cases h0 : q2 = 0
              · have E := Lib.hid (show pTo F j (k + 1) = pTo F j k by rw [pTo, if_pos (by rw [PL.out, h0])])
                have IB := Lib.hid (HI.out.below hb2)
                subst h0
                go_wp2
                go_roundw
                case rel => exact ⟨k + 1, by omega, by go_num, ⟨B, q, d, hs, rfl, by omega, OB.out, by rw [E.out]; exact HQ.out, by rw [E.out]; exact IB.out.top_le hb2.size⟩, t2, FB.out⟩
                case measure => first | (simp [intOf]; done) | (simp [intOf]; omega)
              · have E := Lib.hid (show pTo F j (k + 1) = pTo F j k ++ [pAt F k j] by rw [pTo, if_neg (by rw [PL.out]; exact h0)])
                have hl : hs.length = q := HO.out.len
                have IB := Lib.hid ((HI.out.ext (x := pAt F k j) (by rw [hl, HQ.out]; exact Nat.le_refl _)).snoc (h := ⟨B2, q2, d2⟩) (top' := wr.heap.size) hl (by rw [List.getElem?_append_right (by rw [HQ.out]; exact Nat.le_refl _), HQ.out, Nat.sub_self]; rfl) hb2 hb2.size HO2.out hbw.size (Nat.le_refl _) (blk_lt HO2.out))
                have h0' : (0 : Int) < (q2 : Int) := by omega
                go_wp2_with (at_builtin; refine wpList_push rfl _ _ _ rfl w.heap.size 38 l0 (.slice none 0 0) 1 24 Try.underlying34 lii lz0 lz1 lz2 rfl (by omega) hIV hIV_len one_hi B q d _ rfl OB.out ⟨B2, q2, d2⟩ _ rfl _ rfl (by first | rfl | simp) (by simp only [maxLen]; omega) (by omega) t2.size ?_; intro B3 d3 w3 ho3 hg3)
                have O3 := Lib.hid ho3
                have I3 := Lib.hid (IB.out.hdw OB.out hg3)
                have F3 := Lib.hid (FB.out.grown hg3 (FB.out.ne_block OB.out (by decide)))
                clear ho3
                go_roundw
                case rel => exact ⟨k + 1, by omega, by go_num, ⟨B3, q + 1, d3, hs ++ [⟨B2, q2, d2⟩], rfl, by omega, O3.out, by rw [E.out, List.length_append, HQ.out]; rfl, by rw [E.out]; exact I3.out.top_le hg3.size⟩, below_push t2 OB.out hg3 (Nat.le_refl _), F3.out⟩
                case measure => first | (simp [intOf]; done) | (simp [intOf]; omega)
        · obtain rfl : k = n := by omega
          go_wp2
          go_ret2
          exact ⟨⟨_, _, _, _, ret_sl_bool' HV.out.symm, by rw [sepL_yes HV.out, PF.out, HL.out]; exact ⟨HO.out, HQ.out, HI.out, blk_lt HO.out⟩⟩, hbw⟩


theorem l1Least_eq (x y : Int) (w : World) : Calls Try.prog 47 #[.int .i64 x, .int .i64 y] w fun e w' => e = .returned (.int .i64 (min x y)) ∧ w' = w := (l1Least_any x y w).mono fun _ _ h => ⟨h.1, h.2.symm⟩
set_option maxRecDepth 100000 in
set_option maxHeartbeats 4000000 in
theorem specSeparate_any (A : Option Addr) (n c : Nat) (hs0 : List HC) (l : List CL) (w : World) (ha : RdC w A n c hs0 l) (hg : ∀ x ∈ l, ClSz x) :
    Calls Try.prog 15 #[.slice A n c] w fun e w' => (∃ B q d hs, e = .returned (.tuple #[.slice B q d, .bool (clsB l)]) ∧ OwnI w' w.heap.size w'.heap.size B q d hs (sepL l)) ∧ Below w.heap.size w w' := by
  obtain ⟨i0, hii, hz0, hz1, hz2⟩ := info_parts Try.infoin
  obtain ⟨l0, lii, lz0, lz1, lz2⟩ := info_parts Try.infoSl
  have HL := Lib.hid ha.len
  have oe := Own.empty hIV 1 w 38
  have b0 := below_alloc (w := w) (.cells #[] 38)
  go_enter Try.func15, Try.ntmps15
  go_wp2_with fail
  generalize hgw0 : w.alloc (.cells #[] 38) = w0 at *
  clear hgw0
  refine (l19Good_any _ _ _ _ _ _ (ha.below b0) hg).mono ?_
  rintro e w1 ⟨rfl, b1⟩
  cases h1 : clsB l
  · have E := Lib.hid h1
    clear ha
    go_wp2
    go_ret2
    exact ⟨⟨_, _, _, [], ret_sl_bool' E.out.symm, by rw [sepL_no E.out]; exact ⟨oe.below b1, rfl, InnI.nil _ _ _ _, blk_lt (oe.below b1)⟩⟩, below_trans b0 b1⟩
  have HV := Lib.hid h1
  have hn8 : n ≤ 8 := by rw [← HL.out]; exact cls_len h1
  have t1 := below_trans b0 b1
  have o1 := oe.below b1
  clear h1 hg oe b0 b1
  go_wp2_with (at_make; refine wpList_make_full _ rfl _ _ _ rfl w1.heap.size 3 i0 (.int .i64 0) 1 Try.underlying38 hii hz0 hz1 .i64 .i64 _ _ n rfl rfl rfl rfl (by rw [hz2]; omega) (by simp only [maxLen]; omega) (Nat.le_refl _) ?_; intro w2 hown hg1)
  have ho : Own inV 1 w2 w1.heap.size 3 (some ⟨w1.heap.size, 0, none⟩) n n (idM 0 ++ List.replicate (n - 0) 0) := ⟨by simp [idM], by rw [show idM 0 ++ List.replicate (n - 0) (0 : Int) = List.replicate n 0 by simp [idM], ← made_flat (z := (Value.cells (.int .i64 0))) inV_len (by omega) 0 rfl]; exact hown⟩
  have hb1 : Below w1.heap.size w1 w2 := below_of_grown hg1 (Nat.le_refl _) (fun k hk => by cases hk)
  have oO := o1.below hb1
  have tb := below_trans t1 hb1
  have hsz1 := t1.size
  clear hown hg1 o1 t1 hb1
  go_loopw [6] (fun kv wr => ∃ k : Nat, k ≤ n ∧ kv = .int .i64 k ∧ Own inV 1 wr w1.heap.size 3 (some ⟨w1.heap.size, 0, none⟩) n n (idM k ++ List.replicate (n - k) 0) ∧ Own hIV 1 wr w.heap.size 38 (some ⟨w.heap.size, 0, none⟩) 0 0 [] ∧ Below w.heap.size w wr) (fun kv _ => n - (intOf kv).toNat)
  case atStart => exact ⟨0, Nat.zero_le _, rfl, ho, oO, tb⟩
  case round =>
    clear ho oO tb
    obtain ⟨k, hk, rfl, ho, oO, hbw⟩ := hrel
    by_cases hkn : k < n
    · have hg := app_rep_get (idM k) (0 : Int) k n (idM_len k) hkn
      have ck := ho.cell inV_len (i := k) (j := 0) hg rfl
      have fk' := ho.frozen k
      simp only [Nat.mul_one, Nat.add_zero] at ck
      have E := Lib.hid (show (idM k ++ List.replicate (n - k) (0 : Int)).set k (k : Int) = idM (k + 1) ++ List.replicate (n - (k + 1)) 0 by rw [app_set_replicate _ _ _ _ _ (idM_len k) hkn, idM_succ])
      have ST := Lib.hid (ho.store inV_len (i := k) (j := 0) hg (by omega) (k : Int) (.int .i64 (k : Int)) rfl)
      have OO := Lib.hid (oO.grown ST.out.2 (oO.ne_block ho (by decide)))
      clear ho hg oO
      go_wp2
      have S1 := ST.out.1
      have S2 := OO.out
      simp only [Nat.mul_one, Nat.add_zero] at S1 S2
      rw [E.out] at S1
      go_roundw
      case rel => exact ⟨k + 1, by omega, by go_num, S1, S2, below_setCell hbw _ _ _ (by omega)⟩
      case measure => first | (simp [intOf]; done) | (simp [intOf]; omega)
    · obtain rfl : n = k := by omega
      have o0 : Own inV 1 wr w1.heap.size 3 (some ⟨w1.heap.size, 0, none⟩) n n (gTo l 0 0 0) := by
        rw [gTo_start, HL.out]
        simpa using ho
      clear ho
      go_wp2
      go_loopw [7] (fun tv wr => ∃ t : Nat, t ≤ n ∧ tv = .int .i64 t ∧ Own inV 1 wr w1.heap.size 3 (some ⟨w1.heap.size, 0, none⟩) n n (gTo l t 0 0) ∧ Own hIV 1 wr w.heap.size 38 (some ⟨w.heap.size, 0, none⟩) 0 0 [] ∧ Below w.heap.size w wr) (fun tv _ => n - (intOf tv).toNat)
      case atStart => exact ⟨0, Nat.zero_le _, rfl, o0, oO, hbw⟩
      case round =>
        clear o0 oO hbw
        obtain ⟨t, ht, rfl, ho, oO, hbw⟩ := hrel
        by_cases htn : t < n
        · have HO := Lib.hid ho
          have OO := Lib.hid oO
          clear ho oO
          go_wp2
          go_loopw [8] (fun iv wr => ∃ i : Nat, i ≤ n ∧ iv = .int .i64 i ∧ Own inV 1 wr w1.heap.size 3 (some ⟨w1.heap.size, 0, none⟩) n n (gTo l t i 0) ∧ Own hIV 1 wr w.heap.size 38 (some ⟨w.heap.size, 0, none⟩) 0 0 [] ∧ Below w.heap.size w wr) (fun iv _ => n - (intOf iv).toNat)
          case atStart => exact ⟨0, Nat.zero_le _, rfl, HO.out, OO.out, hbw⟩
          case round =>
            clear HO OO hbw
            obtain ⟨i, hi, rfl, ho, oO, hbw⟩ := hrel
            by_cases hin : i < n
            · obtain ⟨b3, o3, hc, x, -, hx, hh, -, -, -, x1⟩ := (ha.below hbw).at hin
              have HH := Lib.hid hh
              have HX := Lib.hid hx
              have ND := Lib.hid (nd_of hx)
              have NB := Lib.hid (fun y (hy : y ∈ x.ns) => ns_bd HV.out hx hy)
              have hnn := x1.le
              have XL := Lib.hid x1.len
              have HO := Lib.hid ho
              have OO := Lib.hid oO
              clear hx hh x1 ho oO
              go_wp2
              go_loopw [9] (fun jv wr => ∃ j : Nat, j ≤ hc.nn ∧ jv = .int .i64 j ∧ Own inV 1 wr w1.heap.size 3 (some ⟨w1.heap.size, 0, none⟩) n n (gTo l t i j) ∧ Own hIV 1 wr w.heap.size 38 (some ⟨w.heap.size, 0, none⟩) 0 0 [] ∧ Below w.heap.size w wr) (fun jv _ => hc.nn - (intOf jv).toNat)
              case atStart => exact ⟨0, Nat.zero_le _, rfl, HO.out, OO.out, hbw⟩
              case round =>
                clear HO OO hbw
                obtain ⟨j, hj, rfl, ho, oO, hbw⟩ := hrel
                obtain ⟨b3, o3, h', x', rfl, hx', hh', c0, c1, -, x1'⟩ := (ha.below hbw).at hin
                obtain rfl : hc = h' := by have h5 := HH.out; rw [hh'] at h5; injection h5 with h5; exact h5.symm
                obtain rfl : x = x' := by have h5 := HX.out; rw [hx'] at h5; injection h5 with h5; exact h5.symm
                have hi0 : (0 : Int) ≤ (i : Int) := by omega
                have hin' : (i : Int) < (n : Int) := by omega
                by_cases hjn : j < hc.nn
                · obtain ⟨b4, o4, y, hAe, hy, d1⟩ := x1'.in hjn
                  have hyb := NB.out y (List.mem_of_getElem? hy)
                  obtain ⟨m, rfl⟩ := Int.eq_ofNat_of_zero_le hyb.1
                  have hmi : m < i := by have := hyb.2; omega
                  have NXT := Lib.hid (gTo_step (l := l) (t := t) (i := i) (j := j) (y := (m : Int)) (by rw [ND.out]; exact hy))
                  have FL := Lib.hid ((gTo_len l t i j).trans HL.out)
                  generalize gTo l t i j = F at *
                  obtain ⟨fi, hfi⟩ : ∃ v, F[i]? = some v := ⟨_, List.getElem?_eq_getElem (by rw [FL.out]; exact hin)⟩
                  obtain ⟨fm, hfm⟩ : ∃ v, F[m]? = some v := ⟨_, List.getElem?_eq_getElem (by rw [FL.out]; omega)⟩
                  have ci := ho.cell inV_len (i := i) (j := 0) hfi rfl
                  have cm := ho.cell inV_len (i := m) (j := 0) hfm rfl
                  have zi := ho.frozen i
                  have zm := ho.frozen m
                  simp only [Nat.mul_one, Nat.add_zero] at ci cm
                  have JN := Lib.hid (show leastM F (i, m) = (F.set i (min fi fm)).set m (min fi fm) by simp [leastM, List.getD, hfi, hfm])
                  rw [Int.toNat_natCast] at NXT
                  have hdiff : i ≠ m := by omega
                  have G1 : Hid ((F.set i (min fi fm))[m]? = some fm) := by show _ = _; rw [List.getElem?_set_ne hdiff]; exact hfm
                  have GI := Lib.hid hfi
                  have HO := Lib.hid ho
                  have OO := Lib.hid oO
                  rw [hAe] at c1
                  have hm0 : (0 : Int) ≤ (m : Int) := by omega
                  have hmn' : (m : Int) < (n : Int) := by omega
                  clear hAe hx' hh' x1' hy hyb hfi hfm ho oO hdiff
                  go_wp2_with fail
                  go_quiet ((go_at_call 47; exact Calls.quiet_of_same (l1Least_eq _ _ _)))
                  have hoq : Own inV 1 (wr.drewN nq) w1.heap.size 3 (some ⟨w1.heap.size, 0, none⟩) n n F := ⟨HO.out.len, HO.out.row⟩
                  have ooq : Own hIV 1 (wr.drewN nq) w.heap.size 38 (some ⟨w.heap.size, 0, none⟩) 0 0 [] := ⟨OO.out.len, OO.out.row⟩
                  have tq : Below w.heap.size w (wr.drewN nq) := below_trans hbw (below_drewN wr nq)
                  have s1 := hoq.store inV_len (i := i) (j := 0) GI.out (by omega) (min fi fm) (.int .i64 (min fi fm)) rfl
                  have o1 := ooq.grown s1.2 (ooq.ne_block hoq (by decide))
                  have s2 := s1.1.store inV_len (i := m) (j := 0) G1.out (by omega) (min fi fm) (.int .i64 (min fi fm)) rfl
                  have o2 := o1.grown s2.2 (o1.ne_block s1.1 (by decide))
                  simp only [Nat.mul_one, Nat.add_zero] at s2 o2
                  rw [← JN.out, ← NXT.out] at s2
                  have S2 := Lib.hid s2.1
                  have O2 := Lib.hid o2
                  have T2 := Lib.hid (below_setCell (below_setCell tq w1.heap.size i (.int .i64 (min fi fm)) hsz1) w1.heap.size m (.int .i64 (min fi fm)) hsz1)
                  clear s1 o1 s2 o2 tq hoq ooq HO OO GI G1 JN NXT
                  go_wp2
                  go_roundw
                  case rel => exact ⟨j + 1, by omega, by go_num, S2.out, O2.out, T2.out⟩
                  case measure => first | (simp [intOf]; done) | (simp [intOf]; omega)
                · have hjl : j = hc.nn := by omega
                  have NE := Lib.hid (gTo_next (l := l) (t := t) (i := i) (j := j) (by rw [ND.out, XL.out]; omega))
                  have HO := Lib.hid ho
                  have OO := Lib.hid oO
                  clear hx' hh' x1' ho oO hjl
                  go_wp2
                  go_roundw
                  case rel => exact ⟨i + 1, by omega, by go_num, by rw [← NE.out]; exact HO.out, OO.out, hbw⟩
                  case measure => first | (simp [intOf]; done) | (simp [intOf]; omega)
            · obtain rfl : n = i := by omega
              have E := Lib.hid (gTo_up l t)
              rw [HL.out] at E
              have HO := Lib.hid ho
              have OO := Lib.hid oO
              clear ho oO
              go_wp2
              go_roundw
              case rel => exact ⟨t + 1, by omega, by go_num, by rw [← E.out]; exact HO.out, OO.out, hbw⟩
              case measure => first | (simp [intOf]; done) | (simp [intOf]; omega)
        · obtain rfl : n = t := by omega
          have oF : Own inV 1 wr w1.heap.size 3 (some ⟨w1.heap.size, 0, none⟩) n n (prtM l) := by
            have FE := gTo_fin HV.out
            rw [HL.out] at FE
            rw [← FE]
            exact ho
          have tW := hbw
          generalize hF : prtM l = F at *
          have PF := Lib.hid hF
          clear hF ho ha hbw
          go_wp2
          go_loopw [4, 12] (fun v kv wr => ∃ k : Nat, k ≤ n ∧ kv = .int .i64 k ∧ (∃ B q d hs, v = .slice B q d ∧ q ≤ k ∧ Own hIV 1 wr w.heap.size 38 B q d hs ∧ (pTo F n k).length = q ∧ InnI wr w.heap.size wr.heap.size hs (pTo F n k)) ∧ Below w.heap.size w wr ∧ Own inV 1 wr w1.heap.size 3 (some ⟨w1.heap.size, 0, none⟩) n n F) (fun _ kv _ => n - (intOf kv).toNat)
          case atStart => exact ⟨0, Nat.zero_le _, rfl, ⟨_, 0, _, [], rfl, Nat.le_refl _, oO, rfl, InnI.nil _ _ _ _⟩, tW, oF⟩
          case round =>
            clear oO tW oF
            obtain ⟨k, hk, rfl, ⟨B, q, d, hs, rfl, hq, ho, hql, hI⟩, hbw, oF⟩ := hrel
            have HO := Lib.hid ho
            have HQ := Lib.hid hql
            have HI := Lib.hid hI
            have HF := Lib.hid oF
            clear ho hql hI oF
            by_cases hlt : k < n
            · -- the part of the mark k
              have oe := Own.empty inV 1 wr 3
              have be := below_alloc (w := wr) (.cells #[] 3)
              go_wp2
              obtain ⟨wi, hwi⟩ : ∃ wi : World, wi = wr := ⟨_, rfl⟩
              subst hwi
              go_loopw [13, 14] (fun v jv wr => ∃ j : Nat, j ≤ n ∧ jv = .int .i64 j ∧ (∃ B q d, v = .slice B q d ∧ q ≤ j ∧ Own inV 1 wr wi.heap.size 3 B q d (pAt F k j)) ∧ Below wi.heap.size wi wr) (fun _ jv _ => n - (intOf jv).toNat)
              case atStart => exact ⟨0, Nat.zero_le _, rfl, ⟨_, 0, 0, rfl, Nat.le_refl _, oe⟩, be⟩
              case round =>
                clear oe be
                obtain ⟨j, hj, rfl, ⟨B2, q2, d2, rfl, hq2, ho2⟩, hb2⟩ := hrel
                have HO2 := Lib.hid ho2
                have t2 := below_trans hbw hb2
                clear ho2
                by_cases hjn : j < n
                · obtain ⟨b5, o5, z, hAe, hz, c5⟩ := ((HF.out.below hb2).rd inV_len).in hjn
                  have GZ := Lib.hid (show F.getD j 0 = z by simp [List.getD, hz])
                  clear hz
                  rw [hAe]
                  clear hAe
                  cases h5 : (z == (k : Int))
                  · have E := Lib.hid (pAt_no (F := F) (i := k) (k := j) (by rw [GZ.out]; simpa using h5))
                    go_wp2
                    go_roundw
                    case rel => exact ⟨j + 1, by omega, by go_num, ⟨B2, q2, d2, rfl, by omega, by rw [E.out]; exact HO2.out⟩, hb2⟩
                    case measure => first | (simp [intOf]; done) | (simp [intOf]; omega)
                  · have E := Lib.hid (pAt_yes (F := F) (i := k) (k := j) (by rw [GZ.out]; simpa using h5))
                    go_wp2_with (at_builtin; refine wpList_push rfl _ _ _ rfl wi.heap.size 3 i0 (.int .i64 0) 1 8 Try.underlying38 hii hz0 hz1 hz2 rfl (by omega) inV inV_len one_int2 B2 q2 d2 _ rfl HO2.out (j : Int) _ rfl _ rfl (by first | rfl | simp) (by simp only [maxLen]; omega) (by omega) hb2.size ?_; intro B3 d3 w3 ho3 hg3)
                    go_roundw
                    case rel => exact ⟨j + 1, by omega, by go_num, ⟨B3, q2 + 1, d3, rfl, by omega, by rw [E.out]; exact ho3⟩, below_push hb2 HO2.out hg3 (Nat.le_refl _)⟩
                    case measure => first | (simp [intOf]; done) | (simp [intOf]; omega)
                · obtain rfl : j = n := by omega
                  have PL := Lib.hid HO2.out.len
                  have OB := Lib.hid (HO.out.below hb2)
                  have FB := Lib.hid (HF.out.below hb2)
                  by_cases h0 : q2 = 0
                  · have E := Lib.hid (show pTo F j (k + 1) = pTo F j k by rw [pTo, if_pos (by rw [PL.out, h0])])
                    have IB := Lib.hid (HI.out.below hb2)
                    subst h0
                    go_wp2
                    go_roundw
                    case rel => exact ⟨k + 1, by omega, by go_num, ⟨B, q, d, hs, rfl, by omega, OB.out, by rw [E.out]; exact HQ.out, by rw [E.out]; exact IB.out.top_le hb2.size⟩, t2, FB.out⟩
                    case measure => first | (simp [intOf]; done) | (simp [intOf]; omega)
                  · have E := Lib.hid (show pTo F j (k + 1) = pTo F j k ++ [pAt F k j] by rw [pTo, if_neg (by rw [PL.out]; exact h0)])
                    have hl : hs.length = q := HO.out.len
                    have IB := Lib.hid ((HI.out.ext (x := pAt F k j) (by rw [hl, HQ.out]; exact Nat.le_refl _)).snoc (h := ⟨B2, q2, d2⟩) (top' := wr.heap.size) hl (by rw [List.getElem?_append_right (by rw [HQ.out]; exact Nat.le_refl _), HQ.out, Nat.sub_self]; rfl) hb2 hb2.size HO2.out hbw.size (Nat.le_refl _) (blk_lt HO2.out))
                    have h0' : (0 : Int) < (q2 : Int) := by omega
                    go_wp2_with (at_builtin; refine wpList_push rfl _ _ _ rfl w.heap.size 38 l0 (.slice none 0 0) 1 24 Try.underlying34 lii lz0 lz1 lz2 rfl (by omega) hIV hIV_len one_hi B q d _ rfl OB.out ⟨B2, q2, d2⟩ _ rfl _ rfl (by first | rfl | simp) (by simp only [maxLen]; omega) (by omega) t2.size ?_; intro B3 d3 w3 ho3 hg3)
                    have O3 := Lib.hid ho3
                    have I3 := Lib.hid (IB.out.hdw OB.out hg3)
                    have F3 := Lib.hid (FB.out.grown hg3 (FB.out.ne_block OB.out (by decide)))
                    clear ho3
                    go_roundw
                    case rel => exact ⟨k + 1, by omega, by go_num, ⟨B3, q + 1, d3, hs ++ [⟨B2, q2, d2⟩], rfl, by omega, O3.out, by rw [E.out, List.length_append, HQ.out]; rfl, by rw [E.out]; exact I3.out.top_le hg3.size⟩, below_push t2 OB.out hg3 (Nat.le_refl _), F3.out⟩
                    case measure => first | (simp [intOf]; done) | (simp [intOf]; omega)
            · obtain rfl : k = n := by omega
              go_wp2
              go_ret2
              exact ⟨⟨_, _, _, _, ret_sl_bool' HV.out.symm, by rw [sepL_yes HV.out, PF.out, HL.out]; exact ⟨HO.out, HQ.out, HI.out, blk_lt HO.out⟩⟩, hbw⟩


end Go.Proofs.Ytndoapgalbljpaa
