/-
  YtcockjjilcapaaaGreatDoorBalI: ballots: the choices of the good ballots counted, both sides. (Printed by wip/gen/bali.py.)
-/
import Derived.Test.YtcockjjilcapaaaGreatDoorCnt
import Derived.Test.YtcockjjilcapaaaGreatDoorPut
import Derived.Test.YtcockjjilcapaaaGreatDoorTail
import Derived.Deep.LoopGhost
namespace Go.Proofs.YtcockjjilcapaaaGreatDoor
open Go Go.RowKit Go.Sort
set_option linter.unusedVariables false

theorem one_str' : ∀ x : ByteArray, ∀ u ∈ stV x, u.oneCell' = true := by intro x u h; simp [stV] at h; subst h; rfl
theorem cnt_le_len {xs : List ByteArray} {p : PR} (h : p ∈ cntP xs) : 0 < p.2 ∧ p.2 ≤ xs.length := by
  have h1 := (cnt_mem xs p).1 h
  refine ⟨h1.2.1, ?_⟩
  rw [h1.2.2]
  exact_mod_cast List.length_filter_le _ _
theorem blk_ne {A B : Option Addr} (h : ∀ k, blockOf B = some k → blockOf A ≠ some k) : blockOf B = none ∨ blockOf B ≠ blockOf A := by
  cases hb : blockOf B with
  | none => exact .inl rfl
  | some k => exact .inr (fun e => h k hb e.symm)
/-- The last text of a list that is counted while sorted. -/
theorem cnt_last {xs : List ByteArray} {k : Nat} {c : ByteArray} (hc : (sortS xs)[k]? = some c) {p : PR} (hp : p ∈ cntP ((sortS xs).take k)) : bL c p.1 = false := by
  obtain ⟨j, hj⟩ := List.mem_iff_getElem?.1 (cnt_from hp)
  rw [List.getElem?_take] at hj
  split at hj
  · exact sortS_le xs (by omega) hj hc
  · cases hj
theorem insC_new {c : ByteArray} {ps : List PR} (h : ps.Pairwise PL) (hle : ∀ p ∈ ps, bL c p.1 = false) (hl : ∀ p, ps[ps.length - 1]? = some p → p.1 ≠ c) : insC c ps = ps ++ [(c, 1)] := by
  have key : ∀ j p, j < ps.length → ps[j]? = some p → bL p.1 c = true := fun j p hj hp => by
    have h1 := hle p (List.mem_of_getElem? hp)
    cases h2 : bL p.1 c
    · exfalso
      have e := bL_tri h2 h1
      by_cases hjl : j = ps.length - 1
      · exact hl p (by rw [← hjl]; exact hp) e
      · obtain ⟨q, hq⟩ : ∃ q, ps[ps.length - 1]? = some q := ⟨_, List.getElem?_eq_getElem (by omega)⟩
        have h3 := List.pairwise_iff_getElem.1 h j (ps.length - 1) hj (by omega) (by omega)
        rw [(List.getElem?_eq_some_iff.1 hp).2, (List.getElem?_eq_some_iff.1 hq).2] at h3
        have h4 := hle q (List.mem_of_getElem? hq)
        rw [← e] at h4
        rw [show bL p.1 q.1 = true from h3] at h4
        cases h4
    · rfl
  rw [insC_at (k := ps.length) key (fun p hp => by rw [List.getElem?_eq_none (Nat.le_refl _)] at hp; cases hp) (Nat.le_refl _), List.getElem?_eq_none (Nat.le_refl _)]
  simp
theorem insC_old {c : ByteArray} {ps : List PR} (h : ps.Pairwise PL) {k : Nat} {p : PR} (hp : ps[k]? = some p) (hc : p.1 = c) : insC c ps = ps.set k (p.1, p.2 + 1) := by
  have hk := (List.getElem?_eq_some_iff.1 hp)
  have hkl := hk.1
  rw [insC_at (k := k) (fun j q hj hq => by
    have h3 := List.pairwise_iff_getElem.1 h j k (by omega) hk.1 hj
    rw [(List.getElem?_eq_some_iff.1 hq).2, hk.2] at h3
    rw [← hc]; exact h3) (fun q hq => by rw [hp] at hq; injection hq with hq; rw [← hq, hc]; exact bL_irr _) (by omega), hp]
  simp [hc]
theorem map_set1 {ps : List PR} {k : Nat} {p : PR} (hp : ps[k]? = some p) (v : Int) : (ps.set k (p.1, v)).map Prod.fst = ps.map Prod.fst := by
  rw [List.map_set]
  apply List.ext_getElem?
  intro j
  by_cases e : k = j
  · subst e
    have hk := (List.getElem?_eq_some_iff.1 hp).1
    rw [List.getElem?_set_self (by simpa using hk), List.getElem?_map, hp]; rfl
  · rw [List.getElem?_set_ne e]
theorem map_set2 (ps : List PR) (k : Nat) (a : ByteArray) (v : Int) : (ps.set k (a, v)).map Prod.snd = (ps.map Prod.snd).set k v := by rw [List.map_set]


set_option maxRecDepth 100000 in
set_option maxHeartbeats 4000000 in
theorem countChoices_any (A : Option Addr) (n c : Nat) (l : List BA) (B0 : Option Addr) (m d0 : Nat) (r : List Int) (w : World) (ha : Rd baV 2 w A n c l) (hb : Rd inV 1 w B0 m d0 r) (hn : n ≤ 1048576) :
    Calls Tryz.prog 29 #[.slice A n c, .slice B0 m d0] w fun e w' => (∃ A1 q d1 A2 d2, e = .returned (.tuple #[.slice A1 q d1, .slice A2 q d2]) ∧ Own stV 1 w' w.heap.size 9 A1 q d1 ((cntP (chL l r)).map Prod.fst) ∧ Own inV 1 w' w.heap.size 3 A2 q d2 ((cntP (chL l r)).map Prod.snd)) ∧ Below w.heap.size w w' := by
  obtain ⟨h0, hi, hz0, hz1, hz2⟩ := info_parts Tryz.infoIn2
  obtain ⟨s0, si, sz0, sz1, sz2⟩ := info_parts Tryz.infoSt'
  have hii := hi
  have HL := Lib.hid ha.len
  have b0 := below_alloc2 (w := w) (.cells #[] 9) (.cells #[] 3)
  have ow1 : Own stV 1 ((w.alloc (.cells #[] 9)).alloc (.cells #[] 3)) w.heap.size 9 (some ⟨w.heap.size, 0, none⟩) 0 0 [] := Own.of_block (heap_old (heap_new rfl)) (Nat.le_refl _)
  have ow2 : Own inV 1 ((w.alloc (.cells #[] 9)).alloc (.cells #[] 3)) w.heap.size 3 (some ⟨w.heap.size + 1, 0, none⟩) 0 0 [] := Own.of_block (heap_new (by simp)) (by omega)
  have sz0' : w.heap.size < ((w.alloc (.cells #[] 9)).alloc (.cells #[] 3)).heap.size := by simp; omega
  go_enter Tryz.func29, Tryz.ntmps29
  go_wp2_with fail
  generalize hgw0 : (w.alloc (.cells #[] 9)).alloc (.cells #[] 3) = w0 at *
  clear hgw0
  refine (goodChoices_any _ _ _ l _ _ _ r _ (ha.below b0) (hb.below b0) hn).mono ?_
  rintro e w1 ⟨⟨Bs, q, ds, rfl, os⟩, b1⟩
  have hq : q ≤ n := by rw [← os.len, sortS_len, ← HL.out]; exact chL_len l r
  have QL := Lib.hid os.len
  have t1 := below_trans b0 b1
  replace ow1 := ow1.below b1
  replace ow2 := ow2.below b1
  have D0 : Hid (∀ k, blockOf Bs = some k → blockOf (some (⟨w.heap.size, 0, none⟩ : Addr)) ≠ some k) := fun k hk e => by
    have h1 := (os.lt hk).1
    simp [blockOf] at e
    omega
  clear ha hb b0 b1 sz0'
  go_wp2
  go_loopw [6, 7, 17] (fun nv cv i wr => ∃ k : Nat, k ≤ q ∧ i = .int .i64 k ∧ (∃ A1 m1 d1 A2 d2, nv = .slice A1 m1 d1 ∧ cv = .slice A2 m1 d2 ∧ m1 ≤ k ∧ Own stV 1 wr w.heap.size 9 A1 m1 d1 ((cntP ((sortS (chL l r)).take k)).map Prod.fst) ∧ Own inV 1 wr w.heap.size 3 A2 m1 d2 ((cntP ((sortS (chL l r)).take k)).map Prod.snd) ∧ ∀ k, blockOf Bs = some k → blockOf A1 ≠ some k) ∧ Below w.heap.size w wr ∧ Own stV 1 wr w0.heap.size 9 Bs q ds (sortS (chL l r))) (fun _ _ i _ => q - (intOf i).toNat)
  case atStart => exact ⟨0, Nat.zero_le _, rfl, ⟨_, 0, 0, _, 0, rfl, rfl, Nat.le_refl _, ow1, ow2, D0.out⟩, t1, os⟩
  case round =>
    clear ow1 ow2 t1 os D0
    obtain ⟨k, hk, rfl, ⟨A1, m1, d1, A2, d2, rfl, rfl, hm1, ho1, ho2, hds⟩, hbw, os⟩ := hrel
    have DS := Lib.hid hds
    clear hds
    by_cases hlt : k < q
    · obtain ⟨b3, o3, s, rfl, hs, c0⟩ := (os.rd stV_len).st hlt
      have HS := Lib.hid hs
      have NX := Lib.hid (cnt_next hs)
      have SP := Lib.hid (cnt_spec ((sortS (chL l r)).take k)).1
      have LE : Hid (∀ p ∈ cntP ((sortS (chL l r)).take k), bL s p.1 = false) := fun p hp => cnt_last hs hp
      have ML : Hid ((cntP ((sortS (chL l r)).take k)).length = m1) := by show _ = _; have := ho1.len; simpa using this
      clear hs
      cases h5 : s.toList.isEmpty
      · have E0 := Lib.hid (show cntStep (cntP ((sortS (chL l r)).take k)) s = insC s (cntP ((sortS (chL l r)).take k)) by unfold cntStep; rw [show emp s = false from h5]; rfl)
        cases hm0 : m1 with
        | zero =>
          subst hm0
          have E1 : Hid (cntP ((sortS (chL l r)).take (k + 1)) = cntP ((sortS (chL l r)).take k) ++ [(s, 1)]) := by
            show _ = _
            rw [NX.out, E0.out, insC_new SP.out LE.out (fun p hp => by rw [List.getElem?_eq_none (by rw [ML.out]; omega)] at hp; cases hp)]
          have HO1 := Lib.hid ho1
          have HO2 := Lib.hid ho2
          have HS2 := Lib.hid os
          clear ho1 ho2 os
          have ne21 := Lib.hid (HO2.out.ne_block HO1.out (by decide))
          go_wp2_with (first
            | (at_builtin; refine wpList_push_at rfl _ _ _ rfl w.heap.size 9 s0 (.string ByteArray.empty) 1 16 Tryz.underlying38 si sz0 sz1 sz2 rfl (by omega) stV stV_len one_str' A1 0 d1 _ rfl HO1.out s _ rfl _ rfl (by first | rfl | simp) (by simp only [maxLen]; omega) (by omega) hbw.size ?_; intro A1' d1' w3 ho1' hg1 hat1; have O1 := Lib.hid ho1'; have O2 := Lib.hid (HO2.out.grown hg1 ne21.out); have OS := Lib.hid (HS2.out.grown hg1 (blk_ne DS.out)); have DS2 := Lib.hid (fun (k : Nat) hk => hat1 k (HS2.out.lt hk).2 (DS.out k hk)); have t3 : Below w.heap.size w w3 := below_push hbw HO1.out hg1 (Nat.le_refl _); clear ho1' hat1)
            | (at_builtin; refine wpList_push_at rfl _ _ _ rfl w.heap.size 3 h0 (.int .i64 0) 1 8 Tryz.underlying33 hi hz0 hz1 hz2 rfl (by omega) inV inV_len one_int2 A2 0 d2 _ rfl O2.out 1 _ rfl _ rfl (by first | rfl | simp) (by simp only [maxLen]; omega) (by omega) t3.size ?_; intro A2' d2' w4 ho2' hg2 hat2))
          have O1b := Lib.hid (O1.out.grown hg2 (O1.out.ne_block O2.out (by decide)))
          have O2b := Lib.hid ho2'
          have OSb := Lib.hid (OS.out.grown hg2 (OS.out.ne_block O2.out (by decide)))
          have t4 : Below w.heap.size w w4 := below_push t3 O2.out hg2 (Nat.le_refl _)
          clear ho2' hat2
          go_roundw
          case rel => exact ⟨k + 1, by omega, by go_num, ⟨A1', _, d1', A2', d2', rfl, rfl, (by omega), (by rw [E1.out]; simpa using O1b.out), (by rw [E1.out]; simpa using O2b.out), DS2.out⟩, t4, OSb.out⟩
          case measure => simp [intOf]; omega
        | succ m =>
          subst hm0
          obtain ⟨p, hp⟩ : ∃ p, (cntP ((sortS (chL l r)).take k))[m]? = some p := ⟨_, List.getElem?_eq_getElem (by rw [ML.out]; omega)⟩
          have HP := Lib.hid hp
          have hpb := cnt_le_len (List.mem_of_getElem? hp)
          have hpl : p.2 ≤ 1048576 := by have := hpb.2; have h9 : ((sortS (chL l r)).take k).length ≤ k := List.length_take_le _ _; omega
          have hp0 := hpb.1
          obtain ⟨g1, rfl⟩ := ho1.form (by omega)
          obtain ⟨g2, rfl⟩ := ho2.form (by omega)
          have q1 := ho1.cell stV_len (i := m) (j := 0) (x := p.1) (by rw [List.getElem?_map, hp]; rfl) rfl
          have q2 := ho2.cell inV_len (i := m) (j := 0) (x := p.2) (by rw [List.getElem?_map, hp]; rfl) rfl
          have f2 := ho2.frozen m
          simp only [Nat.mul_one, Nat.add_zero] at q1 q2
          clear hp hpb
          cases h6 : (p.1.toList == s.toList)
          · have E1 : Hid (cntP ((sortS (chL l r)).take (k + 1)) = cntP ((sortS (chL l r)).take k) ++ [(s, 1)]) := by
              show _ = _
              rw [NX.out, E0.out, insC_new SP.out LE.out (fun p' hp' => by rw [ML.out, Nat.add_sub_cancel, HP.out] at hp'; injection hp' with hp'; rw [← hp']; exact str_ne h6)]
            have HO1 := Lib.hid ho1
            have HO2 := Lib.hid ho2
            have HS2 := Lib.hid os
            clear ho1 ho2 os
            have ne21 := Lib.hid (HO2.out.ne_block HO1.out (by decide))
            go_wp2_with (first
              | (at_builtin; refine wpList_push_at rfl _ _ _ rfl w.heap.size 9 s0 (.string ByteArray.empty) 1 16 Tryz.underlying38 si sz0 sz1 sz2 rfl (by omega) stV stV_len one_str' (some ⟨g1, 0, none⟩) (m + 1) d1 _ rfl HO1.out s _ rfl _ rfl (by first | rfl | simp) (by simp only [maxLen]; omega) (by omega) hbw.size ?_; intro A1' d1' w3 ho1' hg1 hat1; have O1 := Lib.hid ho1'; have O2 := Lib.hid (HO2.out.grown hg1 ne21.out); have OS := Lib.hid (HS2.out.grown hg1 (blk_ne DS.out)); have DS2 := Lib.hid (fun (k : Nat) hk => hat1 k (HS2.out.lt hk).2 (DS.out k hk)); have t3 : Below w.heap.size w w3 := below_push hbw HO1.out hg1 (Nat.le_refl _); clear ho1' hat1)
              | (at_builtin; refine wpList_push_at rfl _ _ _ rfl w.heap.size 3 h0 (.int .i64 0) 1 8 Tryz.underlying33 hi hz0 hz1 hz2 rfl (by omega) inV inV_len one_int2 (some ⟨g2, 0, none⟩) (m + 1) d2 _ rfl O2.out 1 _ rfl _ rfl (by first | rfl | simp) (by simp only [maxLen]; omega) (by omega) t3.size ?_; intro A2' d2' w4 ho2' hg2 hat2))
            have O1b := Lib.hid (O1.out.grown hg2 (O1.out.ne_block O2.out (by decide)))
            have O2b := Lib.hid ho2'
            have OSb := Lib.hid (OS.out.grown hg2 (OS.out.ne_block O2.out (by decide)))
            have t4 : Below w.heap.size w w4 := below_push t3 O2.out hg2 (Nat.le_refl _)
            clear ho2' hat2
            go_roundw
            case rel => exact ⟨k + 1, by omega, by go_num, ⟨A1', _, d1', A2', d2', rfl, rfl, (by omega), (by rw [E1.out]; simpa using O1b.out), (by rw [E1.out]; simpa using O2b.out), DS2.out⟩, t4, OSb.out⟩
            case measure => simp [intOf]; omega
          · have E1 : Hid (cntP ((sortS (chL l r)).take (k + 1)) = (cntP ((sortS (chL l r)).take k)).set m (p.1, p.2 + 1)) := by
              show _ = _
              rw [NX.out, E0.out, insC_old SP.out HP.out (str_eq h6)]
            have F1 : Hid ((cntP ((sortS (chL l r)).take (k + 1))).map Prod.fst = (cntP ((sortS (chL l r)).take k)).map Prod.fst) := by show _ = _; rw [E1.out, map_set1 HP.out]
            have F2 : Hid ((cntP ((sortS (chL l r)).take (k + 1))).map Prod.snd = ((cntP ((sortS (chL l r)).take k)).map Prod.snd).set m (p.2 + 1)) := by show _ = _; rw [E1.out, map_set2]
            have ST := Lib.hid (ho2.store inV_len (i := m) (j := 0) (x := p.2) (by rw [List.getElem?_map, HP.out]; rfl) (by omega) (p.2 + 1) (.int .i64 (p.2 + 1)) rfl)
            have HO1 := Lib.hid ho1
            have HOS := Lib.hid os
            have N1 := Lib.hid (ho1.ne_block ho2 (by decide))
            have N2 := Lib.hid (os.ne_block ho2 (by decide))
            have hg2 : w.heap.size ≤ g2 := (ho2.lt (k := g2) rfl).1
            clear ho1 ho2 os
            go_wp2
            have G := ST.out.2
            have O2 := ST.out.1
            simp only [Nat.mul_one, Nat.add_zero] at G O2
            go_roundw
            case rel => exact ⟨k + 1, by omega, by go_num, ⟨_, _, d1, _, d2, rfl, rfl, (by omega), (by rw [F1.out]; exact HO1.out.grown G N1.out), (by rw [F2.out]; exact O2), DS.out⟩, below_setCell hbw _ _ _ hg2, HOS.out.grown G N2.out⟩
            case measure => simp [intOf]; omega
      · have E1 : Hid (cntP ((sortS (chL l r)).take (k + 1)) = cntP ((sortS (chL l r)).take k)) := by
          show _ = _
          rw [NX.out]; unfold cntStep; rw [show emp s = true from h5]; rfl
        have HO1 := Lib.hid ho1
        have HO2 := Lib.hid ho2
        have HOS := Lib.hid os
        clear ho1 ho2 os
        go_wp2
        go_roundw
        case rel => exact ⟨k + 1, by omega, by go_num, ⟨_, _, d1, _, d2, rfl, rfl, (by omega), (by rw [E1.out]; exact HO1.out), (by rw [E1.out]; exact HO2.out), DS.out⟩, hbw, HOS.out⟩
        case measure => simp [intOf]; omega
    · obtain rfl : k = q := by omega
      have E : Hid (cntP ((sortS (chL l r)).take k) = cntP (chL l r)) := by
        show _ = _
        rw [List.take_of_length_le (by rw [QL.out]; exact Nat.le_refl _), cnt_sort]
      have HO1 := Lib.hid ho1
      have HO2 := Lib.hid ho2
      clear ho1 ho2 os
      go_wp2
      go_ret2
      exact ⟨⟨_, _, _, _, _, rfl, by rw [← E.out]; exact HO1.out, by rw [← E.out]; exact HO2.out⟩, hbw⟩

end Go.Proofs.YtcockjjilcapaaaGreatDoor
