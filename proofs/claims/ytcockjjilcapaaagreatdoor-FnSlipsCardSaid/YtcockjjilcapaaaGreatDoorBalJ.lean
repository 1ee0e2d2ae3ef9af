/-
  YtcockjjilcapaaaGreatDoorBalJ: ballots: the choices of the good ballots counted, the reference's side. (Printed by wip/gen/balj.py.)
-/
import Derived.Test.YtcockjjilcapaaaGreatDoorBalI
import Derived.Deep.RegionLaw
import Derived.Deep.DeepCutAuto
namespace Go.Proofs.YtcockjjilcapaaaGreatDoor
open Go Go.RowKit Go.Sort
set_option linter.unusedVariables false


set_option maxRecDepth 100000 in
set_option maxHeartbeats 8000000 in
theorem l20Count_any (A : Option Addr) (n c : Nat) (l : List BA) (B0 : Option Addr) (m d0 : Nat) (r : List Int) (w : World) (ha : Rd baV 2 w A n c l) (hb : Rd inV 1 w B0 m d0 r) (hn : n ≤ 1048576) :
    Calls Tryz.prog 32 #[.slice A n c, .slice B0 m d0] w fun e w' => (∃ A1 q d1 A2 d2, e = .returned (.tuple #[.slice A1 q d1, .slice A2 q d2]) ∧ Own stV 1 w' w.heap.size 9 A1 q d1 ((cntP (chL l r)).map Prod.fst) ∧ Own inV 1 w' w.heap.size 3 A2 q d2 ((cntP (chL l r)).map Prod.snd)) ∧ Below w.heap.size w w' := by
  obtain ⟨h0, hi, hz0, hz1, hz2⟩ := info_parts Tryz.infoIn2
  obtain ⟨s0, si, sz0, sz1, sz2⟩ := info_parts Tryz.infoSt'
  have HL := Lib.hid ha.len
  have b0 := below_alloc2 (w := w) (.cells #[] 9) (.cells #[] 3)
  have ow1 : Own stV 1 ((w.alloc (.cells #[] 9)).alloc (.cells #[] 3)) w.heap.size 9 (some ⟨w.heap.size, 0, none⟩) 0 0 [] := Own.of_block (heap_old (heap_new rfl)) (Nat.le_refl _)
  have ow2 : Own inV 1 ((w.alloc (.cells #[] 9)).alloc (.cells #[] 3)) w.heap.size 3 (some ⟨w.heap.size + 1, 0, none⟩) 0 0 [] := Own.of_block (heap_new (by simp)) (by omega)
  have sz0' : w.heap.size + 1 < ((w.alloc (.cells #[] 9)).alloc (.cells #[] 3)).heap.size := by simp
  go_enter Tryz.func32, Tryz.ntmps32
  go_wp2_with fail
  generalize hgw0 : (w.alloc (.cells #[] 9)).alloc (.cells #[] 3) = w0 at *
  clear hgw0
  refine (l20Good_any _ _ _ l _ _ _ r _ (ha.below b0) (hb.below b0) hn).mono ?_
  rintro e w1 ⟨⟨Bg, q, dg, rfl, og⟩, b1⟩
  have hq : q ≤ n := by rw [← og.len, ← HL.out]; exact goodX_len l r
  have GL := Lib.hid og.len
  have t1 := below_trans b0 b1
  replace ow1 := ow1.below b1
  replace ow2 := ow2.below b1
  have D0 : Hid (∀ k, blockOf Bg = some k → blockOf (some (⟨w.heap.size + 1, 0, none⟩ : Addr)) ≠ some k) := fun k hk e => by
    have h1 := (og.lt hk).1
    simp [blockOf] at e
    omega
  clear hb b0 b1 sz0'
  go_wp2
  go_loopg [6, 7, 9] q (fun g nv cv i wr => ∃ k : Nat, k ≤ q ∧ g = q - k ∧ i = .int .i64 k ∧ (∃ A1 m1 d1 A2 d2, nv = .slice A1 m1 d1 ∧ cv = .slice A2 m1 d2 ∧ m1 ≤ k ∧ Own stV 1 wr w.heap.size 9 A1 m1 d1 ((cntP ((chL l r).take k)).map Prod.fst) ∧ Own inV 1 wr w.heap.size 3 A2 m1 d2 ((cntP ((chL l r).take k)).map Prod.snd) ∧ ∀ k, blockOf Bg = some k → blockOf A2 ≠ some k) ∧ Below w.heap.size w wr ∧ Own inV 1 wr w0.heap.size 3 Bg q dg (goodX l r))
  case atStart => exact ⟨0, Nat.zero_le _, rfl, rfl, ⟨_, 0, 0, _, 0, rfl, rfl, Nat.le_refl _, ow1, ow2, D0.out⟩, t1, og⟩
  case round =>
    clear ow1 ow2 t1 og D0
    obtain ⟨k, hk, rfl, rfl, ⟨A1, m1, d1, A2, d2, rfl, rfl, hm1, ho1, ho2, hds⟩, hbw, og⟩ := hrel
    have DS := Lib.hid hds
    clear hds
    by_cases hlt : k < q
    · obtain ⟨b4, o4, y0, rfl, hy, e1⟩ := (og.rd inV_len).in hlt
      obtain ⟨i, x, rfl, hx, hch⟩ := goodX_at hy
      have hil : i < n := by rw [← HL.out]; exact (List.getElem?_eq_some_iff.1 hx).1
      obtain ⟨b3, o3, x', rfl, hx', c0, c1⟩ := (ha.below hbw).ba hil
      obtain rfl : x = x' := by rw [hx] at hx'; injection hx'
      have HS : Hid ((chL l r)[k]? = some x.ch) := by unfold chL; show _ = _; rw [List.getElem?_map, hy, Option.map_some, hch]
      have NX := Lib.hid (cnt_next HS.out)
      have OG := Lib.hid og
      clear hx' hx hy hch ha og
      cases h5 : x.ch.toList.isEmpty
      · have E0 := Lib.hid (show cntStep (cntP ((chL l r).take k)) x.ch = insC x.ch (cntP ((chL l r).take k)) by unfold cntStep; rw [show emp x.ch = false from h5]; rfl)
        have SP := Lib.hid (cnt_spec ((chL l r).take k)).1
        have CL0 : Hid (∀ p ∈ cntP ((chL l r).take k), 0 < p.2 ∧ p.2 ≤ 1048576) := fun p hp => by
          have h1 := cnt_le_len hp
          have h2 : ((chL l r).take k).length ≤ k := List.length_take_le _ _
          exact ⟨h1.1, by have := h1.2; omega⟩
        generalize hps : cntP ((chL l r).take k) = ps at *
        clear hps
        have ML : Hid (ps.length = m1) := by show _ = _; have := ho1.len; simpa using this
        have R1 := Lib.hid (ho1.rd stV_len)
        have R2 := Lib.hid (ho2.rd inV_len)
        have HO1 := Lib.hid ho1
        have HO2 := Lib.hid ho2
        have hc1 := R1.out.cap
        have hc2 := R2.out.cap
        have hsz := hbw.size
        clear ho1 ho2
        go_wp2
        obtain ⟨wo, hwo⟩ : ∃ wo : World, wo = wr := ⟨_, rfl⟩
        subst hwo
        go_loop [11] (fun v => ∃ j : Nat, j ≤ m1 ∧ v = .int .i64 j ∧ ∀ t p, t < j → ps[t]? = some p → bL p.1 x.ch = true) (fun v => m1 - (intOf v).toNat)
        case atStart => exact ⟨0, Nat.zero_le _, rfl, fun t p ht => absurd ht (by omega)⟩
        case round =>
          obtain ⟨j, hj, rfl, hup⟩ := hrel
          have HU := Lib.hid hup
          clear hup
          by_cases hjm : j < m1
          · obtain ⟨b5, o5, y, rfl, hy5, c5⟩ := R1.out.st hjm
            obtain ⟨b6, o6, v6, rfl, hy6, c6⟩ := R2.out.in hjm
            obtain ⟨p, hp⟩ : ∃ p, ps[j]? = some p := ⟨_, List.getElem?_eq_getElem (by rw [ML.out]; exact hjm)⟩
            obtain rfl : p.1 = y := by rw [List.getElem?_map, hp] at hy5; injection hy5
            obtain rfl : p.2 = v6 := by rw [List.getElem?_map, hp] at hy6; injection hy6
            have HP := Lib.hid hp
            have hpb := CL0.out p (List.mem_of_getElem? hp)
            have hp0 := hpb.1
            have hp1 := hpb.2
            clear hp hy5 hy6 hpb
            cases h6 : Op.bytesLess p.1.toList x.ch.toList
            · cases h7 : (p.1.toList == x.ch.toList)
              · have E1 : Hid (cntP ((chL l r).take (k + 1)) = ps.take j ++ (x.ch, 1) :: ps.drop j) := by
                  show _ = _
                  rw [NX.out, E0.out, insC_at (k := j) HU.out (fun p' hp' => by rw [HP.out] at hp'; injection hp' with hp'; rw [← hp']; exact h6) (by rw [ML.out]; omega), HP.out]
                  simp only
                  rw [if_neg (str_ne h7)]
                have F1 : Hid ((cntP ((chL l r).take (k + 1))).map Prod.fst = (ps.map Prod.fst).take j ++ x.ch :: (ps.map Prod.fst).drop j) := by show _ = _; rw [E1.out]; simp
                have F2 : Hid ((cntP ((chL l r).take (k + 1))).map Prod.snd = (ps.map Prod.snd).take j ++ 1 :: (ps.map Prod.snd).drop j) := by show _ = _; rw [E1.out]; simp
                have RT1 := Lib.hid (R1.out.take' hj)
                have RD1 := Lib.hid (R1.out.drop hj)
                have R2b := Lib.hid (And.intro (R2.out.take' hj) (R2.out.drop hj))
                rw [Nat.mul_one] at RD1 R2b
                have hj0 : (0 : Int) ≤ (j : Int) := by omega
                have hjd1 : (j : Int) ≤ (d1 : Int) := by omega
                have hjd2 : (j : Int) ≤ (d2 : Int) := by omega
                have hjm' : (j : Int) ≤ (m1 : Int) := by omega
                have hk1 : ¬ d1 = j := by omega
                have hk2 : ¬ d2 = j := by omega
                go_upto_region 13 with fail
                go_cut [6] (fun v wy => ∃ B d, v = .slice B (m1 + 1) d ∧ Own stV 1 wy wo.heap.size 9 B (m1 + 1) d ((ps.map Prod.fst).take j ++ x.ch :: (ps.map Prod.fst).drop j) ∧ Below wo.heap.size wo wy)
                case first =>
                  go_region_law (first
                    | (refine step_pushAll rfl (.tmp 67) (.tmp 70) _ rfl wo.heap.size 9 s0 (.string ByteArray.empty) 1 16 Tryz.underlying38 si sz0 sz1 sz2 rfl (by omega) stV stV_len one_str'  _ 0 0 [] _ j d1 ((ps.map Prod.fst).take j) rfl rfl j (by omega) (by simp only [maxLen]; omega) (by omega) (by first | omega | (simp; done) | (simp; omega)) ?_ ?_ ?_
                       · exact Own.of_block (by first | exact heap_new (by simp) | exact heap_old (heap_new (by simp)) | exact heap_old (heap_old (heap_new (by simp)))) (by first | omega | (simp; done) | (simp; omega))
                       · first | exact (RT1.out.alloc _).drew | exact ((RT1.out.alloc _).alloc _).drew | exact (((RT1.out.alloc _).alloc _).alloc _).drew
                       intro B1 dq1 w1 o1 g1
                       have s1 : wo.heap.size ≤ w1.heap.size := by have := g1.size; simp at this; omega
                       have b1 : Below wo.heap.size wo w1 := (by first | exact (below_alloc _).drew | exact (below_alloc2 _ _).drew | exact (below_alloc3 _ _ _).drew : Below wo.heap.size wo _).grown g1 (by first | omega | (simp; done) | (simp; omega)) (fun k hk => by simp [blockOf] at hk; omega))
                    | (refine step_pushAll rfl (.tmp 71) (.tmp 73) _ rfl wo.heap.size 9 s0 (.string ByteArray.empty) 1 16 Tryz.underlying38 si sz0 sz1 sz2 rfl (by omega) stV stV_len one_str'  _ j _ ((ps.map Prod.fst).take j) _ 1 1 [x.ch] rfl rfl (j + 1) rfl (by simp only [maxLen]; omega) (by omega) (by first | omega | (simp; omega)) ?_ ?_ ?_
                       · first | exact o1 | exact o1.alloc _
                       · first | exact Rd.of_block (heap_new (by simp)) rfl | exact Rd.of_block (heap_grown g1 (by first | exact heap_new (by simp) | exact heap_old (heap_new (by simp)) | exact heap_old (heap_old (heap_new (by simp)))) (by simp [blockOf] <;> omega)) rfl
                       intro B2 dq2 w2 o2 g2
                       have b2 : Below wo.heap.size wo w2 := by first | exact below_push b1 o1 g2 (Nat.le_refl _) | exact below_push (below_trans b1 (below_alloc _)) (o1.alloc _) g2 (Nat.le_refl _))
                    | (refine step_pushAll rfl (.tmp 74) (.tmp 77) _ rfl wo.heap.size 9 s0 (.string ByteArray.empty) 1 16 Tryz.underlying38 si sz0 sz1 sz2 rfl (by omega) stV stV_len one_str'  _ (j + 1) _ ((ps.map Prod.fst).take j ++ [x.ch]) (some ⟨b5, o5 + j, none⟩) (m1 - j) (d1 - j) ((ps.map Prod.fst).drop j) rfl rfl (m1 + 1) (by omega) (by simp only [maxLen]; omega) (by omega) (by have := b2.size; omega) ?_ ?_ ?_
                       · exact o2
                       · exact RD1.out.below b2
                       intro B3 dq3 w3 o3 g3
                       have b3 : Below wo.heap.size wo w3 := below_push b2 o2 g3 (Nat.le_refl _)))
                  all_goals (go_wp2_with fail; go_meet; exact ⟨B3, dq3, rfl, by simpa using o3, b3⟩)
                case rest =>
                obtain ⟨B9, d9, rfl, o9, b9⟩ := hcut
                obtain ⟨wx, rfl⟩ : ∃ y : World, y = wc := ⟨_, rfl⟩
                have O9 := Lib.hid o9
                have RT2 := Lib.hid (R2b.out.1.below b9)
                have RD2 := Lib.hid (R2b.out.2.below b9)
                clear o9
                go_upto_region 14 with fail
                go_region_law (first
                  | (refine step_pushAll rfl (.tmp 79) (.tmp 82) _ rfl wx.heap.size 3 h0 (.int .i64 0) 1 8 Tryz.underlying33 hi hz0 hz1 hz2 rfl (by omega) inV inV_len one_int2  _ 0 0 [] _ j d2 ((ps.map Prod.snd).take j) rfl rfl j (by omega) (by simp only [maxLen]; omega) (by omega) (by first | omega | (simp; done) | (simp; omega)) ?_ ?_ ?_
                     · exact Own.of_block (by first | exact heap_new (by simp) | exact heap_old (heap_new (by simp)) | exact heap_old (heap_old (heap_new (by simp)))) (by first | omega | (simp; done) | (simp; omega))
                     · first | exact (RT2.out.alloc _).drew | exact ((RT2.out.alloc _).alloc _).drew | exact (((RT2.out.alloc _).alloc _).alloc _).drew
                     intro B1 dq1 w1 o1 g1
                     have s1 : wx.heap.size ≤ w1.heap.size := by have := g1.size; simp at this; omega
                     have b1 : Below wx.heap.size wx w1 := (by first | exact (below_alloc _).drew | exact (below_alloc2 _ _).drew | exact (below_alloc3 _ _ _).drew : Below wx.heap.size wx _).grown g1 (by first | omega | (simp; done) | (simp; omega)) (fun k hk => by simp [blockOf] at hk; omega))
                  | (refine step_pushAll rfl (.tmp 83) (.tmp 84) _ rfl wx.heap.size 3 h0 (.int .i64 0) 1 8 Tryz.underlying33 hi hz0 hz1 hz2 rfl (by omega) inV inV_len one_int2  _ j _ ((ps.map Prod.snd).take j) _ 1 1 [1] rfl rfl (j + 1) rfl (by simp only [maxLen]; omega) (by omega) (by first | omega | (simp; omega)) ?_ ?_ ?_
                     · first | exact o1 | exact o1.alloc _
                     · first | exact Rd.of_block (heap_new (by simp)) rfl | exact Rd.of_block (heap_grown g1 (by first | exact heap_new (by simp) | exact heap_old (heap_new (by simp)) | exact heap_old (heap_old (heap_new (by simp)))) (by simp [blockOf] <;> omega)) rfl
                     intro B2 dq2 w2 o2 g2
                     have b2 : Below wx.heap.size wx w2 := by first | exact below_push b1 o1 g2 (Nat.le_refl _) | exact below_push (below_trans b1 (below_alloc _)) (o1.alloc _) g2 (Nat.le_refl _))
                  | (refine step_pushAll rfl (.tmp 85) (.tmp 88) _ rfl wx.heap.size 3 h0 (.int .i64 0) 1 8 Tryz.underlying33 hi hz0 hz1 hz2 rfl (by omega) inV inV_len one_int2  _ (j + 1) _ ((ps.map Prod.snd).take j ++ [1]) (some ⟨b6, o6 + j, none⟩) (m1 - j) (d2 - j) ((ps.map Prod.snd).drop j) rfl rfl (m1 + 1) (by omega) (by simp only [maxLen]; omega) (by omega) (by have := b2.size; omega) ?_ ?_ ?_
                     · exact o2
                     · exact RD2.out.below b2
                     intro B3 dq3 w3 o3 g3
                     have b3 : Below wx.heap.size wx w3 := below_push b2 o2 g3 (Nat.le_refl _)))
                all_goals
                  have O8 := Lib.hid o3
                  clear o3 o2 o1
                  go_wp2
                  go_roundg (q - (k + 1))
                  case measure => omega
                  case rel => exact ⟨k + 1, by omega, rfl, by go_num, ⟨B9, m1 + 1, d9, B3, dq3, rfl, rfl, by omega, by rw [F1.out]; exact (O9.out.below b3).base_le hsz, by rw [F2.out]; have h9 := O8.out.base_le (Nat.le_trans hsz b9.size); simpa using h9, fun kk hk e => by have h1 := (O8.out.lt e).1; have h2 := (OG.out.lt hk).2; have := b9.size; omega⟩, below_trans (below_trans hbw b9) b3, (OG.out.below b9).below b3⟩
              · have E1 : Hid (cntP ((chL l r).take (k + 1)) = ps.set j (p.1, p.2 + 1)) := by
                  show _ = _
                  rw [NX.out, E0.out, insC_old SP.out HP.out (str_eq h7)]
                have F1 : Hid ((cntP ((chL l r).take (k + 1))).map Prod.fst = ps.map Prod.fst) := by show _ = _; rw [E1.out, map_set1 HP.out]
                have F2 : Hid ((cntP ((chL l r).take (k + 1))).map Prod.snd = (ps.map Prod.snd).set j (p.2 + 1)) := by show _ = _; rw [E1.out, map_set2]
                obtain ⟨g2, hg2e⟩ := HO2.out.form (by omega)
                injection hg2e with hg2e
                injection hg2e with ea eb
                subst ea eb
                have ST := Lib.hid (HO2.out.store inV_len (i := j) (j := 0) (x := p.2) (by rw [List.getElem?_map, HP.out]; rfl) (by omega) (p.2 + 1) (.int .i64 (p.2 + 1)) rfl)
                have N1 := Lib.hid (HO1.out.ne_block HO2.out (by decide))
                have N2 := Lib.hid (blk_ne DS.out)
                have f6 := HO2.out.frozen j
                have hg2 : w.heap.size ≤ b6 := (HO2.out.lt (k := b6) rfl).1
                simp only [Nat.zero_add] at c6
                go_wp2
                have G := ST.out.2
                have O2 := ST.out.1
                simp only [Nat.mul_one, Nat.add_zero] at G O2
                go_roundg (q - (k + 1))
                case measure => omega
                case rel => exact ⟨k + 1, by omega, rfl, by go_num, ⟨_, m1, d1, _, d2, rfl, rfl, by omega, by rw [F1.out]; exact HO1.out.grown G N1.out, by rw [F2.out]; exact O2, DS.out⟩, below_setCell hbw _ _ _ hg2, OG.out.grown G N2.out⟩
            · have HN : Hid (∀ t p', t < j + 1 → ps[t]? = some p' → bL p'.1 x.ch = true) := fun t p' ht hp' => by
                by_cases e : t = j
                · subst e; rw [HP.out] at hp'; injection hp' with hp'; rw [← hp']; exact h6
                · exact HU.out t p' (by omega) hp'
              go_wp2
              go_round
              case rel => exact ⟨j + 1, by omega, by go_num, HN.out⟩
              case measure => simp [intOf]; omega
          · obtain rfl : j = m1 := by omega
            have E1 : Hid (cntP ((chL l r).take (k + 1)) = ps.take j ++ (x.ch, 1) :: ps.drop j) := by
              show _ = _
              have hnone : ps[j]? = none := List.getElem?_eq_none (by rw [ML.out]; exact Nat.le_refl _)
              rw [NX.out, E0.out, insC_at (k := j) HU.out (fun p' hp' => by rw [hnone] at hp'; cases hp') (by rw [ML.out]; exact Nat.le_refl _), hnone]
            have F1 : Hid ((cntP ((chL l r).take (k + 1))).map Prod.fst = (ps.map Prod.fst).take j ++ x.ch :: (ps.map Prod.fst).drop j) := by show _ = _; rw [E1.out]; simp
            have F2 : Hid ((cntP ((chL l r).take (k + 1))).map Prod.snd = (ps.map Prod.snd).take j ++ 1 :: (ps.map Prod.snd).drop j) := by show _ = _; rw [E1.out]; simp
            have RT1 := Lib.hid (R1.out.take' hj)
            have RD1' := R1.out.tail hj
            have RT2' := R2.out.take' hj
            have RD2' := R2.out.tail hj
            rw [Nat.mul_one, Nat.sub_self] at RD1' RD2'
            obtain ⟨TA, IF1⟩ : ∃ T, (if d1 = j then A1 else Option.map (fun x => x.add j) A1) = T := ⟨_, rfl⟩
            obtain ⟨TB, IF2⟩ : ∃ T, (if d2 = j then A2 else Option.map (fun x => x.add j) A2) = T := ⟨_, rfl⟩
            rw [show tailA A1 d1 j j = TA from IF1] at RD1'
            rw [show tailA A2 d2 j j = TB from IF2] at RD2'
            have RD1 := Lib.hid RD1'
            have R2b := Lib.hid (And.intro RT2' RD2')
            clear RD1' RT2' RD2'
            have hj0 : (0 : Int) ≤ (j : Int) := by omega
            have hjd1 : (j : Int) ≤ (d1 : Int) := by omega
            have hjd2 : (j : Int) ≤ (d2 : Int) := by omega
            go_upto_region 13 with fail
            go_cut [6] (fun v wy => ∃ B d, v = .slice B (j + 1) d ∧ Own stV 1 wy wo.heap.size 9 B (j + 1) d ((ps.map Prod.fst).take j ++ x.ch :: (ps.map Prod.fst).drop j) ∧ Below wo.heap.size wo wy)
            case first =>
              go_region_law (first
                | (refine step_pushAll rfl (.tmp 67) (.tmp 70) _ rfl wo.heap.size 9 s0 (.string ByteArray.empty) 1 16 Tryz.underlying38 si sz0 sz1 sz2 rfl (by omega) stV stV_len one_str'  _ 0 0 [] _ j d1 ((ps.map Prod.fst).take j) rfl rfl j (by omega) (by simp only [maxLen]; omega) (by omega) (by first | omega | (simp; done) | (simp; omega)) ?_ ?_ ?_
                   · exact Own.of_block (by first | exact heap_new (by simp) | exact heap_old (heap_new (by simp)) | exact heap_old (heap_old (heap_new (by simp)))) (by first | omega | (simp; done) | (simp; omega))
                   · first | exact (RT1.out.alloc _).drew | exact ((RT1.out.alloc _).alloc _).drew | exact (((RT1.out.alloc _).alloc _).alloc _).drew
                   intro B1 dq1 w1 o1 g1
                   have s1 : wo.heap.size ≤ w1.heap.size := by have := g1.size; simp at this; omega
                   have b1 : Below wo.heap.size wo w1 := (by first | exact (below_alloc _).drew | exact (below_alloc2 _ _).drew | exact (below_alloc3 _ _ _).drew : Below wo.heap.size wo _).grown g1 (by first | omega | (simp; done) | (simp; omega)) (fun k hk => by simp [blockOf] at hk; omega))
                | (refine step_pushAll rfl (.tmp 71) (.tmp 73) _ rfl wo.heap.size 9 s0 (.string ByteArray.empty) 1 16 Tryz.underlying38 si sz0 sz1 sz2 rfl (by omega) stV stV_len one_str'  _ j _ ((ps.map Prod.fst).take j) _ 1 1 [x.ch] rfl rfl (j + 1) rfl (by simp only [maxLen]; omega) (by omega) (by first | omega | (simp; omega)) ?_ ?_ ?_
                   · first | exact o1 | exact o1.alloc _
                   · first | exact Rd.of_block (heap_new (by simp)) rfl | exact Rd.of_block (heap_grown g1 (by first | exact heap_new (by simp) | exact heap_old (heap_new (by simp)) | exact heap_old (heap_old (heap_new (by simp)))) (by simp [blockOf] <;> omega)) rfl
                   intro B2 dq2 w2 o2 g2
                   have b2 : Below wo.heap.size wo w2 := by first | exact below_push b1 o1 g2 (Nat.le_refl _) | exact below_push (below_trans b1 (below_alloc _)) (o1.alloc _) g2 (Nat.le_refl _))
                | (refine step_pushAll rfl (.tmp 74) (.tmp 77) _ rfl wo.heap.size 9 s0 (.string ByteArray.empty) 1 16 Tryz.underlying38 si sz0 sz1 sz2 rfl (by omega) stV stV_len one_str'  _ (j + 1) _ ((ps.map Prod.fst).take j ++ [x.ch]) TA 0 (d1 - j) ((ps.map Prod.fst).drop j) rfl rfl (j + 1) (by omega) (by simp only [maxLen]; omega) (by omega) (by have := b2.size; omega) ?_ ?_ ?_
                   · exact o2
                   · exact RD1.out.below b2
                   intro B3 dq3 w3 o3 g3
                   have b3 : Below wo.heap.size wo w3 := below_push b2 o2 g3 (Nat.le_refl _)))
              all_goals (go_wp2_with fail; go_meet; exact ⟨B3, dq3, rfl, by simpa using o3, b3⟩)
            case rest =>
            obtain ⟨B9, d9, rfl, o9, b9⟩ := hcut
            obtain ⟨wx, rfl⟩ : ∃ y : World, y = wc := ⟨_, rfl⟩
            have O9 := Lib.hid o9
            have RT2 := Lib.hid (R2b.out.1.below b9)
            have RD2 := Lib.hid (R2b.out.2.below b9)
            clear o9
            go_upto_region 14 with fail
            go_region_law (first
              | (refine step_pushAll rfl (.tmp 79) (.tmp 82) _ rfl wx.heap.size 3 h0 (.int .i64 0) 1 8 Tryz.underlying33 hi hz0 hz1 hz2 rfl (by omega) inV inV_len one_int2  _ 0 0 [] _ j d2 ((ps.map Prod.snd).take j) rfl rfl j (by omega) (by simp only [maxLen]; omega) (by omega) (by first | omega | (simp; done) | (simp; omega)) ?_ ?_ ?_
                 · exact Own.of_block (by first | exact heap_new (by simp) | exact heap_old (heap_new (by simp)) | exact heap_old (heap_old (heap_new (by simp)))) (by first | omega | (simp; done) | (simp; omega))
                 · first | exact (RT2.out.alloc _).drew | exact ((RT2.out.alloc _).alloc _).drew | exact (((RT2.out.alloc _).alloc _).alloc _).drew
                 intro B1 dq1 w1 o1 g1
                 have s1 : wx.heap.size ≤ w1.heap.size := by have := g1.size; simp at this; omega
                 have b1 : Below wx.heap.size wx w1 := (by first | exact (below_alloc _).drew | exact (below_alloc2 _ _).drew | exact (below_alloc3 _ _ _).drew : Below wx.heap.size wx _).grown g1 (by first | omega | (simp; done) | (simp; omega)) (fun k hk => by simp [blockOf] at hk; omega))
              | (refine step_pushAll rfl (.tmp 83) (.tmp 84) _ rfl wx.heap.size 3 h0 (.int .i64 0) 1 8 Tryz.underlying33 hi hz0 hz1 hz2 rfl (by omega) inV inV_len one_int2  _ j _ ((ps.map Prod.snd).take j) _ 1 1 [1] rfl rfl (j + 1) rfl (by simp only [maxLen]; omega) (by omega) (by first | omega | (simp; omega)) ?_ ?_ ?_
                 · first | exact o1 | exact o1.alloc _
                 · first | exact Rd.of_block (heap_new (by simp)) rfl | exact Rd.of_block (heap_grown g1 (by first | exact heap_new (by simp) | exact heap_old (heap_new (by simp)) | exact heap_old (heap_old (heap_new (by simp)))) (by simp [blockOf] <;> omega)) rfl
                 intro B2 dq2 w2 o2 g2
                 have b2 : Below wx.heap.size wx w2 := by first | exact below_push b1 o1 g2 (Nat.le_refl _) | exact below_push (below_trans b1 (below_alloc _)) (o1.alloc _) g2 (Nat.le_refl _))
              | (refine step_pushAll rfl (.tmp 85) (.tmp 88) _ rfl wx.heap.size 3 h0 (.int .i64 0) 1 8 Tryz.underlying33 hi hz0 hz1 hz2 rfl (by omega) inV inV_len one_int2  _ (j + 1) _ ((ps.map Prod.snd).take j ++ [1]) TB 0 (d2 - j) ((ps.map Prod.snd).drop j) rfl rfl (j + 1) (by omega) (by simp only [maxLen]; omega) (by omega) (by have := b2.size; omega) ?_ ?_ ?_
                 · exact o2
                 · exact RD2.out.below b2
                 intro B3 dq3 w3 o3 g3
                 have b3 : Below wx.heap.size wx w3 := below_push b2 o2 g3 (Nat.le_refl _)))
            all_goals
              have O8 := Lib.hid o3
              clear o3 o2 o1
              go_wp2
              go_roundg (q - (k + 1))
              case measure => omega
              case rel => exact ⟨k + 1, by omega, rfl, by go_num, ⟨B9, j + 1, d9, B3, dq3, rfl, rfl, by omega, by rw [F1.out]; exact (O9.out.below b3).base_le hsz, by rw [F2.out]; have h9 := O8.out.base_le (Nat.le_trans hsz b9.size); simpa using h9, fun kk hk e => by have h1 := (O8.out.lt e).1; have h2 := (OG.out.lt hk).2; have := b9.size; omega⟩, below_trans (below_trans hbw b9) b3, (OG.out.below b9).below b3⟩
      · have E1 : Hid (cntP ((chL l r).take (k + 1)) = cntP ((chL l r).take k)) := by
          show _ = _
          rw [NX.out]; unfold cntStep; rw [show emp x.ch = true from h5]; rfl
        have HO1 := Lib.hid ho1
        have HO2 := Lib.hid ho2
        clear ho1 ho2
        go_wp2
        go_roundg (q - (k + 1))
        case measure => omega
        case rel => exact ⟨k + 1, by omega, rfl, by go_num, ⟨_, _, d1, _, d2, rfl, rfl, by omega, by rw [E1.out]; exact HO1.out, by rw [E1.out]; exact HO2.out, DS.out⟩, hbw, OG.out⟩
    · obtain rfl : k = q := by omega
      have E : Hid (cntP ((chL l r).take k) = cntP (chL l r)) := by
        show _ = _
        rw [List.take_of_length_le (by unfold chL; rw [List.length_map, GL.out]; exact Nat.le_refl _)]
      have HO1 := Lib.hid ho1
      have HO2 := Lib.hid ho2
      clear ho1 ho2 og ha
      go_wp2
      go_ret2
      exact ⟨⟨_, _, _, _, _, rfl, by rw [← E.out]; exact HO1.out, by rw [← E.out]; exact HO2.out⟩, hbw⟩

end Go.Proofs.YtcockjjilcapaaaGreatDoor
