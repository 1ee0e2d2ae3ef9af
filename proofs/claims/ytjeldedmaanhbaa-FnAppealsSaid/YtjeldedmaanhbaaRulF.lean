/-
  YtjeldedmaanhbaaRulF: rulings: the draws. (Printed by wip/gen/rulf.py.)
-/
import Derived.Test.YtjeldedmaanhbaaRulE
import Derived.Test.YtjeldedmaanhbaaAmg
namespace Go.Proofs.Ytjeldedmaanhbaa
open Go Go.RowKit Go.Sort
set_option linter.unusedVariables false

theorem mem_bd {x lo hi : Int} {l : List Int} (h : x ∈ l) (hb : ∀ y ∈ l, lo ≤ y ∧ y ≤ hi) : lo ≤ x ∧ x ≤ hi := hb x h


theorem member_any (g K : Nat) (w : World) (h : Cur w g K) (hK : K ≤ 1000000) : Calls Try.prog 53 #[.pointer (some ⟨g, 0, none⟩)] w fun e w' => (∃ x : Int, e = .returned (.int .i64 x) ∧ 0 ≤ x ∧ x ≤ 100) ∧ Cur w' g (K + 2) ∧ w.grownBy w' (some g) := by
  have hg := h.lt
  have H0 := Lib.hid (h.below (below_alloc (.cells #[.int .i64 1, .int .i64 2, .int .i64 3, .int .i64 4, .int .i64 5, .int .i64 99, .int .i64 1, .int .i64 2, .int .i64 3, .int .i64 0, .int .i64 100] 3)))
  have R0 := Lib.hid (rd_lit (w := w.alloc (.cells #[.int .i64 1, .int .i64 2, .int .i64 3, .int .i64 4, .int .i64 5, .int .i64 99, .int .i64 1, .int .i64 2, .int .i64 3, .int .i64 0, .int .i64 100] 3)) (k := w.heap.size) (n := 11) (l := ([1, 2, 3, 4, 5, 99, 1, 2, 3, 0, 100] : List Int)) (enc := inV) (heap_new rfl) inV_len rfl (by simp [maxLen]) rfl)
  clear h
  go_enter Try.func53, Try.ntmps53
  go_wp2_with fail
  refine (among_any g K _ 11 11 _ _ H0.out hK R0.out (by omega) (by omega) (fun a ha => by injection ha with ha; subst ha; simp; omega)).mono ?_
  rintro e w1 ⟨⟨x, rfl, hx⟩, hc1, hg1⟩
  have HX := Lib.hid (mem_bd (lo := 0) (hi := 100) hx (by decide))
  have H1 := Lib.hid hc1
  have G1 := Lib.hid (below_of_cur (below_alloc _) hg1)
  clear hx hc1 hg1
  go_wp2
  go_ret
  exact ⟨⟨x, rfl, HX.out.1, HX.out.2⟩, H1.out, G1.out⟩


theorem votes_any (g K : Nat) (w : World) (h : Cur w g K) (hK : K ≤ 1000000) : Calls Try.prog 77 #[.pointer (some ⟨g, 0, none⟩)] w fun e w' => (∃ x : Int, e = .returned (.int .i64 x) ∧ 0 ≤ x ∧ x ≤ 1000) ∧ Cur w' g (K + 2) ∧ w.grownBy w' (some g) := by
  have hg := h.lt
  have H0 := Lib.hid (h.below (below_alloc (.cells #[.int .i64 0, .int .i64 1, .int .i64 2, .int .i64 3, .int .i64 5, .int .i64 9, .int .i64 10, .int .i64 20, .int .i64 40, .int .i64 999, .int .i64 1000] 3)))
  have R0 := Lib.hid (rd_lit (w := w.alloc (.cells #[.int .i64 0, .int .i64 1, .int .i64 2, .int .i64 3, .int .i64 5, .int .i64 9, .int .i64 10, .int .i64 20, .int .i64 40, .int .i64 999, .int .i64 1000] 3)) (k := w.heap.size) (n := 11) (l := ([0, 1, 2, 3, 5, 9, 10, 20, 40, 999, 1000] : List Int)) (enc := inV) (heap_new rfl) inV_len rfl (by simp [maxLen]) rfl)
  clear h
  go_enter Try.func77, Try.ntmps77
  go_wp2_with fail
  refine (among_any g K _ 11 11 _ _ H0.out hK R0.out (by omega) (by omega) (fun a ha => by injection ha with ha; subst ha; simp; omega)).mono ?_
  rintro e w1 ⟨⟨x, rfl, hx⟩, hc1, hg1⟩
  have HX := Lib.hid (mem_bd (lo := 0) (hi := 1000) hx (by decide))
  have H1 := Lib.hid hc1
  have G1 := Lib.hid (below_of_cur (below_alloc _) hg1)
  clear hx hc1 hg1
  go_wp2
  go_ret
  exact ⟨⟨x, rfl, HX.out.1, HX.out.2⟩, H1.out, G1.out⟩


set_option maxRecDepth 100000 in
set_option maxHeartbeats 4000000 in
theorem points_any (g K : Nat) (w : World) (h : Cur w g K) (hK : K ≤ 100000) : Calls Try.prog 52 #[.pointer (some ⟨g, 0, none⟩)] w fun e w' => (∃ B q d l, e = .returned (.slice B q d) ∧ q ≤ 32 ∧ Own ptV 7 w' w.heap.size 53 B q d l) ∧ Cur w' g (K + 200) ∧ w.grownBy w' (some g) := by
  obtain ⟨i0, hi, hz0, hz1, hz2⟩ := info_parts Try.infopt
  have hgw := h.lt
  have C0 := Lib.hid (h.below (below_alloc (.cells #[] 53)))
  have oe := Own.empty ptV 7 w 53
  have b0 := below_alloc (w := w) (.cells #[] 53)
  clear h
  go_enter Try.func52, Try.ntmps52
  go_wp2_with fail
  refine (pick_any g K 14 _ C0.out (by omega) (by omega) (by omega)).mono ?_
  rintro e w1 ⟨⟨x0, rfl, hx0, hx1⟩, hc, hg⟩
  obtain ⟨x0, rfl⟩ := Int.eq_ofNat_of_zero_le hx0
  have C1 := Lib.hid (hc.le (K' := K + 2 + 8 * (13 - x0)) (by omega))
  have G1 := Lib.hid (below_of_cur b0 hg)
  have L1 := Lib.hid (oe.cur hg hgw)
  clear hc hg oe b0 C0 hx0
  go_wp2
  go_loopw [3, 4] (fun v xv wr => ∃ x : Nat, x ≤ 13 ∧ xv = .int .i64 x ∧ (∃ B q d l, v = .slice B q d ∧ q ≤ 6 ∧ Own ptV 7 wr w.heap.size 53 B q d l) ∧ Cur wr g (K + 2 + 8 * (13 - x)) ∧ w.grownBy wr (some g)) (fun _ xv _ => (intOf xv).toNat)
  case atStart => exact ⟨x0, by omega, rfl, ⟨_, 0, 0, [], rfl, by omega, L1.out⟩, C1.out, G1.out⟩
  case round =>
    clear C1 G1 L1 hx1
    obtain ⟨x, hx, rfl, ⟨B, q, d, l, rfl, hq, ho⟩, hc, hg⟩ := hrel
    have L1 := Lib.hid ho
    have C1 := Lib.hid hc
    have G1 := Lib.hid hg
    have hl6 : l.length ≤ 6 := by rw [ho.len]; exact hq
    clear ho hc hg
    by_cases hx0 : 0 < x
    · go_wp2_with fail
      refine (pick_any g (K + 2 + 8 * (13 - x)) 4 _ C1.out (by omega) (by omega) (by omega)).mono ?_
      rintro e wa ⟨⟨s, rfl, hs0, hs1⟩, hc, hg⟩
      have Cwa := Lib.hid hc
      have Gwa := Lib.hid (grown_trans G1.out hg)
      have Lwa := Lib.hid (L1.out.cur hg hgw)
      clear hc hg C1 G1 L1
      by_cases hy0 : s = 0
      · subst hy0
        go_wp2_with fail
        refine (pick_any g (K + 2 + 8 * (13 - x) + 2) 4 _ Cwa.out (by omega) (by omega) (by omega)).mono ?_
        rintro e wb ⟨⟨y, rfl, hy0, hy1⟩, hc, hg⟩
        have Cwb := Lib.hid hc
        have Gwb := Lib.hid (grown_trans Gwa.out hg)
        have Lwb := Lib.hid (Lwa.out.cur hg hgw)
        clear hc hg
        go_wp2_with fail
        refine (specRaise_any _ _ _ l (1 + y) _ (Lwb.out.rd ptV_len)).mono ?_
        rintro e we ⟨⟨B2, q2, d2, rfl, o2⟩, b2⟩
        have Ce := Lib.hid ((Cwb.out.below b2).le (K' := K + 2 + 8 * (13 - (x - 1))) (by omega))
        have Ge := Lib.hid (grown_below Gwb.out b2)
        have Le := Lib.hid (Lwb.out.below b2)
        have O2 := Lib.hid (o2.base_le Gwb.out.size)
        have hl2 : q2 ≤ 6 := by rw [← o2.len]; exact raiL_len l (1 + y)
        clear o2 b2
        cases hok : raiG l (1 + y)
        · clear hok
          go_wp2
          go_roundw
          case rel => exact ⟨x - 1, by omega, by go_num, ⟨B, q, d, l, rfl, hq, Le.out⟩, Ce.out, Ge.out⟩
          case measure => first | (simp [intOf]; done) | (simp [intOf]; omega)
        · clear hok
          go_wp2
          go_roundw
          case rel => exact ⟨x - 1, by omega, by go_num, ⟨B2, q2, d2, _, rfl, hl2, O2.out⟩, Ce.out, Ge.out⟩
          case measure => first | (simp [intOf]; done) | (simp [intOf]; omega)
      by_cases hy1 : s = 1
      · subst hy1
        have e0 : ((1 : Int) == 0) = false := by decide
        go_wp2_with fail
        refine (one_any g (K + 2 + 8 * (13 - x) + 2) 2 _ Cwa.out (by omega) (by omega) (by omega)).mono ?_
        rintro e wb ⟨⟨y, rfl⟩, hc, hg⟩
        have Cwb := Lib.hid hc
        have Gwb := Lib.hid (grown_trans Gwa.out hg)
        have Lwb := Lib.hid (Lwa.out.cur hg hgw)
        clear hc hg
        go_wp2_with fail
        refine (specRulePoint_any _ _ _ l y _ (Lwb.out.rd ptV_len)).mono ?_
        rintro e we ⟨⟨B2, q2, d2, rfl, o2⟩, b2⟩
        have Ce := Lib.hid ((Cwb.out.below b2).le (K' := K + 2 + 8 * (13 - (x - 1))) (by omega))
        have Ge := Lib.hid (grown_below Gwb.out b2)
        have Le := Lib.hid (Lwb.out.below b2)
        have O2 := Lib.hid (o2.base_le Gwb.out.size)
        have hl2 : q2 ≤ 6 := by rw [← o2.len]; exact Nat.le_trans (rulL_len l y) hl6
        clear o2 b2
        cases hok : lastB l 1
        · clear hok
          go_wp2
          go_roundw
          case rel => exact ⟨x - 1, by omega, by go_num, ⟨B, q, d, l, rfl, hq, Le.out⟩, Ce.out, Ge.out⟩
          case measure => first | (simp [intOf]; done) | (simp [intOf]; omega)
        · clear hok
          go_wp2
          go_roundw
          case rel => exact ⟨x - 1, by omega, by go_num, ⟨B2, q2, d2, _, rfl, hl2, O2.out⟩, Ce.out, Ge.out⟩
          case measure => first | (simp [intOf]; done) | (simp [intOf]; omega)
      by_cases hy2 : s = 2
      · subst hy2
        go_wp2_with fail
        refine (pick_any g (K + 2 + 8 * (13 - x) + 2) 4 _ Cwa.out (by omega) (by omega) (by omega)).mono ?_
        rintro e wb ⟨⟨y, rfl, hy0, hy1⟩, hc, hg⟩
        have Cwb := Lib.hid hc
        have Gwb := Lib.hid (grown_trans Gwa.out hg)
        have Lwb := Lib.hid (Lwa.out.cur hg hgw)
        clear hc hg
        go_wp2_with fail
        refine (specAppeal_any _ _ _ l (1 + y) _ (Lwb.out.rd ptV_len)).mono ?_
        rintro e we ⟨⟨B2, q2, d2, rfl, o2⟩, b2⟩
        have Ce := Lib.hid ((Cwb.out.below b2).le (K' := K + 2 + 8 * (13 - (x - 1))) (by omega))
        have Ge := Lib.hid (grown_below Gwb.out b2)
        have Le := Lib.hid (Lwb.out.below b2)
        have O2 := Lib.hid (o2.base_le Gwb.out.size)
        have hl2 : q2 ≤ 6 := by rw [← o2.len]; exact Nat.le_trans (appL_len l (1 + y)) hl6
        clear o2 b2
        cases hok : appG l (1 + y)
        · clear hok
          go_wp2
          go_roundw
          case rel => exact ⟨x - 1, by omega, by go_num, ⟨B, q, d, l, rfl, hq, Le.out⟩, Ce.out, Ge.out⟩
          case measure => first | (simp [intOf]; done) | (simp [intOf]; omega)
        · clear hok
          go_wp2
          go_roundw
          case rel => exact ⟨x - 1, by omega, by go_num, ⟨B2, q2, d2, _, rfl, hl2, O2.out⟩, Ce.out, Ge.out⟩
          case measure => first | (simp [intOf]; done) | (simp [intOf]; omega)
      have e0 : (s == 0) = false := by simp; omega
      have e1 : (s == 1) = false := by simp; omega
      have e2 : (s == 2) = false := by simp; omega
      go_wp2_with fail
      refine (pick_any g (K + 2 + 8 * (13 - x) + 2) 5 _ Cwa.out (by omega) (by omega) (by omega)).mono ?_
      rintro e wb ⟨⟨y, rfl, hy0, hy1⟩, hc, hg⟩
      have Cwb := Lib.hid hc
      have Gwb := Lib.hid (grown_trans Gwa.out hg)
      have Lwb := Lib.hid (Lwa.out.cur hg hgw)
      clear hc hg
      go_wp2_with fail
      refine (pick_any g ((K + 2 + 8 * (13 - x) + 2) + 2) 5 _ Cwb.out (by omega) (by omega) (by omega)).mono ?_
      rintro e wc ⟨⟨u, rfl, hu0, hu1⟩, hc, hg⟩
      have Cwc := Lib.hid hc
      have Gwc := Lib.hid (grown_trans Gwb.out hg)
      have Lwc := Lib.hid (Lwb.out.cur hg hgw)
      clear hc hg
      go_wp2_with fail
      refine (pick_any g ((K + 2 + 8 * (13 - x) + 2) + 2 + 2) 3 _ Cwc.out (by omega) (by omega) (by omega)).mono ?_
      rintro e wd ⟨⟨v, rfl, hv0, hv1⟩, hc, hg⟩
      have Cwd := Lib.hid hc
      have Gwd := Lib.hid (grown_trans Gwc.out hg)
      have Lwd := Lib.hid (Lwc.out.cur hg hgw)
      clear hc hg
      go_wp2_with fail
      refine (specDecide_any _ _ _ l y u v _ (Lwd.out.rd ptV_len)).mono ?_
      rintro e we ⟨⟨B2, q2, d2, rfl, o2⟩, b2⟩
      have Ce := Lib.hid ((Cwd.out.below b2).le (K' := K + 2 + 8 * (13 - (x - 1))) (by omega))
      have Ge := Lib.hid (grown_below Gwd.out b2)
      have Le := Lib.hid (Lwd.out.below b2)
      have O2 := Lib.hid (o2.base_le Gwd.out.size)
      have hl2 : q2 ≤ 6 := by rw [← o2.len]; exact Nat.le_trans (decL_len l y u v) hl6
      clear o2 b2
      cases hok : decG l y u v
      · clear hok
        go_wp2
        go_roundw
        case rel => exact ⟨x - 1, by omega, by go_num, ⟨B, q, d, l, rfl, hq, Le.out⟩, Ce.out, Ge.out⟩
        case measure => first | (simp [intOf]; done) | (simp [intOf]; omega)
      · clear hok
        go_wp2
        go_roundw
        case rel => exact ⟨x - 1, by omega, by go_num, ⟨B2, q2, d2, _, rfl, hl2, O2.out⟩, Ce.out, Ge.out⟩
        case measure => first | (simp [intOf]; done) | (simp [intOf]; omega)
    · obtain rfl : x = 0 := by omega
      clear hx hx0
      go_wp2_with fail
      refine (pick_any g (K + 2 + 8 * (13 - 0)) 24 _ C1.out (by omega) (by omega) (by omega)).mono ?_
      rintro e w2 ⟨⟨s, rfl, hs0, hs1⟩, hc, hg⟩
      have C2 := Lib.hid (hc.le (K' := K + 110) (by omega))
      have G2 := Lib.hid (grown_trans G1.out hg)
      have L2 := Lib.hid (L1.out.cur hg hgw)
      clear hc hg C1 G1 L1
      by_cases hy0 : s = 0
      · subst hy0
        go_wp2_with fail
        refine (member_any g (K + 110) _ C2.out (by omega)).mono ?_
        rintro e w3 ⟨⟨m1, rfl, -, -⟩, hc, hg⟩
        have C3 := Lib.hid hc
        have G3 := Lib.hid (grown_trans G2.out hg)
        have L3 := Lib.hid (L2.out.cur hg hgw)
        clear hc hg C2 G2 L2
        go_wp2_with fail
        refine (pick_any g (K + 110 + 2) 6 _ C3.out (by omega) (by omega) (by omega)).mono ?_
        rintro e w4 ⟨⟨m2, rfl, -, -⟩, hc, hg⟩
        have C4 := Lib.hid hc
        have G4 := Lib.hid (grown_trans G3.out hg)
        have L4 := Lib.hid (L3.out.cur hg hgw)
        clear hc hg C3 G3 L3
        go_wp2_with fail
        refine (one_any g (K + 110 + 2 + 2) 2 _ C4.out (by omega) (by omega) (by omega)).mono ?_
        rintro e w5 ⟨⟨m3, rfl⟩, hc, hg⟩
        have C5 := Lib.hid hc
        have G5 := Lib.hid (grown_trans G4.out hg)
        have L5 := Lib.hid (L4.out.cur hg hgw)
        clear hc hg C4 G4 L4
        go_wp2_with fail
        refine (pick_any g (K + 110 + 2 + 2 + 2) 3 _ C5.out (by omega) (by omega) (by omega)).mono ?_
        rintro e w6 ⟨⟨m4, rfl, -, -⟩, hc, hg⟩
        have C6 := Lib.hid (hc.le (K' := K + 200) (by omega))
        have G6 := Lib.hid (grown_trans G5.out hg)
        have L6 := Lib.hid (L5.out.cur hg hgw)
        clear hc hg C5 G5 L5
        go_wp2_with (at_builtin; refine wpList_push rfl _ _ _ rfl w.heap.size 53 i0 _ 7 56 Try.underlying24 hi hz0 hz1 hz2 rfl (by omega) ptV ptV_len one_pt B q d l rfl L6.out (⟨m1, m2, m3, m4, 0, 0, 0⟩ : PT) _ rfl _ rfl (by first | rfl | simp) (by simp only [maxLen]; omega) (by omega) G6.out.size ?_; intro B3 d3 w7 o7 g7)
        have O7 := Lib.hid o7
        have hr : ∀ k, blockOf B = some k → w.heap.size ≤ k := fun k hk => (L6.out.lt hk).1
        have C7 := Lib.hid (C6.out.grown g7 (fun k hk => by have := hr k hk; omega))
        have G7 := Lib.hid (grown_row G6.out g7 hr)
        clear o7 g7
        go_ret
        first | exact ⟨⟨_, _, _, _, rfl, by omega, O7.out⟩, C7.out, G7.out⟩ | exact ⟨⟨_, _, _, rfl, by omega, _, O7.out⟩, C7.out, G7.out⟩
      by_cases hy1 : s = 1
      · subst hy1
        have e0 : ((1 : Int) == 0) = false := by decide
        go_wp2
        go_loopw [3, 7] (fun v yv wr => ∃ y : Nat, y ≤ 8 ∧ yv = .int .i64 y ∧ (∃ B q d l, v = .slice B q d ∧ q ≤ 6 + y ∧ Own ptV 7 wr w.heap.size 53 B q d l) ∧ Cur wr g (K + 110 + 4 * y) ∧ w.grownBy wr (some g)) (fun _ yv _ => 9 - (intOf yv).toNat)
        case atStart => exact ⟨0, by omega, rfl, ⟨_, _, _, _, rfl, by omega, L2.out⟩, C2.out.le (by omega), G2.out⟩
        case round =>
          clear L2 C2 G2
          obtain ⟨y, hy, rfl, ⟨B, q, d, l, rfl, hq, ho⟩, hc, hg⟩ := hrel
          have L2 := Lib.hid ho
          have C2 := Lib.hid hc
          have G2 := Lib.hid hg
          clear ho hc hg
          go_wp2_with fail
          refine (pick_any g (K + 110 + 4 * y) 2 _ C2.out (by omega) (by omega) (by omega)).mono ?_
          rintro e w3 ⟨⟨z, rfl, hz0', hz1'⟩, hc, hg⟩
          have C3 := Lib.hid (hc.le (K' := K + 110 + 4 * (y + 1)) (by omega))
          have G3 := Lib.hid (grown_trans G2.out hg)
          have L3 := Lib.hid (L2.out.cur hg hgw)
          clear hc hg C2 G2 L2
          by_cases hb : (q : Int) < 6 + z ∧ y < 8
          · obtain ⟨hb1, hb2⟩ := hb
            go_wp2_with (at_builtin; refine wpList_push rfl _ _ _ rfl w.heap.size 53 i0 _ 7 56 Try.underlying24 hi hz0 hz1 hz2 rfl (by omega) ptV ptV_len one_pt B q d l rfl L3.out (⟨1 + (y : Int), 2, false, 0, 0, 0, 0⟩ : PT) _ rfl _ rfl (by first | rfl | simp) (by simp only [maxLen]; omega) (by omega) G3.out.size ?_; intro B3 d3 w7 o7 g7)
            have O7 := Lib.hid o7
            have hr : ∀ k, blockOf B = some k → w.heap.size ≤ k := fun k hk => (L3.out.lt hk).1
            have C7 := Lib.hid (C3.out.grown g7 (fun k hk => by have := hr k hk; omega))
            have G7 := Lib.hid (grown_row G3.out g7 hr)
            clear o7 g7
            go_roundw
            case rel => exact ⟨y + 1, by omega, by go_num, ⟨B3, q + 1, d3, _, rfl, by omega, O7.out⟩, C7.out, G7.out⟩
            case measure => first | (simp [intOf]; done) | (simp [intOf]; omega)
          · have C4 := Lib.hid (C3.out.le (K' := K + 200) (by omega))
            by_cases hb1 : (q : Int) < 6 + z
            · have hb2 : ¬ (y : Int) < 8 := by omega
              clear hb
              go_wp2
              go_ret
              first | exact ⟨⟨_, _, _, _, rfl, by omega, L3.out⟩, C4.out, G3.out⟩ | exact ⟨⟨_, _, _, rfl, by omega, _, L3.out⟩, C4.out, G3.out⟩
            · clear hb
              go_wp2
              go_ret
              first | exact ⟨⟨_, _, _, _, rfl, by omega, L3.out⟩, C4.out, G3.out⟩ | exact ⟨⟨_, _, _, rfl, by omega, _, L3.out⟩, C4.out, G3.out⟩
      have e0 : (s == 0) = false := by simp; omega
      have e1 : (s == 1) = false := by simp; omega
      have C3 := Lib.hid (C2.out.le (K' := K + 200) (by omega))
      clear C2
      go_wp2
      go_ret
      first | exact ⟨⟨_, _, _, _, rfl, by omega, L2.out⟩, C3.out, G2.out⟩ | exact ⟨⟨_, _, _, rfl, by omega, _, L2.out⟩, C3.out, G2.out⟩


set_option maxRecDepth 100000 in
set_option maxHeartbeats 1000000 in
theorem drawAre_any (A : Option Addr) (n c : Nat) (l : List Int) (w : World) (ha : Rd byV 1 w A n c l) (hb : ∀ x ∈ l, 0 ≤ x ∧ x ≤ 255) : Calls Try.prog 65 #[.slice A n c] w fun e w' => (∃ B q d lp, e = .returned (.slice B q d) ∧ q ≤ 40 ∧ Own ptV 7 w' w.heap.size 53 B q d lp) ∧ Below w.heap.size w w' := by
  have C0 := Lib.hid (Cur.start ha hb)
  have b0 := below_alloc (w := w) (.cells #[.slice A n c, .int .i64 0, .int .u64 0] 72)
  have hgw : w.heap.size < (w.alloc (.cells #[.slice A n c, .int .i64 0, .int .u64 0] 72)).heap.size := by simp
  go_enter Try.func65, Try.ntmps65
  go_wp2_with fail
  generalize hw0 : w.alloc (.cells #[.slice A n c, .int .i64 0, .int .u64 0] 72) = w0 at *
  have G0 : Hid (w0.grownBy w0 (some w.heap.size)) := World.grownBy.refl _ _
  clear hw0
  go_wp2_with fail
  refine (points_any w.heap.size 0 _ C0.out (by omega)).mono ?_
  rintro e w1 ⟨⟨B, q, d, lp, rfl, hq, o1⟩, hc, hg⟩
  have C1 := Lib.hid (hc.le (K' := (0 + 200)) (by omega))
  have G1 := Lib.hid (grown_trans G0.out hg)
  have L_1 := Lib.hid (o1.base_le G0.out.size)
  clear hc hg o1 C0 G0
  go_wp2
  go_ret
  first | exact ⟨⟨_, _, _, _, rfl, by omega, L_1.out.base_le (Nat.le_of_lt hgw)⟩, (b0.trans (below_cur G1.out (Nat.le_refl _) (Nat.le_of_lt hgw)))⟩ | exact ⟨⟨_, _, _, rfl, by omega, _, L_1.out.base_le (Nat.le_of_lt hgw)⟩, (b0.trans (below_cur G1.out (Nat.le_refl _) (Nat.le_of_lt hgw)))⟩


set_option maxRecDepth 100000 in
set_option maxHeartbeats 1000000 in
theorem drawOrder_any (A : Option Addr) (n c : Nat) (l : List Int) (w : World) (ha : Rd byV 1 w A n c l) (hb : ∀ x ∈ l, 0 ≤ x ∧ x ≤ 255) : Calls Try.prog 28 #[.slice A n c] w fun e w' => (∃ B q d lp, e = .returned (.slice B q d) ∧ q ≤ 40 ∧ Own ptV 7 w' w.heap.size 53 B q d lp) ∧ Below w.heap.size w w' := by
  go_enter Try.func28, Try.ntmps28
  go_wp2_with fail
  refine (drawAre_any _ _ _ _ _ ha hb).mono ?_
  rintro e w1 ⟨⟨B, q, d, lp, rfl, hq, o1⟩, b1⟩
  have O1 := Lib.hid o1
  clear o1
  go_wp2
  go_ret
  first | exact ⟨⟨_, _, _, _, rfl, hq, O1.out⟩, b1⟩ | exact ⟨⟨_, _, _, rfl, hq, _, O1.out⟩, b1⟩


set_option maxRecDepth 100000 in
set_option maxHeartbeats 1000000 in
theorem drawReversed_any (A : Option Addr) (n c : Nat) (l : List Int) (w : World) (ha : Rd byV 1 w A n c l) (hb : ∀ x ∈ l, 0 ≤ x ∧ x ≤ 255) : Calls Try.prog 37 #[.slice A n c] w fun e w' => (∃ B q d lp, e = .returned (.slice B q d) ∧ q ≤ 40 ∧ Own ptV 7 w' w.heap.size 53 B q d lp) ∧ Below w.heap.size w w' := by
  go_enter Try.func37, Try.ntmps37
  go_wp2_with fail
  refine (drawAre_any _ _ _ _ _ ha hb).mono ?_
  rintro e w1 ⟨⟨B, q, d, lp, rfl, hq, o1⟩, b1⟩
  have O1 := Lib.hid o1
  clear o1
  go_wp2
  go_ret
  first | exact ⟨⟨_, _, _, _, rfl, hq, O1.out⟩, b1⟩ | exact ⟨⟨_, _, _, rfl, hq, _, O1.out⟩, b1⟩


set_option maxRecDepth 100000 in
set_option maxHeartbeats 1000000 in
theorem drawRaise_any (A : Option Addr) (n c : Nat) (l : List Int) (w : World) (ha : Rd byV 1 w A n c l) (hb : ∀ x ∈ l, 0 ≤ x ∧ x ≤ 255) : Calls Try.prog 17 #[.slice A n c] w fun e w' => (∃ B q d x lp, e = .returned (.tuple #[.slice B q d, .int .i64 x]) ∧ q ≤ 40 ∧ 0 ≤ x ∧ x ≤ 100 ∧ Own ptV 7 w' w.heap.size 53 B q d lp) ∧ Below w.heap.size w w' := by
  have C0 := Lib.hid (Cur.start ha hb)
  have b0 := below_alloc (w := w) (.cells #[.slice A n c, .int .i64 0, .int .u64 0] 72)
  have hgw : w.heap.size < (w.alloc (.cells #[.slice A n c, .int .i64 0, .int .u64 0] 72)).heap.size := by simp
  go_enter Try.func17, Try.ntmps17
  go_wp2_with fail
  generalize hw0 : w.alloc (.cells #[.slice A n c, .int .i64 0, .int .u64 0] 72) = w0 at *
  have G0 : Hid (w0.grownBy w0 (some w.heap.size)) := World.grownBy.refl _ _
  clear hw0
  go_wp2_with fail
  refine (points_any w.heap.size 0 _ C0.out (by omega)).mono ?_
  rintro e w1 ⟨⟨B, q, d, lp, rfl, hq, o1⟩, hc, hg⟩
  have C1 := Lib.hid (hc.le (K' := (0 + 200)) (by omega))
  have G1 := Lib.hid (grown_trans G0.out hg)
  have L_1 := Lib.hid (o1.base_le G0.out.size)
  clear hc hg o1 C0 G0
  go_wp2_with fail
  refine (member_any w.heap.size (0 + 200) _ C1.out (by omega)).mono ?_
  rintro e w2 ⟨⟨x, rfl, hx0, hx1⟩, hc, hg⟩
  have C2 := Lib.hid (hc.le (K' := (0 + 202)) (by omega))
  have G2 := Lib.hid (grown_trans G1.out hg)
  have L_2 := Lib.hid (L_1.out.cur hg hgw)
  clear hc hg C1 G1 L_1
  go_wp2
  go_ret2
  exact ⟨⟨_, _, _, _, _, rfl, by omega, hx0, hx1, L_2.out.base_le (Nat.le_of_lt hgw)⟩, (b0.trans (below_cur G2.out (Nat.le_refl _) (Nat.le_of_lt hgw)))⟩


set_option maxRecDepth 100000 in
set_option maxHeartbeats 1000000 in
theorem drawAppeal_any (A : Option Addr) (n c : Nat) (l : List Int) (w : World) (ha : Rd byV 1 w A n c l) (hb : ∀ x ∈ l, 0 ≤ x ∧ x ≤ 255) : Calls Try.prog 27 #[.slice A n c] w fun e w' => (∃ B q d x lp, e = .returned (.tuple #[.slice B q d, .int .i64 x]) ∧ q ≤ 40 ∧ 0 ≤ x ∧ x ≤ 100 ∧ Own ptV 7 w' w.heap.size 53 B q d lp) ∧ Below w.heap.size w w' := by
  have C0 := Lib.hid (Cur.start ha hb)
  have b0 := below_alloc (w := w) (.cells #[.slice A n c, .int .i64 0, .int .u64 0] 72)
  have hgw : w.heap.size < (w.alloc (.cells #[.slice A n c, .int .i64 0, .int .u64 0] 72)).heap.size := by simp
  go_enter Try.func27, Try.ntmps27
  go_wp2_with fail
  generalize hw0 : w.alloc (.cells #[.slice A n c, .int .i64 0, .int .u64 0] 72) = w0 at *
  have G0 : Hid (w0.grownBy w0 (some w.heap.size)) := World.grownBy.refl _ _
  clear hw0
  go_wp2_with fail
  refine (points_any w.heap.size 0 _ C0.out (by omega)).mono ?_
  rintro e w1 ⟨⟨B, q, d, lp, rfl, hq, o1⟩, hc, hg⟩
  have C1 := Lib.hid (hc.le (K' := (0 + 200)) (by omega))
  have G1 := Lib.hid (grown_trans G0.out hg)
  have L_1 := Lib.hid (o1.base_le G0.out.size)
  clear hc hg o1 C0 G0
  go_wp2_with fail
  refine (one_any w.heap.size (0 + 200) 2 _ C1.out (by omega) (by omega) (by omega)).mono ?_
  rintro e w2 ⟨⟨y, rfl⟩, hc, hg⟩
  have C2 := Lib.hid (hc.le (K' := (0 + 202)) (by omega))
  have G2 := Lib.hid (grown_trans G1.out hg)
  have L_2 := Lib.hid (L_1.out.cur hg hgw)
  clear hc hg C1 G1 L_1
  go_wp2_with fail
  refine (specRulePoint_any _ _ _ lp y _ (L_2.out.rd ptV_len)).mono ?_
  rintro e w3 ⟨⟨B2, q2, d2, rfl, o2⟩, b⟩
  have C3 := Lib.hid (C2.out.below b)
  have G3 := Lib.hid (grown_below G2.out b)
  have L_3 := Lib.hid (L_2.out.below b)
  have M_3 := Lib.hid (o2.base_le G2.out.size)
  clear b  o2 C2 G2 L_2
  have hq2 : q2 ≤ 40 := by rw [← M_3.out.len]; exact Nat.le_trans (rulL_len lp y) (by rw [L_3.out.len]; omega)
  cases hok : lastB lp 1
  · clear hok
    go_wp2_with fail
    refine (member_any w.heap.size (0 + 202) _ C3.out (by omega)).mono ?_
    rintro e w4 ⟨⟨x, rfl, hx0, hx1⟩, hc, hg⟩
    have C4 := Lib.hid (hc.le (K' := (0 + 204)) (by omega))
    have G4 := Lib.hid (grown_trans G3.out hg)
    have L_4 := Lib.hid (L_3.out.cur hg hgw)
    have M_4 := Lib.hid (M_3.out.cur hg hgw)
    clear hc hg C3 G3 L_3 M_3
    go_wp2
    go_ret2
    exact ⟨⟨_, _, _, _, _, rfl, by omega, hx0, hx1, L_4.out.base_le (Nat.le_of_lt hgw)⟩, (b0.trans (below_cur G4.out (Nat.le_refl _) (Nat.le_of_lt hgw)))⟩
  · clear hok
    go_wp2_with fail
    refine (member_any w.heap.size (0 + 202) _ C3.out (by omega)).mono ?_
    rintro e w4 ⟨⟨x, rfl, hx0, hx1⟩, hc, hg⟩
    have C4 := Lib.hid (hc.le (K' := (0 + 204)) (by omega))
    have G4 := Lib.hid (grown_trans G3.out hg)
    have L_4 := Lib.hid (L_3.out.cur hg hgw)
    have M_4 := Lib.hid (M_3.out.cur hg hgw)
    clear hc hg C3 G3 L_3 M_3
    go_wp2
    go_ret2
    exact ⟨⟨_, _, _, _, _, rfl, by omega, hx0, hx1, M_4.out.base_le (Nat.le_of_lt hgw)⟩, (b0.trans (below_cur G4.out (Nat.le_refl _) (Nat.le_of_lt hgw)))⟩


set_option maxRecDepth 100000 in
set_option maxHeartbeats 1000000 in
theorem drawRule_any (A : Option Addr) (n c : Nat) (l : List Int) (w : World) (ha : Rd byV 1 w A n c l) (hb : ∀ x ∈ l, 0 ≤ x ∧ x ≤ 255) : Calls Try.prog 26 #[.slice A n c] w fun e w' => (∃ B q d x lp, e = .returned (.tuple #[.slice B q d, .bool x]) ∧ q ≤ 40 ∧ Own ptV 7 w' w.heap.size 53 B q d lp) ∧ Below w.heap.size w w' := by
  have C0 := Lib.hid (Cur.start ha hb)
  have b0 := below_alloc (w := w) (.cells #[.slice A n c, .int .i64 0, .int .u64 0] 72)
  have hgw : w.heap.size < (w.alloc (.cells #[.slice A n c, .int .i64 0, .int .u64 0] 72)).heap.size := by simp
  go_enter Try.func26, Try.ntmps26
  go_wp2_with fail
  generalize hw0 : w.alloc (.cells #[.slice A n c, .int .i64 0, .int .u64 0] 72) = w0 at *
  have G0 : Hid (w0.grownBy w0 (some w.heap.size)) := World.grownBy.refl _ _
  clear hw0
  go_wp2_with fail
  refine (points_any w.heap.size 0 _ C0.out (by omega)).mono ?_
  rintro e w1 ⟨⟨B, q, d, lp, rfl, hq, o1⟩, hc, hg⟩
  have C1 := Lib.hid (hc.le (K' := (0 + 200)) (by omega))
  have G1 := Lib.hid (grown_trans G0.out hg)
  have L_1 := Lib.hid (o1.base_le G0.out.size)
  clear hc hg o1 C0 G0
  go_wp2_with fail
  refine (pick_any w.heap.size (0 + 200) 4 _ C1.out (by omega) (by omega) (by omega)).mono ?_
  rintro e w2 ⟨⟨y, rfl, y_0, y_1⟩, hc, hg⟩
  have C2 := Lib.hid (hc.le (K' := (0 + 202)) (by omega))
  have G2 := Lib.hid (grown_trans G1.out hg)
  have L_2 := Lib.hid (L_1.out.cur hg hgw)
  clear hc hg C1 G1 L_1
  go_wp2_with fail
  refine (specRaise_any _ _ _ lp (1 + y) _ (L_2.out.rd ptV_len)).mono ?_
  rintro e w3 ⟨⟨B2, q2, d2, rfl, o2⟩, b⟩
  have C3 := Lib.hid (C2.out.below b)
  have G3 := Lib.hid (grown_below G2.out b)
  have L_3 := Lib.hid (L_2.out.below b)
  have M_3 := Lib.hid (o2.base_le G2.out.size)
  clear b  o2 C2 G2 L_2
  have hq2 : q2 ≤ 40 := by rw [← M_3.out.len]; exact Nat.le_trans (raiL_len lp (1 + y)) (by omega)
  cases hok : raiG lp (1 + y)
  · clear hok
    go_wp2_with fail
    refine (one_any w.heap.size (0 + 202) 2 _ C3.out (by omega) (by omega) (by omega)).mono ?_
    rintro e w4 ⟨⟨z, rfl⟩, hc, hg⟩
    have C4 := Lib.hid (hc.le (K' := (0 + 204)) (by omega))
    have G4 := Lib.hid (grown_trans G3.out hg)
    have L_4 := Lib.hid (L_3.out.cur hg hgw)
    have M_4 := Lib.hid (M_3.out.cur hg hgw)
    clear hc hg C3 G3 L_3 M_3
    go_wp2
    go_ret2
    exact ⟨⟨_, _, _, _, _, rfl, by omega, L_4.out.base_le (Nat.le_of_lt hgw)⟩, (b0.trans (below_cur G4.out (Nat.le_refl _) (Nat.le_of_lt hgw)))⟩
  · clear hok
    go_wp2_with fail
    refine (one_any w.heap.size (0 + 202) 4 _ C3.out (by omega) (by omega) (by omega)).mono ?_
    rintro e w4 ⟨⟨v, rfl⟩, hc, hg⟩
    have C4 := Lib.hid (hc.le (K' := (0 + 204)) (by omega))
    have G4 := Lib.hid (grown_trans G3.out hg)
    have L_4 := Lib.hid (L_3.out.cur hg hgw)
    have M_4 := Lib.hid (M_3.out.cur hg hgw)
    clear hc hg C3 G3 L_3 M_3
    cases v
    · go_wp2_with fail
      refine (one_any w.heap.size (0 + 204) 2 _ C4.out (by omega) (by omega) (by omega)).mono ?_
      rintro e w5 ⟨⟨z, rfl⟩, hc, hg⟩
      have C5 := Lib.hid (hc.le (K' := (0 + 206)) (by omega))
      have G5 := Lib.hid (grown_trans G4.out hg)
      have L_5 := Lib.hid (L_4.out.cur hg hgw)
      have M_5 := Lib.hid (M_4.out.cur hg hgw)
      clear hc hg C4 G4 L_4 M_4
      go_wp2
      go_ret2
      exact ⟨⟨_, _, _, _, _, rfl, by omega, M_5.out.base_le (Nat.le_of_lt hgw)⟩, (b0.trans (below_cur G5.out (Nat.le_refl _) (Nat.le_of_lt hgw)))⟩
    · go_wp2_with fail
      refine (one_any w.heap.size (0 + 204) 2 _ C4.out (by omega) (by omega) (by omega)).mono ?_
      rintro e w5 ⟨⟨z, rfl⟩, hc, hg⟩
      have C5 := Lib.hid (hc.le (K' := (0 + 206)) (by omega))
      have G5 := Lib.hid (grown_trans G4.out hg)
      have L_5 := Lib.hid (L_4.out.cur hg hgw)
      have M_5 := Lib.hid (M_4.out.cur hg hgw)
      clear hc hg C4 G4 L_4 M_4
      go_wp2
      go_ret2
      exact ⟨⟨_, _, _, _, _, rfl, by omega, L_5.out.base_le (Nat.le_of_lt hgw)⟩, (b0.trans (below_cur G5.out (Nat.le_refl _) (Nat.le_of_lt hgw)))⟩


set_option maxRecDepth 100000 in
set_option maxHeartbeats 1000000 in
theorem drawOutcome_any (A : Option Addr) (n c : Nat) (l : List Int) (w : World) (ha : Rd byV 1 w A n c l) (hb : ∀ x ∈ l, 0 ≤ x ∧ x ≤ 255) : Calls Try.prog 40 #[.slice A n c] w fun e w' => (∃ B q d x lp, e = .returned (.tuple #[.slice B q d, .int .i64 x]) ∧ q ≤ 40 ∧ Own ptV 7 w' w.heap.size 53 B q d lp) ∧ Below w.heap.size w w' := by
  have C0 := Lib.hid (Cur.start ha hb)
  have b0 := below_alloc (w := w) (.cells #[.slice A n c, .int .i64 0, .int .u64 0] 72)
  have hgw : w.heap.size < (w.alloc (.cells #[.slice A n c, .int .i64 0, .int .u64 0] 72)).heap.size := by simp
  go_enter Try.func40, Try.ntmps40
  go_wp2_with fail
  generalize hw0 : w.alloc (.cells #[.slice A n c, .int .i64 0, .int .u64 0] 72) = w0 at *
  have G0 : Hid (w0.grownBy w0 (some w.heap.size)) := World.grownBy.refl _ _
  clear hw0
  go_wp2_with fail
  refine (points_any w.heap.size 0 _ C0.out (by omega)).mono ?_
  rintro e w1 ⟨⟨B, q, d, lp, rfl, hq, o1⟩, hc, hg⟩
  have C1 := Lib.hid (hc.le (K' := (0 + 200)) (by omega))
  have G1 := Lib.hid (grown_trans G0.out hg)
  have L_1 := Lib.hid (o1.base_le G0.out.size)
  clear hc hg o1 C0 G0
  go_wp2_with fail
  refine (pick_any w.heap.size (0 + 200) ((q : Int) + 2) _ C1.out (by omega) (by omega) (by omega)).mono ?_
  rintro e w2 ⟨⟨y, rfl, y_0, y_1⟩, hc, hg⟩
  have C2 := Lib.hid (hc.le (K' := (0 + 202)) (by omega))
  have G2 := Lib.hid (grown_trans G1.out hg)
  have L_2 := Lib.hid (L_1.out.cur hg hgw)
  clear hc hg C1 G1 L_1
  go_wp2_with fail
  refine (pick_any w.heap.size (0 + 202) 9 _ C2.out (by omega) (by omega) (by omega)).mono ?_
  rintro e w3 ⟨⟨z, rfl, z_0, z_1⟩, hc, hg⟩
  have C3 := Lib.hid (hc.le (K' := (0 + 204)) (by omega))
  have G3 := Lib.hid (grown_trans G2.out hg)
  have L_3 := Lib.hid (L_2.out.cur hg hgw)
  clear hc hg C2 G2 L_2
  go_wp2
  go_ret2
  exact ⟨⟨_, _, _, _, _, rfl, by omega, L_3.out.base_le (Nat.le_of_lt hgw)⟩, (b0.trans (below_cur G3.out (Nat.le_refl _) (Nat.le_of_lt hgw)))⟩


end Go.Proofs.Ytjeldedmaanhbaa
