/-
  YtmmogpbbehgkiaaTraDB: traces: the draw of a trace. (Printed by wip/gen/tradr.py.)
-/
import Derived.Test.YtmmogpbbehgkiaaTraDA
import Derived.Test.YtmmogpbbehgkiaaTraW
import Derived.Test.YtmmogpbbehgkiaaView
namespace Go.Proofs.Ytmmogpbbehgkiaa
open Go Go.RowKit Go.Sort
set_option linter.unusedVariables false

def slLen : Value → Nat
  | .slice _ n _ => n
  | _ => 0
theorem one_tsD : ∀ x : TS, ∀ u ∈ tsV x, u.oneCell' = true := by intro x u h; simp [tsV] at h; rcases h with rfl | rfl <;> rfl
theorem Try.infotsD : (Try.prog.info? 50).map (fun i => (i.zero, i.size, i.bytes)) = some (some (.agg #[.int .i64 0, .int .i64 0]), 2, 16) := by kernel_rfl
/-- What traceList hands back. -/
def TraPost (g K : Nat) (w : World) (e : Ending) (w' : World) : Prop := (∃ B q d l, e = .returned (.slice B q d) ∧ q ≤ 25 ∧ View tsV 2 w' w.heap.size B q d l) ∧ Cur w' g (K + 400) ∧ w.grownBy w' (some g)


set_option maxRecDepth 100000 in
set_option maxHeartbeats 4000000 in
theorem traceList_any (g K : Nat) (w : World) (h : Cur w g K) (hK : K ≤ 90000) : Calls Try.prog 44 #[.pointer (some ⟨g, 0, none⟩)] w (TraPost g K w) := by
  obtain ⟨i0, hi, hz0, hz1, hz2⟩ := info_parts Try.infotsD
  have hgw := h.lt
  have C0 := Lib.hid (h.below (below_alloc (.cells #[] 50)))
  have oe : Own tsV 2 (w.alloc (.cells #[] 50)) w.heap.size 50 (some ⟨w.heap.size, 0, none⟩) 0 0 [] := Own.empty tsV 2 w 50
  have b0 := below_alloc (w := w) (.cells #[] 50)
  clear h
  go_enter Try.func44, Try.ntmps44
  go_wp2_with fail
  refine (pick_any g K 16 _ C0.out (by omega) (by omega) (by omega)).mono ?_
  rintro e w1 ⟨⟨x0, rfl, hx0, hx1⟩, hc, hg⟩
  obtain ⟨x0, rfl⟩ := Int.eq_ofNat_of_zero_le hx0
  have C1 := Lib.hid (hc.le (K' := K + 2 + 14 * (15 - x0)) (by omega))
  have G1 := Lib.hid (below_of_cur b0 hg)
  have L1 := Lib.hid (oe.cur hg hgw)
  clear hc hg oe b0 C0 hx0
  go_wp2
  go_loopw [3, 4] (fun v xv wr => ∃ x : Nat, x ≤ 15 ∧ xv = .int .i64 x ∧ (∃ B q d l, v = .slice B q d ∧ q + x ≤ 15 ∧ Own tsV 2 wr w.heap.size 50 B q d l) ∧ Cur wr g (K + 2 + 14 * (15 - x)) ∧ w.grownBy wr (some g)) (fun _ xv _ => (intOf xv).toNat)
  case atStart => exact ⟨x0, by omega, rfl, ⟨_, 0, 0, [], rfl, by omega, L1.out⟩, C1.out, G1.out⟩
  case round =>
    clear C1 G1 L1 hx1
    obtain ⟨x, hx, rfl, ⟨B, q, d, l, rfl, hq, ho⟩, hc, hg⟩ := hrel
    have L1 := Lib.hid ho
    have C1 := Lib.hid hc
    have G1 := Lib.hid hg
    clear ho hc hg
    by_cases hx0 : 0 < x
    · go_wp2_with fail
      refine (traceStep_any g (K + 2 + 14 * (15 - x)) _ C1.out (by omega)).mono ?_
      rintro e wa ⟨⟨y, rfl, hy⟩, hc, hg⟩
      have Ca := Lib.hid hc
      have Ga := Lib.hid (grown_trans G1.out hg)
      have La := Lib.hid (L1.out.cur hg hgw)
      clear hc hg C1 G1 L1 hy
      go_wp2_with fail
      refine (specAddStep_any _ _ _ l y _ (La.out.rd tsV_len) (by omega)).mono ?_
      rintro e wb ⟨⟨B2, q2, d2, rfl, o2⟩, bb⟩
      have hga := Ga.out.size
      have Cb := Lib.hid ((Ca.out.below bb).le (K' := K + 2 + 14 * (15 - (x - 1))) (by omega))
      have Gb := Lib.hid (grown_below Ga.out bb)
      have Lb := Lib.hid (La.out.below bb)
      have L2 := Lib.hid (o2.base_le hga)
      clear o2 bb Ca Ga La hga
      cases hok : addB l y
      · clear hok
        go_wp2
        go_roundw
        case rel => exact ⟨x - 1, by omega, by go_num, ⟨B, q, d, l, rfl, by omega, Lb.out⟩, Cb.out, Gb.out⟩
        case measure => first | (simp [intOf]; done) | (simp [intOf]; omega)
      · have hq2 : q2 = q + 1 := by have h1 := L2.out.len; rw [(add_yes hok).1, List.length_append, Lb.out.len] at h1; exact h1.symm
        subst hq2
        clear hok
        go_wp2
        go_roundw
        case rel => exact ⟨x - 1, by omega, by go_num, ⟨B2, q + 1, d2, _, rfl, by omega, L2.out⟩, Cb.out, Gb.out⟩
        case measure => first | (simp [intOf]; done) | (simp [intOf]; omega)
    · obtain rfl : x = 0 := by omega
      clear hx hx0
      go_wp2_with fail
      refine (pick_any g (K + 250) 16 _ (C1.out.le (by omega)) (by omega) (by omega) (by omega)).mono ?_
      rintro e w2 ⟨⟨s, rfl, s_0, s_1⟩, hc, hg⟩
      have C2 := Lib.hid hc
      have G2 := Lib.hid (grown_trans G1.out hg)
      have L2 := Lib.hid (L1.out.cur hg hgw)
      clear hc hg C1 G1 L1
      by_cases s0 : s = 0
      · subst s0
        go_wp2_with fail
        refine (traceStep_any g (K + 252) _ C2.out (by omega)).mono ?_
        rintro e wa ⟨⟨y, rfl, hy⟩, hc, hg⟩
        have Ca := Lib.hid hc
        have Ga := Lib.hid (grown_trans G2.out hg)
        have La := Lib.hid (L2.out.cur hg hgw)
        clear hc hg C2 G2 L2 hy
        go_wp2_with ((
           at_builtin
           refine wpList_push rfl _ _ _ rfl w.heap.size 50 i0 _ 2 16 Try.underlying27 hi hz0 hz1 hz2 rfl (by omega) tsV tsV_len one_tsD B q d l rfl La.out (y : TS) _ rfl _ rfl (by first | rfl | simp) (by simp only [maxLen]; omega) (by omega) Ga.out.size ?_
           intro Bb db wb ob grb
           have hrb : ∀ k, blockOf B = some k → w.heap.size ≤ k := fun k hk => (La.out.lt hk).1
           have Cb := Lib.hid (Ca.out.grown grb (fun k hk => by have := hrb k hk; omega))
           have Gb := Lib.hid (grown_row Ga.out grb hrb)
           have Lb := Lib.hid ob
           clear ob grb))
        go_ret
        exact ⟨⟨_, _, _, _, rfl, by omega, Lb.out.view tsV_len⟩, Cb.out.le (by omega), Gb.out⟩
      · have e0 : (s == 0) = false := by simpa using s0
        by_cases s1 : s = 1
        · subst s1
          by_cases hq1 : 1 < q
          · obtain ⟨b, rfl⟩ := L2.out.form (by omega)
            have hqd := (L2.out.rd tsV_len).cap
            have V := Lib.hid ((L2.out.view tsV_len).tail1 tsV_len (by omega))
            have hd1 : ¬ d = 1 := by omega
            have hd1' : ¬ 1 = d := by omega
            go_wp2
            go_ret
            exact ⟨⟨_, _, _, _, rfl, by omega, V.out⟩, C2.out.le (by omega), G2.out⟩
          · go_wp2
            go_ret
            exact ⟨⟨_, _, _, _, rfl, by omega, L2.out.view tsV_len⟩, C2.out.le (by omega), G2.out⟩
        · have e1 : (s == 1) = false := by simpa using s1
          by_cases s2 : s = 2
          · subst s2
            have C3 := Lib.hid (C2.out.below (below_alloc (.cells #[] 50)))
            have G3 := Lib.hid (grown_below G2.out (below_alloc (.cells #[] 50)))
            have L3 := Lib.hid ((Own.empty tsV 2 w2 50).base_le (b := w.heap.size) G2.out.size)
            clear C2 G2 L2
            go_wp2
            go_loopw [3, 7] (fun v xv wr => ∃ B q d l, v = .slice B q d ∧ xv = .int .i64 (q : Int) ∧ q ≤ 25 ∧ Own tsV 2 wr w.heap.size 50 B q d l ∧ Cur wr g (K + 260 + 4 * q) ∧ w.grownBy wr (some g)) (fun v _ _ => 26 - slLen v)
            case atStart => exact ⟨_, 0, _, _, rfl, rfl, by omega, L3.out, C3.out.le (by omega), G3.out⟩
            case round =>
              clear L3 C3 G3
              obtain ⟨B, q, d, l, rfl, rfl, hq, ho, hc, hg⟩ := hrel
              have L1 := Lib.hid ho
              have C1 := Lib.hid hc
              have G1 := Lib.hid hg
              clear ho hc hg
              go_wp2_with fail
              refine (pick_any g (K + 260 + 4 * q) 2 _ C1.out (by omega) (by omega) (by omega)).mono ?_
              rintro e w2 ⟨⟨z, rfl, z_0, z_1⟩, hc, hg⟩
              have C2 := Lib.hid hc
              have G2 := Lib.hid (grown_trans G1.out hg)
              have L2 := Lib.hid (L1.out.cur hg hgw)
              clear hc hg C1 G1 L1
              by_cases hb : (q : Int) < 24 + z
              · go_wp2_with ((
                 at_builtin
                 refine wpList_push rfl _ _ _ rfl w.heap.size 50 i0 _ 2 16 Try.underlying27 hi hz0 hz1 hz2 rfl (by omega) tsV tsV_len one_tsD B q d l rfl L2.out (⟨_, _⟩ : TS) _ rfl _ rfl (by first | rfl | simp) (by simp only [maxLen]; omega) (by omega) G2.out.size ?_
                 intro B3 d3 w3 o3 gr3
                 have hr3 : ∀ k, blockOf B = some k → w.heap.size ≤ k := fun k hk => (L2.out.lt hk).1
                 have C3 := Lib.hid (C2.out.grown gr3 (fun k hk => by have := hr3 k hk; omega))
                 have G3 := Lib.hid (grown_row G2.out gr3 hr3)
                 have L3 := Lib.hid o3
                 clear o3 gr3))
                go_roundw
                case rel => exact ⟨B3, q + 1, d3, _, rfl, by go_num, by omega, L3.out, C3.out.le (by omega), G3.out⟩
                case measure => simp [slLen]; omega
              · go_wp2
                go_ret
                exact ⟨⟨_, _, _, _, rfl, by omega, L2.out.view tsV_len⟩, C2.out.le (by omega), G2.out⟩
          · have e2 : (s == 2) = false := by simpa using s2
            go_wp2
            go_ret
            exact ⟨⟨_, _, _, _, rfl, by omega, L2.out.view tsV_len⟩, C2.out.le (by omega), G2.out⟩


end Go.Proofs.Ytmmogpbbehgkiaa
