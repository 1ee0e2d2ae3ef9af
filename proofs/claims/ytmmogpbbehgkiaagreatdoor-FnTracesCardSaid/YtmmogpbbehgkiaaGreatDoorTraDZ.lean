/-
  YtmmogpbbehgkiaaGreatDoorTraDZ: traces: what is drawn for the great law on traces. (Printed by wip/gen/ztra.py.)
-/
import Derived.Test.YtmmogpbbehgkiaaGreatDoorTraDB
import Derived.Test.YtmmogpbbehgkiaaGreatDoorTraP
import Derived.Test.YtmmogpbbehgkiaaGreatDoorSpo
namespace Go.Proofs.YtmmogpbbehgkiaaGreatDoor
open Go Go.RowKit Go.Sort
set_option linter.unusedVariables false

theorem txtL_96 (l : List TS) : (txtL l).size ≤ 96 := by
  unfold txtL
  by_cases h : goodL l = true
  · rw [if_pos h]; exact good_text h
  · rw [if_neg h]; decide
theorem txtL_hit {l : List TS} (h : goodL l = true) : parT (txtL l) = (l, true) := parT_hit h (by unfold txtL; rw [if_pos h])

set_option maxRecDepth 100000 in
theorem drawTrace_any (A : Option Addr) (n c : Nat) (l : List Int) (w : World) (ha : Rd byV 1 w A n c l) (hb : ∀ x ∈ l, 0 ≤ x ∧ x ≤ 255) : Calls Tryz.prog 32 #[.slice A n c] w fun e w' => (∃ B q d l, e = .returned (.slice B q d) ∧ q ≤ 25 ∧ View tsV 2 w' w.heap.size B q d l) ∧ Below w.heap.size w w' := by
  have C0 := Lib.hid (Cur.start ha hb)
  have b0 := below_alloc (w := w) (.cells #[.slice A n c, .int .i64 0, .int .u64 0] 46)
  have hgw : w.heap.size < (w.alloc (.cells #[.slice A n c, .int .i64 0, .int .u64 0] 46)).heap.size := by simp
  go_enter Tryz.func32, Tryz.ntmps32
  go_wp2_with fail
  generalize hw0 : w.alloc (.cells #[.slice A n c, .int .i64 0, .int .u64 0] 46) = w0 at *
  clear hw0
  refine (traceList_any w.heap.size 0 _ C0.out (by omega)).mono ?_
  rintro e w1 ⟨⟨B, q, d, lp, rfl, hq, o1⟩, hc, hg⟩
  have G1 := Lib.hid hg
  have L1 := Lib.hid o1
  clear hc hg o1 C0
  go_wp2
  go_ret
  exact ⟨⟨_, _, _, _, rfl, hq, L1.out.base_le (Nat.le_of_lt hgw)⟩, (b0.trans (below_cur G1.out (Nat.le_refl _) (Nat.le_of_lt hgw)))⟩

theorem drawTraceText_any (A : Option Addr) (n c : Nat) (l : List Int) (w : World) (ha : Rd byV 1 w A n c l) (hb : ∀ x ∈ l, 0 ≤ x ∧ x ≤ 255) : Calls Tryz.prog 15 #[.slice A n c] w fun e w' => (∃ B q d l, e = .returned (.slice B q d) ∧ q ≤ 25 ∧ View tsV 2 w' w.heap.size B q d l) ∧ Below w.heap.size w w' := by
  go_enter Tryz.func15, Tryz.ntmps15
  go_wp2_with fail
  refine (drawTrace_any _ _ _ _ _ ha hb).mono ?_
  rintro e w1 ⟨⟨B, q, d, lp, rfl, hq, o1⟩, b1⟩
  have O1 := Lib.hid o1
  clear o1
  go_wp2
  go_ret
  exact ⟨⟨_, _, _, _, rfl, hq, O1.out⟩, b1⟩

set_option maxRecDepth 100000 in
set_option maxHeartbeats 2000000 in
theorem drawParseTrace_any (A : Option Addr) (n c : Nat) (l : List Int) (w : World) (ha : Rd byV 1 w A n c l) (hb : ∀ x ∈ l, 0 ≤ x ∧ x ≤ 255) : Calls Tryz.prog 20 #[.slice A n c] w fun e w' => (∃ s : ByteArray, e = .returned (.string s) ∧ s.size ≤ 98) ∧ Below w.heap.size w w' := by
  have C0 := Lib.hid (Cur.start ha hb)
  have b0 := below_alloc (w := w) (.cells #[.slice A n c, .int .i64 0, .int .u64 0] 46)
  have hgw : w.heap.size < (w.alloc (.cells #[.slice A n c, .int .i64 0, .int .u64 0] 46)).heap.size := by simp
  go_enter Tryz.func20, Tryz.ntmps20
  go_wp2_with fail
  generalize hw0 : w.alloc (.cells #[.slice A n c, .int .i64 0, .int .u64 0] 46) = w0 at *
  clear hw0
  refine (traceList_any w.heap.size 0 _ C0.out (by omega)).mono ?_
  rintro e w1 ⟨⟨B, q, d, lp, rfl, hq, o1⟩, hc, hg⟩
  have C1 := Lib.hid hc
  have G1 := Lib.hid hg
  have L1 := Lib.hid o1
  clear o1
  clear hc hg C0
  go_wp2_with fail
  refine (specTraceText_any _ _ _ lp _ (L1.out.rd tsV_len)).mono ?_
  rintro e w2 ⟨rfl, b2⟩
  have C2 := Lib.hid (C1.out.below b2)
  have G2 := Lib.hid (grown_below G1.out b2)
  have S := Lib.hid (show (txtL lp).size ≤ 96 from txtL_96 lp)
  generalize txtL lp = s at *
  have hs := S.out
  clear C1 G1 b2
  go_wp2_with fail
  refine (one_any w.heap.size 400 4 _ (C2.out.le (by omega)) (by omega) (by omega) (by omega)).mono ?_
  rintro e w3 ⟨⟨y, rfl⟩, hc, hg⟩
  have C3 := Lib.hid hc
  have G3 := Lib.hid (grown_trans G2.out hg)
  clear hc hg C2 G2
  cases y
  · go_wp2
    go_ret
    exact ⟨⟨_, rfl, by omega⟩, (b0.trans (below_cur G3.out (Nat.le_refl _) (Nat.le_of_lt hgw)))⟩
  · go_wp2_with fail
    refine (spoilt_any w.heap.size 402 s ⟨#[48, 32, 109, 121, 49]⟩ _ (C3.out.le (by omega)) (by omega) (by omega) (by decide) (by decide)).mono ?_
    rintro e w4 ⟨⟨x, rfl, hx⟩, hc, hg⟩
    have G4 := Lib.hid (grown_trans G3.out hg)
    clear hc hg C3 G3
    go_wp2
    go_ret
    exact ⟨⟨_, rfl, by omega⟩, (b0.trans (below_cur G4.out (Nat.le_refl _) (Nat.le_of_lt hgw)))⟩

set_option maxRecDepth 100000 in
set_option maxHeartbeats 2000000 in
theorem drawFirst_any (A : Option Addr) (n c : Nat) (l : List Int) (w : World) (ha : Rd byV 1 w A n c l) (hb : ∀ x ∈ l, 0 ≤ x ∧ x ≤ 255) : Calls Tryz.prog 5 #[.slice A n c] w fun e w' => (∃ B q d l, e = .returned (.slice B q d) ∧ q ≤ 30 ∧ View tsV 2 w' w.heap.size B q d l) ∧ Below w.heap.size w w' := by
  obtain ⟨i0, hi, hz0, hz1, hz2⟩ := info_parts Tryz.infotsD
  have C0 := Lib.hid (Cur.start ha hb)
  have b0 := below_alloc (w := w) (.cells #[.slice A n c, .int .i64 0, .int .u64 0] 46)
  have hgw : w.heap.size < (w.alloc (.cells #[.slice A n c, .int .i64 0, .int .u64 0] 46)).heap.size := by simp
  go_enter Tryz.func5, Tryz.ntmps5
  go_wp2_with fail
  generalize hw0 : w.alloc (.cells #[.slice A n c, .int .i64 0, .int .u64 0] 46) = w0 at *
  clear hw0
  have hgw' : w.heap.size < w0.heap.size := hgw
  refine (traceList_any w.heap.size 0 _ C0.out (by omega)).mono ?_
  rintro e w1 ⟨⟨B, q, d, lp, rfl, hq, o1⟩, hc, hg⟩
  have C1 := Lib.hid hc
  have G1 := Lib.hid hg
  have L1 := Lib.hid o1
  clear hc hg o1 C0
  go_wp2_with fail
  refine (pick_any w.heap.size 400 4 _ (C1.out.le (by omega)) (by omega) (by omega) (by omega)).mono ?_
  rintro e w2 ⟨⟨x0, rfl, hx0, hx1⟩, hc, hg⟩
  obtain ⟨x0, rfl⟩ := Int.eq_ofNat_of_zero_le hx0
  have C2 := Lib.hid (hc.le (K' := 402 + 14 * (3 - x0)) (by omega))
  have G2 := Lib.hid (grown_trans G1.out hg)
  have L2 := Lib.hid (L1.out.cur hg hgw)
  clear hc hg C1 G1 L1 hx0
  go_wp2
  go_loopw [4, 5] (fun v xv wr => ∃ x : Nat, x ≤ 3 ∧ xv = .int .i64 x ∧ (∃ B q d l, v = .slice B q d ∧ q + x ≤ 28 ∧ View tsV 2 wr w0.heap.size B q d l) ∧ Cur wr w.heap.size (402 + 14 * (3 - x)) ∧ w0.grownBy wr (some w.heap.size)) (fun _ xv _ => (intOf xv).toNat)
  case atStart => exact ⟨x0, by omega, rfl, ⟨_, _, _, _, rfl, by omega, L2.out⟩, C2.out, G2.out⟩
  case round =>
    clear C2 G2 L2 hx1 hq
    obtain ⟨x, hx, rfl, ⟨B, q, d, l, rfl, hq, ho⟩, hc, hg⟩ := hrel
    have L1 := Lib.hid ho
    have C1 := Lib.hid hc
    have G1 := Lib.hid hg
    clear ho hc hg
    by_cases hx0 : 0 < x
    · by_cases hq24 : q < 24
      · go_wp2_with fail
        refine (traceStep_any w.heap.size (402 + 14 * (3 - x)) _ C1.out (by omega)).mono ?_
        rintro e wa ⟨⟨y, rfl, hy⟩, hc, hg⟩
        have Ca := Lib.hid hc
        have Ga := Lib.hid (grown_trans G1.out hg)
        have La := Lib.hid (L1.out.cur hg hgw)
        clear hc hg C1 G1 L1 hy
        go_wp2_with ((
           at_builtin
           refine wpList_push_view rfl _ _ _ rfl w0.heap.size 31 i0 _ 2 16 Tryz.underlying24 hi hz0 hz1 hz2 rfl (by omega) tsV tsV_len one_tsD B q d l rfl La.out (y : TS) _ rfl _ rfl (by first | rfl | simp) (by simp only [maxLen]; omega) (by omega) Ga.out.size ?_
           intro Bb db wb ob grb
           have hrb : ∀ k, blockOf B = some k → w0.heap.size ≤ k := fun k hk => (La.out.lt hk).1
           have Cb := Lib.hid (Ca.out.grown grb (fun k hk => by have := hrb k hk; omega))
           have Gb := Lib.hid (grown_row Ga.out grb hrb)
           have Lb := Lib.hid ob
           clear ob grb))
        go_roundw
        case rel => exact ⟨x - 1, by omega, by go_num, ⟨Bb, q + 1, db, _, rfl, by omega, Lb.out⟩, Cb.out.le (by omega), Gb.out⟩
        case measure => first | (simp [intOf]; done) | (simp [intOf]; omega)
      · go_wp2
        go_ret
        exact ⟨⟨_, _, _, _, rfl, by omega, L1.out.base_le (Nat.le_of_lt hgw)⟩, (b0.trans (below_cur G1.out (Nat.le_refl _) (Nat.le_of_lt hgw)))⟩
    · obtain rfl : x = 0 := by omega
      go_wp2
      go_ret
      exact ⟨⟨_, _, _, _, rfl, by omega, L1.out.base_le (Nat.le_of_lt hgw)⟩, (b0.trans (below_cur G1.out (Nat.le_refl _) (Nat.le_of_lt hgw)))⟩

set_option maxRecDepth 100000 in
set_option maxHeartbeats 2000000 in
theorem drawAdd_any (A : Option Addr) (n c : Nat) (l : List Int) (w : World) (ha : Rd byV 1 w A n c l) (hb : ∀ x ∈ l, 0 ≤ x ∧ x ≤ 255) : Calls Tryz.prog 10 #[.slice A n c] w fun e w' => (∃ B q d l x, e = .returned (.tuple #[.slice B q d, .agg #[.int .i64 (TS.m x), .int .i64 x.k]]) ∧ q ≤ 25 ∧ View tsV 2 w' w.heap.size B q d l) ∧ Below w.heap.size w w' := by
  have R0 := Lib.hid (own_one (enc := tsV) w #[.int .i64 0, .int .i64 0] 31 (⟨0, 0⟩ : TS) rfl rfl)
  have b0 := below_alloc (w := w) (.cells #[.int .i64 0, .int .i64 0] 31)
  have hws : w.heap.size < (w.alloc (.cells #[.int .i64 0, .int .i64 0] 31)).heap.size := by simp
  have hsz : (w.alloc (.cells #[.int .i64 0, .int .i64 0] 31)).heap.size = w.heap.size + 1 := by simp
  have ha1 := ha.below b0
  clear ha
  go_enter Tryz.func10, Tryz.ntmps10
  go_wp2_with fail
  generalize hwa : w.alloc (.cells #[.int .i64 0, .int .i64 0] 31) = wa at *
  clear hwa
  have C0 := Lib.hid (Cur.start ha1 hb)
  have c0 := below_alloc (w := wa) (.cells #[.slice A n c, .int .i64 0, .int .u64 0] 46)
  have R1 := Lib.hid (R0.out.below c0)
  have hN : ∀ k, blockOf (some (⟨w.heap.size, 0, none⟩ : Addr)) = some k → k ≠ wa.heap.size := fun k hk => by simp [blockOf] at hk; omega
  have hq2 : wa.heap.size < (wa.alloc (.cells #[.slice A n c, .int .i64 0, .int .u64 0] 46)).heap.size := by simp
  generalize hwb : wa.alloc (.cells #[.slice A n c, .int .i64 0, .int .u64 0] 46) = wb at *
  clear hwb
  have HZ := Lib.hid hsz
  clear hsz
  refine (traceList_any (w.heap.size + 1) 0 _ (by rw [← HZ.out]; exact C0.out) (by omega)).mono ?_
  rintro e w1 ⟨⟨B, q, d, lp, rfl, hq, o1⟩, hc, hg⟩
  rw [← HZ.out] at hg hc
  have C1 := Lib.hid hc
  have G1 := Lib.hid hg
  have L1 := Lib.hid o1
  have R2 := Lib.hid (R1.out.curOld hg hN)
  clear hc hg o1 C0 R0 R1
  go_wp2_with fail
  refine (traceStep_any (w.heap.size + 1) 400 _ (by rw [← HZ.out]; exact C1.out.le (by omega)) (by omega)).mono ?_
  rintro e w2 ⟨⟨x, rfl, hx⟩, hc, hg⟩
  rw [← HZ.out] at hg
  have G2 := Lib.hid (grown_trans G1.out hg)
  have L2 := Lib.hid (L1.out.cur hg hq2)
  have R3 := Lib.hid (R2.out.curOld hg hN)
  have T2 := Lib.hid (b0.trans ((c0.mono (Nat.le_of_lt hws)).trans ((below_cur G2.out (Nat.le_refl _) (Nat.le_of_lt hq2)).mono (Nat.le_of_lt hws))))
  have hq3 : w.heap.size ≤ wb.heap.size := by omega
  clear hc hg C1 G1 L1 R2 b0 c0 G2
  obtain ⟨⟨r0, r1⟩, z0, z1⟩ := bx_cells R3.out
  obtain ⟨y0, g0⟩ := bx_set0 R3.out (x.m)
  obtain ⟨y1, g1⟩ := bx_set1 y0 (x.k)
  have TF := Lib.hid ((T2.out).grown (grown_trans g0 g1) (T2.out).size (fun k hk => by injection hk with hk; omega))
  have LF := Lib.hid ((L2.out.grown (grown_trans g0 g1) (fun k hk e => by injection e with e; have := (L2.out.lt hk).1; omega)).base_le hq3)
  obtain ⟨⟨v0, v1⟩, -⟩ := bx_cells y1
  clear y0 g0 y1 g1
  go_wp2
  exact bodyPost_ret (v := .tuple #[.slice B q d, .agg #[.int .i64 x.m, .int .i64 x.k]]) (by simp [results, Tryz.results10, go_sem, v0, v1]) rfl ⟨⟨_, _, _, _, _, rfl, by omega, LF.out⟩, TF.out⟩

end Go.Proofs.YtmmogpbbehgkiaaGreatDoor
