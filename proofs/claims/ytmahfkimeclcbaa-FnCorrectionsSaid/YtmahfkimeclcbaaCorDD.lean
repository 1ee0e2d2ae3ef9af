/-
  YtmahfkimeclcbaaCorDD: corrections: the draw of a sheet with corrections in order. (Printed by wip/gen/cordr.py.)
-/
import Derived.Test.YtmahfkimeclcbaaCorDC
namespace Go.Proofs.Ytmahfkimeclcbaa
open Go Go.RowKit Go.Sort
set_option linter.unusedVariables false

def AllPost (w : World) (e : Ending) (w' : World) : Prop := (∃ B q d l B2 q2 d2 xs, e = .returned (.tuple #[.slice B q d, .slice B2 q2 d2]) ∧ q ≤ 13 ∧ q2 ≤ 11 ∧ OwnT w' w.heap.size B q d l ∧ OwnX w' w.heap.size B2 q2 d2 xs) ∧ Below w.heap.size w w'


set_option maxRecDepth 100000 in
set_option maxHeartbeats 4000000 in
theorem drawAll_any (A : Option Addr) (n c : Nat) (l : List Int) (w : World) (ha : Rd byV 1 w A n c l) (hb : ∀ x ∈ l, 0 ≤ x ∧ x ≤ 255) : Calls Try.prog 15 #[.slice A n c] w (AllPost w) := by
  obtain ⟨i0, hi, hz0, hz1, hz2⟩ := info_parts Try.infocoD
  have C0 := Lib.hid (Cur.start ha hb)
  have b0 := below_alloc (w := w) (.cells #[.slice A n c, .int .i64 0, .int .u64 0] 44)
  have hgw : w.heap.size < (w.alloc (.cells #[.slice A n c, .int .i64 0, .int .u64 0] 44)).heap.size := by simp
  go_enter Try.func15, Try.ntmps15
  go_wp2_with fail
  generalize hw0 : w.alloc (.cells #[.slice A n c, .int .i64 0, .int .u64 0] 44) = w0 at *
  clear hw0
  refine (sheet_any w.heap.size 0 _ C0.out (by omega)).mono ?_
  rintro e w1 ⟨⟨B, q, d, lp, rfl, hq, o1⟩, hc, hg⟩
  have C1 := Lib.hid (hc.below (below_alloc (.cells #[] 26)))
  have G1 := Lib.hid (grown_below hg (below_alloc (.cells #[] 26)))
  have L1 := Lib.hid (o1.below (below_alloc (.cells #[] 26)))
  have hgs := hg.size
  have X1 := Lib.hid (OwnX.mk ((Own.empty coV 3 w1 26).base_le (b := w0.heap.size) hgs) (fun x hx => by cases hx))
  have hB : ∀ a, B = some a → a.block ≠ w.heap.size := fun a ha => by have := (o1.own.lt (k := a.block) (by rw [ha]; rfl)).1; omega
  clear hc hg o1 C0
  go_wp2_with fail
  refine (pick_any w.heap.size 100 4 _ (C1.out.le (by omega)) (by omega) (by omega) (by omega)).mono ?_
  rintro e w2 ⟨⟨x0, rfl, hx0, hx1⟩, hc, hg⟩
  obtain ⟨x0, rfl⟩ := Int.eq_ofNat_of_zero_le hx0
  have C2 := Lib.hid (hc.le (K' := 102 + 50 * (3 - x0)) (by omega))
  have G2 := Lib.hid (grown_trans G1.out hg)
  have L2 := Lib.hid (L1.out.cur hg hgw)
  have X2 := Lib.hid (X1.out.cur hg hgw)
  clear hc hg C1 G1 L1 X1 hx0
  go_wp2
  go_loopw [6, 7, 8] (fun lv nv xv wr => ∃ x : Nat, x ≤ 3 ∧ xv = .int .i64 x ∧ (∃ B2 q2 d2 xs, lv = .slice B2 q2 d2 ∧ q2 + x ≤ 3 ∧ OwnX wr w0.heap.size B2 q2 d2 xs) ∧ (∃ B3 q3 d3 l3, nv = .slice B3 q3 d3 ∧ q3 ≤ 13 ∧ OwnT wr w0.heap.size B3 q3 d3 l3) ∧ OwnT wr w0.heap.size B q d lp ∧ Cur wr w.heap.size (102 + 50 * (3 - x)) ∧ w0.grownBy wr (some w.heap.size)) (fun _ _ xv _ => (intOf xv).toNat)
  case atStart => exact ⟨x0, by omega, rfl, ⟨_, _, _, _, rfl, by omega, X2.out⟩, ⟨_, _, _, _, rfl, hq, L2.out⟩, L2.out, C2.out, G2.out⟩
  case round =>
    clear C2 G2 L2 X2 hx1
    obtain ⟨x, hx, rfl, ⟨B2, q2, d2, xs, rfl, hq2, hX⟩, ⟨B3, q3, d3, l3, rfl, hq3, hN⟩, hL, hc, hg⟩ := hrel
    have L1 := Lib.hid hL
    have N1 := Lib.hid hN
    have X1 := Lib.hid hX
    have C1 := Lib.hid hc
    have G1 := Lib.hid hg
    have hB3 : ∀ a, B3 = some a → a.block ≠ w.heap.size := fun a ha => by have := (hN.own.lt (k := a.block) (by rw [ha]; rfl)).1; omega
    clear hL hN hX hc hg
    by_cases hx0 : 0 < x
    · go_wp2_with fail
      refine (correction_any w.heap.size (102 + 50 * (3 - x)) B3 q3 d3 l3 _ C1.out (by omega) (N1.out.own.rd stV_len) hB3 (by omega) N1.out.good).mono ?_
      rintro e wa ⟨⟨y, rfl, hy⟩, hc, hg⟩
      have hxb : w.heap.size < wa.heap.size := hc.lt
      have Y := Lib.hid hy
      have yb := below_alloc (w := wa) (.cells #[.int .i64 y.line, .string y.old, .string y.new] 26)
      have Ca := Lib.hid (hc.below yb)
      have Ga := Lib.hid (grown_below (grown_trans G1.out hg) yb)
      have La := Lib.hid ((L1.out.cur hg hgw).below yb)
      have Na := Lib.hid ((N1.out.cur hg hgw).below yb)
      have X0s := Lib.hid (X1.out.cur hg hgw)
      have Xa := Lib.hid (X0s.out.below yb)
      have y0 : (wa.alloc (.cells #[.int .i64 y.line, .string y.old, .string y.new] 26)).cell? ⟨wa.heap.size, 0, none⟩ = some (.int .i64 y.line) := cell_of_row _ _ 0 _ _ _ (heap_new rfl)
      have y1 : (wa.alloc (.cells #[.int .i64 y.line, .string y.old, .string y.new] 26)).cell? ⟨wa.heap.size, 1, none⟩ = some (.string y.old) := cell_of_row _ _ 1 _ _ _ (heap_new rfl)
      have y2 : (wa.alloc (.cells #[.int .i64 y.line, .string y.old, .string y.new] 26)).cell? ⟨wa.heap.size, 2, none⟩ = some (.string y.new) := cell_of_row _ _ 2 _ _ _ (heap_new rfl)
      clear hc hg hy C1 G1 L1 N1 X1 yb
      go_wp2_with ((
           at_builtin
           refine wpList_push rfl _ _ _ rfl w0.heap.size 26 i0 _ 3 40 Try.underlying35 hi hz0 hz1 hz2 rfl (by omega) coV coV_len one_coD B2 q2 d2 xs rfl Xa.out.own (⟨y.line, y.old, y.new⟩ : CO) _ rfl _ rfl (by first | rfl | simp) (by simp only [maxLen]; omega) (by omega) Ga.out.size ?_
           intro Bb db wb ob grb
           have hrb : ∀ k, blockOf B2 = some k → w0.heap.size ≤ k := fun k hk => (Xa.out.own.lt hk).1
           have Cb := Lib.hid (Ca.out.grown grb (fun k hk => by have := hrb k hk; omega))
           have Gb := Lib.hid (grown_row Ga.out grb hrb)
           have Lb := Lib.hid (OwnT.mk (La.out.own.grown grb (Own.ty_apart La.out.own (Xa.out.own) (by decide))) La.out.good)
           have Xb := Lib.hid ob
           have Nb := Lib.hid (OwnT.mk (Na.out.own.grown grb (Own.ty_apart Na.out.own (Xa.out.own) (by decide))) Na.out.good)
           replace y0 := World.grownBy.cell grb y0 (fun e => by have := ((X0s.out.own).lt (k := wa.heap.size) e.symm).2; omega)
           replace y1 := World.grownBy.cell grb y1 (fun e => by have := ((X0s.out.own).lt (k := wa.heap.size) e.symm).2; omega)
           replace y2 := World.grownBy.cell grb y2 (fun e => by have := ((X0s.out.own).lt (k := wa.heap.size) e.symm).2; omega)
           clear ob))
      have hGb := Gb.out.size
      have hxb2 : w.heap.size < wb.heap.size := Cb.out.lt
      refine (specCorrectSheet_any B3 q3 d3 l3 y _ (Nb.out.own.rd stV_len) (by omega) (t1M Nb.out.good) (co1M Y.out).1 (co1M Y.out).2).mono ?_
      rintro e w4 ⟨⟨B4, q4, d4, rfl, o4⟩, b4⟩
      have C4 := Lib.hid (Cb.out.below b4)
      have G4 := Lib.hid (grown_below Gb.out b4)
      have L4 := Lib.hid (Lb.out.below b4)
      have N4 := Lib.hid (Nb.out.below b4)
      have X4 := Lib.hid (OwnX.mk (Xb.out.below b4) (good_appX X0s.out.good (good_oneX Y.out)))
      have O4 := Lib.hid (o4.base_le hGb)
      have hq4 : q4 ≤ 13 := by rw [← o4.len]; exact Nat.le_trans (shL_len l3 y) (by rw [Nb.out.own.len]; omega)
      clear Cb Gb Lb Nb Xb o4 b4 y0 y1 y2 Ca Ga La Na Xa X0s
      cases hok : shG l3 y
      · clear hok
        go_wp2_with fail
        refine (one_any w.heap.size (102 + 50 * (3 - x) + 30) 3 _ (C4.out.le (by omega)) (by omega) (by omega) (by omega)).mono ?_
        rintro e w5 ⟨⟨z, rfl⟩, hc, hg⟩
        have C5 := Lib.hid hc
        have G5 := Lib.hid (grown_trans G4.out hg)
        have L5 := Lib.hid (L4.out.cur hg hgw)
        have N5 := Lib.hid (N4.out.cur hg hgw)
        have X5 := Lib.hid (X4.out.cur hg hgw)
        clear hc hg C4 G4 L4 N4 X4 O4
        cases z
        · have X6 := Lib.hid (OwnX.mk (X5.out.own.takeP coV_len (k := q2) (by omega)) (fun s hs => X5.out.good s (List.mem_of_mem_take hs)))
          have hcap := (X5.out.own.rd coV_len).cap
          have hsub : (((q2 + 1 : Nat) : Int) - 1) = (q2 : Int) := by omega
          clear X5
          go_wp2
          go_roundw
          case rel => exact ⟨x - 1, by omega, by go_num, ⟨_, _, _, _, rfl, by omega, X6.out⟩, ⟨_, _, _, _, rfl, hq3, N5.out⟩, L5.out, C5.out.le (by omega), G5.out⟩
          case measure => first | (simp [intOf]; done) | (simp [intOf]; omega)
        · go_wp2
          go_roundw
          case rel => exact ⟨x - 1, by omega, by go_num, ⟨_, _, _, _, rfl, by omega, X5.out⟩, ⟨_, _, _, _, rfl, hq3, N5.out⟩, L5.out, C5.out.le (by omega), G5.out⟩
          case measure => first | (simp [intOf]; done) | (simp [intOf]; omega)
      · have N6 := Lib.hid (OwnT.mk O4.out (sh_good hok))
        clear hok O4 N4
        go_wp2
        go_roundw
        case rel => exact ⟨x - 1, by omega, by go_num, ⟨_, _, _, _, rfl, by omega, X4.out⟩, ⟨_, _, _, _, rfl, hq4, N6.out⟩, L4.out, C4.out.le (by omega), G4.out⟩
        case measure => first | (simp [intOf]; done) | (simp [intOf]; omega)
    · obtain rfl : x = 0 := by omega
      clear hx hx0 N1
      go_wp2_with fail
      refine (one_any w.heap.size 300 24 _ (C1.out.le (by omega)) (by omega) (by omega) (by omega)).mono ?_
      rintro e w5 ⟨⟨z, rfl⟩, hc, hg⟩
      have G5 := Lib.hid (grown_trans G1.out hg)
      have L5 := Lib.hid (L1.out.cur hg hgw)
      have X5 := Lib.hid (X1.out.cur hg hgw)
      clear hc hg C1 G1 L1 X1
      cases z
      · go_wp2
        go_ret2
        exact ⟨⟨_, _, _, _, _, _, _, _, rfl, hq, by omega, L5.out.base_le (Nat.le_of_lt hgw), X5.out.base_le (Nat.le_of_lt hgw)⟩, (b0.trans (below_cur G5.out (Nat.le_refl _) (Nat.le_of_lt hgw)))⟩
      · go_wp2
        go_loopw [6] (fun v wr => ∃ B2 q2 d2 xs, v = .slice B2 q2 d2 ∧ q2 ≤ 11 ∧ OwnX wr w0.heap.size B2 q2 d2 xs ∧ OwnT wr w0.heap.size B q d lp ∧ w0.grownBy wr (some w.heap.size)) (fun v _ => 12 - slLen v)
        case atStart => exact ⟨_, _, _, _, rfl, by omega, X5.out, L5.out, G5.out⟩
        case round =>
          clear L5 X5 G5 hq2
          obtain ⟨B2, q2, d2, xs, rfl, hq2, hX, hL, hg⟩ := hrel
          have La := Lib.hid hL
          have Xa := Lib.hid hX
          have Ga := Lib.hid hg
          clear hL hX hg
          by_cases hb : (q2 : Int) < 11
          · go_wp2_with ((
               at_builtin
               refine wpList_push rfl _ _ _ rfl w0.heap.size 26 i0 _ 3 40 Try.underlying35 hi hz0 hz1 hz2 rfl (by omega) coV coV_len one_coD B2 q2 d2 xs rfl Xa.out.own (⟨0, ⟨#[97]⟩, ⟨#[98]⟩⟩ : CO) _ rfl _ rfl (by first | rfl | simp) (by simp only [maxLen]; omega) (by omega) Ga.out.size ?_
               intro Bb db wb ob grb
               have hrb : ∀ k, blockOf B2 = some k → w0.heap.size ≤ k := fun k hk => (Xa.out.own.lt hk).1
               have Gb := Lib.hid (grown_row Ga.out grb hrb)
               have Lb := Lib.hid (OwnT.mk (La.out.own.grown grb (Own.ty_apart La.out.own (Xa.out.own) (by decide))) La.out.good)
               have Xb := Lib.hid ob
               clear ob))
            go_roundw
            case rel => exact ⟨Bb, q2 + 1, db, _, rfl, by omega, ⟨Xb.out, good_appX Xa.out.good (good_oneX (by constructor <;> decide))⟩, Lb.out, Gb.out⟩
            case measure => simp [slLen]; omega
          · go_wp2
            go_ret2
            exact ⟨⟨_, _, _, _, _, _, _, _, rfl, hq, by omega, La.out.base_le (Nat.le_of_lt hgw), Xa.out.base_le (Nat.le_of_lt hgw)⟩, (b0.trans (below_cur Ga.out (Nat.le_refl _) (Nat.le_of_lt hgw)))⟩


theorem drawChanged_any (A : Option Addr) (n c : Nat) (l : List Int) (w : World) (ha : Rd byV 1 w A n c l) (hb : ∀ x ∈ l, 0 ≤ x ∧ x ≤ 255) : Calls Try.prog 18 #[.slice A n c] w (AllPost w) := by
  go_enter Try.func18, Try.ntmps18
  go_wp2_with fail
  refine (drawAll_any _ _ _ _ _ ha hb).mono ?_
  rintro e w1 ⟨⟨B, q, d, lp, B2, q2, d2, xs, rfl, hq, hq2, o1, o2⟩, b1⟩
  have O1 := Lib.hid o1
  have O2 := Lib.hid o2
  clear o1 o2
  go_wp2
  go_ret2
  exact ⟨⟨_, _, _, _, _, _, _, _, rfl, hq, hq2, O1.out, O2.out⟩, b1⟩


end Go.Proofs.Ytmahfkimeclcbaa
