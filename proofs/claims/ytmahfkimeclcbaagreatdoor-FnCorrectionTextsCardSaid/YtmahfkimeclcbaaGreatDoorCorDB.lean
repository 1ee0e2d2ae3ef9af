/-
  YtmahfkimeclcbaaGreatDoorCorDB: corrections: the draw of a sheet. (Printed by wip/gen/cordr.py.)
-/
import Derived.Test.YtmahfkimeclcbaaGreatDoorCorDA
namespace Go.Proofs.YtmahfkimeclcbaaGreatDoor
open Go Go.RowKit Go.Sort
set_option linter.unusedVariables false

def slLen : Value → Nat
  | .slice _ n _ => n
  | _ => 0
theorem one_stD : ∀ x : ByteArray, ∀ u ∈ stV x, u.oneCell' = true := by intro x u h; simp [stV] at h; rcases h with rfl; rfl
theorem one_coD : ∀ x : CO, ∀ u ∈ coV x, u.oneCell' = true := by intro x u h; simp [coV] at h; rcases h with rfl | rfl | rfl <;> rfl
theorem Tryz.infostD : (Tryz.prog.info? 9).map (fun i => (i.zero, i.size, i.bytes)) = some (some (.string ByteArray.empty), 1, 16) := by kernel_rfl
/-- A list of the call's own of short texts. -/
structure OwnT (w : World) (base : Nat) (A : Option Addr) (n c : Nat) (l : List ByteArray) : Prop where
  own : Own stV 1 w base 9 A n c l
  good : ∀ x ∈ l, x.size ≤ 60
theorem OwnT.below {w w' : World} {base : Nat} {A : Option Addr} {n c : Nat} {l : List ByteArray} (h : OwnT w base A n c l) (hb : Below w.heap.size w w') : OwnT w' base A n c l := ⟨h.own.below hb, h.good⟩
theorem OwnT.cur {w w' : World} {base : Nat} {A : Option Addr} {n c g : Nat} {l : List ByteArray} (h : OwnT w base A n c l) (hg : w.grownBy w' (some g)) (hb : g < base) : OwnT w' base A n c l := ⟨h.own.cur hg hb, h.good⟩
theorem OwnT.base_le {w : World} {base b : Nat} {A : Option Addr} {n c : Nat} {l : List ByteArray} (h : OwnT w base A n c l) (hb : b ≤ base) : OwnT w b A n c l := ⟨h.own.base_le hb, h.good⟩
theorem good_appT {l l' : List ByteArray} (h : ∀ x ∈ l, x.size ≤ 60) (h' : ∀ x ∈ l', x.size ≤ 60) : ∀ x ∈ l ++ l', x.size ≤ 60 := fun x hx => (List.mem_append.1 hx).elim (h x) (h' x)
theorem good_oneT {y : ByteArray} (h : y.size ≤ 60) : ∀ x ∈ [y], x.size ≤ 60 := fun x hx => by rw [List.mem_singleton.1 hx]; exact h
/-- What sheet hands back. -/
def SheetPost (g K : Nat) (w : World) (e : Ending) (w' : World) : Prop := (∃ B q d l, e = .returned (.slice B q d) ∧ q ≤ 13 ∧ OwnT w' w.heap.size B q d l) ∧ Cur w' g (K + 100) ∧ w.grownBy w' (some g)


set_option maxRecDepth 100000 in
set_option maxHeartbeats 4000000 in
theorem sheet_any (g K : Nat) (w : World) (h : Cur w g K) (hK : K ≤ 90000) : Calls Tryz.prog 19 #[.pointer (some ⟨g, 0, none⟩)] w (SheetPost g K w) := by
  obtain ⟨i0, hi, hz0, hz1, hz2⟩ := info_parts Tryz.infostD
  have hgw := h.lt
  have C0 := Lib.hid (h.below (below_alloc (.cells #[] 9)))
  have oe : OwnT (w.alloc (.cells #[] 9)) w.heap.size (some ⟨w.heap.size, 0, none⟩) 0 0 [] := ⟨Own.empty stV 1 w 9, fun x hx => by cases hx⟩
  have b0 := below_alloc (w := w) (.cells #[] 9)
  clear h
  go_enter Tryz.func19, Tryz.ntmps19
  go_wp2_with fail
  refine (pick_any g K 6 _ C0.out (by omega) (by omega) (by omega)).mono ?_
  rintro e w1 ⟨⟨x0, rfl, hx0, hx1⟩, hc, hg⟩
  obtain ⟨x0, rfl⟩ := Int.eq_ofNat_of_zero_le hx0
  have C1 := Lib.hid (hc.le (K' := K + 2 + 4 * (5 - x0)) (by omega))
  have G1 := Lib.hid (below_of_cur b0 hg)
  have L1 := Lib.hid (oe.cur hg hgw)
  clear hc hg oe b0 C0 hx0
  go_wp2
  go_loopw [3, 4] (fun v xv wr => ∃ x : Nat, x ≤ 5 ∧ xv = .int .i64 x ∧ (∃ B q d l, v = .slice B q d ∧ q + x ≤ 5 ∧ OwnT wr w.heap.size B q d l) ∧ Cur wr g (K + 2 + 4 * (5 - x)) ∧ w.grownBy wr (some g)) (fun _ xv _ => (intOf xv).toNat)
  case atStart => exact ⟨x0, by omega, rfl, ⟨_, 0, 0, [], rfl, by omega, L1.out⟩, C1.out, G1.out⟩
  case round =>
    clear C1 G1 L1 hx1
    obtain ⟨x, hx, rfl, ⟨B, q, d, l, rfl, hq, ho⟩, hc, hg⟩ := hrel
    have L1 := Lib.hid ho
    have C1 := Lib.hid hc
    have G1 := Lib.hid hg
    clear ho hc hg
    by_cases hx0 : 0 < x
    · have Cq := Lib.hid (C1.out.below (below_alloc (.cells #[.string ⟨#[]⟩, .string ⟨#[116, 104, 101, 32, 109, 111, 116, 105, 111, 110]⟩, .string ⟨#[97, 97, 97]⟩, .string ⟨#[97, 98, 97, 98]⟩, .string ⟨#[105, 116, 32, 119, 97, 115, 32, 108, 111, 115, 116]⟩, .string ⟨#[109, 111, 118, 101, 100, 32, 97, 110, 100, 32, 108, 111, 115, 116]⟩, .string ⟨#[120, 121, 122, 120, 121, 122]⟩] 9)))
      have Gq := Lib.hid (grown_below G1.out (below_alloc (.cells #[.string ⟨#[]⟩, .string ⟨#[116, 104, 101, 32, 109, 111, 116, 105, 111, 110]⟩, .string ⟨#[97, 97, 97]⟩, .string ⟨#[97, 98, 97, 98]⟩, .string ⟨#[105, 116, 32, 119, 97, 115, 32, 108, 111, 115, 116]⟩, .string ⟨#[109, 111, 118, 101, 100, 32, 97, 110, 100, 32, 108, 111, 115, 116]⟩, .string ⟨#[120, 121, 122, 120, 121, 122]⟩] 9)))
      have Lq := Lib.hid (L1.out.below (below_alloc (.cells #[.string ⟨#[]⟩, .string ⟨#[116, 104, 101, 32, 109, 111, 116, 105, 111, 110]⟩, .string ⟨#[97, 97, 97]⟩, .string ⟨#[97, 98, 97, 98]⟩, .string ⟨#[105, 116, 32, 119, 97, 115, 32, 108, 111, 115, 116]⟩, .string ⟨#[109, 111, 118, 101, 100, 32, 97, 110, 100, 32, 108, 111, 115, 116]⟩, .string ⟨#[120, 121, 122, 120, 121, 122]⟩] 9)))
      go_wp2_with fail
      have Aq := Lib.hid (rd_lit (w := wr.alloc (.cells #[.string ⟨#[]⟩, .string ⟨#[116, 104, 101, 32, 109, 111, 116, 105, 111, 110]⟩, .string ⟨#[97, 97, 97]⟩, .string ⟨#[97, 98, 97, 98]⟩, .string ⟨#[105, 116, 32, 119, 97, 115, 32, 108, 111, 115, 116]⟩, .string ⟨#[109, 111, 118, 101, 100, 32, 97, 110, 100, 32, 108, 111, 115, 116]⟩, .string ⟨#[120, 121, 122, 120, 121, 122]⟩] 9)) (k := wr.heap.size) (n := 7) (l := ([⟨#[]⟩, ⟨#[116, 104, 101, 32, 109, 111, 116, 105, 111, 110]⟩, ⟨#[97, 97, 97]⟩, ⟨#[97, 98, 97, 98]⟩, ⟨#[105, 116, 32, 119, 97, 115, 32, 108, 111, 115, 116]⟩, ⟨#[109, 111, 118, 101, 100, 32, 97, 110, 100, 32, 108, 111, 115, 116]⟩, ⟨#[120, 121, 122, 120, 121, 122]⟩] : List ByteArray)) (enc := stV) (heap_new (by first | rfl | simp)) stV_len rfl (by simp [maxLen]) rfl)
      have hgs : g < wr.heap.size := by first | omega | (have := C1.out.lt; simpa using this)
      refine (of_any g (K + 2 + 4 * (5 - x)) _ 7 7 _ _ (Cq.out.le (by omega)) (by omega) Aq.out (by omega) (by omega) (fun a ha => by injection ha with ha; subst ha; first | omega | (simp; done) | (simp; omega) | (simp at hgs ⊢; omega))).mono ?_
      rintro e wa ⟨⟨y, rfl, hx⟩, hc, hg⟩
      have Xy := Lib.hid (of_sz (m := 24) hx (by decide))
      have Ca := Lib.hid hc
      have Ga := Lib.hid (grown_trans Gq.out hg)
      have La := Lib.hid (Lq.out.cur hg hgw)
      clear hx hc hg hgs Cq Gq Aq C1 G1 Lq L1
      go_wp2_with ((
           at_builtin
           refine wpList_push rfl _ _ _ rfl w.heap.size 9 i0 _ 1 16 Tryz.underlying35 hi hz0 hz1 hz2 rfl (by omega) stV stV_len one_stD B q d l rfl La.out.own (y : ByteArray) _ rfl _ rfl (by first | rfl | simp) (by simp only [maxLen]; omega) (by omega) Ga.out.size ?_
           intro Bb db wb ob grb
           have hrb : ∀ k, blockOf B = some k → w.heap.size ≤ k := fun k hk => (La.out.own.lt hk).1
           have Cb := Lib.hid (Ca.out.grown grb (fun k hk => by have := hrb k hk; omega))
           have Gb := Lib.hid (grown_row Ga.out grb hrb)
           have Lb := Lib.hid ob
           clear ob grb))
      go_roundw
      case rel => exact ⟨x - 1, by omega, by go_num, ⟨Bb, q + 1, db, _, rfl, by omega, ⟨Lb.out, good_appT La.out.good (good_oneT (Nat.le_trans Xy.out (by omega)))⟩⟩, Cb.out.le (by omega), Gb.out⟩
      case measure => first | (simp [intOf]; done) | (simp [intOf]; omega)
    · obtain rfl : x = 0 := by omega
      clear hx hx0
      go_wp2_with fail
      refine (pick_any g (K + 30) 30 _ (C1.out.le (by omega)) (by omega) (by omega) (by omega)).mono ?_
      rintro e w2 ⟨⟨s, rfl, s_0, s_1⟩, hc, hg⟩
      have C2 := Lib.hid hc
      have G2 := Lib.hid (grown_trans G1.out hg)
      have L2 := Lib.hid (L1.out.cur hg hgw)
      clear hc hg C1 G1 L1
      by_cases s0 : s = 0
      · subst s0
        have Cq := Lib.hid (C2.out.below (below_alloc (.cells #[.string ⟨#[10]⟩, .string ⟨#[127]⟩, .string ⟨#[48, 49, 50, 51, 52, 53, 54, 55, 56, 57, 48, 49, 50, 51, 52, 53, 54, 55, 56, 57, 48, 49, 50, 51, 52, 53, 54, 55, 56, 57, 48, 49, 50, 51, 52, 53, 54, 55, 56, 57]⟩, .string ⟨#[48, 49, 50, 51, 52, 53, 54, 55, 56, 57, 48, 49, 50, 51, 52, 53, 54, 55, 56, 57, 48, 49, 50, 51, 52, 53, 54, 55, 56, 57, 48, 49, 50, 51, 52, 53, 54, 55, 56, 57, 48]⟩] 9)))
        have Gq := Lib.hid (grown_below G2.out (below_alloc (.cells #[.string ⟨#[10]⟩, .string ⟨#[127]⟩, .string ⟨#[48, 49, 50, 51, 52, 53, 54, 55, 56, 57, 48, 49, 50, 51, 52, 53, 54, 55, 56, 57, 48, 49, 50, 51, 52, 53, 54, 55, 56, 57, 48, 49, 50, 51, 52, 53, 54, 55, 56, 57]⟩, .string ⟨#[48, 49, 50, 51, 52, 53, 54, 55, 56, 57, 48, 49, 50, 51, 52, 53, 54, 55, 56, 57, 48, 49, 50, 51, 52, 53, 54, 55, 56, 57, 48, 49, 50, 51, 52, 53, 54, 55, 56, 57, 48]⟩] 9)))
        have Lq := Lib.hid (L2.out.below (below_alloc (.cells #[.string ⟨#[10]⟩, .string ⟨#[127]⟩, .string ⟨#[48, 49, 50, 51, 52, 53, 54, 55, 56, 57, 48, 49, 50, 51, 52, 53, 54, 55, 56, 57, 48, 49, 50, 51, 52, 53, 54, 55, 56, 57, 48, 49, 50, 51, 52, 53, 54, 55, 56, 57]⟩, .string ⟨#[48, 49, 50, 51, 52, 53, 54, 55, 56, 57, 48, 49, 50, 51, 52, 53, 54, 55, 56, 57, 48, 49, 50, 51, 52, 53, 54, 55, 56, 57, 48, 49, 50, 51, 52, 53, 54, 55, 56, 57, 48]⟩] 9)))
        go_wp2_with fail
        have Aq := Lib.hid (rd_lit (w := w2.alloc (.cells #[.string ⟨#[10]⟩, .string ⟨#[127]⟩, .string ⟨#[48, 49, 50, 51, 52, 53, 54, 55, 56, 57, 48, 49, 50, 51, 52, 53, 54, 55, 56, 57, 48, 49, 50, 51, 52, 53, 54, 55, 56, 57, 48, 49, 50, 51, 52, 53, 54, 55, 56, 57]⟩, .string ⟨#[48, 49, 50, 51, 52, 53, 54, 55, 56, 57, 48, 49, 50, 51, 52, 53, 54, 55, 56, 57, 48, 49, 50, 51, 52, 53, 54, 55, 56, 57, 48, 49, 50, 51, 52, 53, 54, 55, 56, 57, 48]⟩] 9)) (k := w2.heap.size) (n := 4) (l := ([⟨#[10]⟩, ⟨#[127]⟩, ⟨#[48, 49, 50, 51, 52, 53, 54, 55, 56, 57, 48, 49, 50, 51, 52, 53, 54, 55, 56, 57, 48, 49, 50, 51, 52, 53, 54, 55, 56, 57, 48, 49, 50, 51, 52, 53, 54, 55, 56, 57]⟩, ⟨#[48, 49, 50, 51, 52, 53, 54, 55, 56, 57, 48, 49, 50, 51, 52, 53, 54, 55, 56, 57, 48, 49, 50, 51, 52, 53, 54, 55, 56, 57, 48, 49, 50, 51, 52, 53, 54, 55, 56, 57, 48]⟩] : List ByteArray)) (enc := stV) (heap_new (by first | rfl | simp)) stV_len rfl (by simp [maxLen]) rfl)
        have hgs : g < w2.heap.size := by first | omega | (have := C2.out.lt; simpa using this)
        refine (of_any g (K + 32) _ 4 4 _ _ (Cq.out.le (by omega)) (by omega) Aq.out (by omega) (by omega) (fun a ha => by injection ha with ha; subst ha; first | omega | (simp; done) | (simp; omega) | (simp at hgs ⊢; omega))).mono ?_
        rintro e wa ⟨⟨y, rfl, hx⟩, hc, hg⟩
        have Xy := Lib.hid (of_sz (m := 60) hx (by decide))
        have Ca := Lib.hid hc
        have Ga := Lib.hid (grown_trans Gq.out hg)
        have La := Lib.hid (Lq.out.cur hg hgw)
        clear hx hc hg hgs Cq Gq Aq C2 G2 Lq L2
        go_wp2_with ((
             at_builtin
             refine wpList_push rfl _ _ _ rfl w.heap.size 9 i0 _ 1 16 Tryz.underlying35 hi hz0 hz1 hz2 rfl (by omega) stV stV_len one_stD B q d l rfl La.out.own (y : ByteArray) _ rfl _ rfl (by first | rfl | simp) (by simp only [maxLen]; omega) (by omega) Ga.out.size ?_
             intro Bb db wb ob grb
             have hrb : ∀ k, blockOf B = some k → w.heap.size ≤ k := fun k hk => (La.out.own.lt hk).1
             have Cb := Lib.hid (Ca.out.grown grb (fun k hk => by have := hrb k hk; omega))
             have Gb := Lib.hid (grown_row Ga.out grb hrb)
             have Lb := Lib.hid ob
             clear ob grb))
        go_ret
        exact ⟨⟨_, _, _, _, rfl, by omega, ⟨Lb.out, good_appT La.out.good (good_oneT Xy.out)⟩⟩, Cb.out.le (by omega), Gb.out⟩
      · have e0 : (s == 0) = false := by simpa using s0
        by_cases s1 : s = 1
        · subst s1
          go_wp2
          go_loopw [3] (fun v wr => ∃ B q d l, v = .slice B q d ∧ q ≤ 13 ∧ OwnT wr w.heap.size B q d l ∧ Cur wr g (K + 40 + 4 * q) ∧ w.grownBy wr (some g)) (fun v _ => 14 - slLen v)
          case atStart => exact ⟨_, _, _, _, rfl, by omega, L2.out, C2.out.le (by omega), G2.out⟩
          case round =>
            clear L2 C2 G2
            obtain ⟨B, q, d, l, rfl, hq, ho, hc, hg⟩ := hrel
            have L1 := Lib.hid ho
            have C1 := Lib.hid hc
            have G1 := Lib.hid hg
            clear ho hc hg
            go_wp2_with fail
            refine (pick_any g (K + 40 + 4 * q) 2 _ C1.out (by omega) (by omega) (by omega)).mono ?_
            rintro e w2 ⟨⟨z, rfl, z_0, z_1⟩, hc, hg⟩
            have C2 := Lib.hid hc
            have G2 := Lib.hid (grown_trans G1.out hg)
            have L2 := Lib.hid (L1.out.cur hg hgw)
            clear hc hg C1 G1 L1
            by_cases hb : (q : Int) < 12 + z
            · go_wp2_with ((
                 at_builtin
                 refine wpList_push rfl _ _ _ rfl w.heap.size 9 i0 _ 1 16 Tryz.underlying35 hi hz0 hz1 hz2 rfl (by omega) stV stV_len one_stD B q d l rfl L2.out.own (⟨#[113]⟩ : ByteArray) _ rfl _ rfl (by first | rfl | simp) (by simp only [maxLen]; omega) (by omega) G2.out.size ?_
                 intro B3 d3 w3 o3 gr3
                 have hr3 : ∀ k, blockOf B = some k → w.heap.size ≤ k := fun k hk => (L2.out.own.lt hk).1
                 have C3 := Lib.hid (C2.out.grown gr3 (fun k hk => by have := hr3 k hk; omega))
                 have G3 := Lib.hid (grown_row G2.out gr3 hr3)
                 have L3 := Lib.hid o3
                 clear o3 gr3))
              go_roundw
              case rel => exact ⟨B3, q + 1, d3, _, rfl, by omega, ⟨L3.out, good_appT L2.out.good (good_oneT (by decide))⟩, C3.out.le (by omega), G3.out⟩
              case measure => simp [slLen]; omega
            · go_wp2
              go_ret
              exact ⟨⟨_, _, _, _, rfl, by omega, L2.out⟩, C2.out.le (by omega), G2.out⟩
        · have e1 : (s == 1) = false := by simpa using s1
          go_wp2
          go_ret
          exact ⟨⟨_, _, _, _, rfl, by omega, L2.out⟩, C2.out.le (by omega), G2.out⟩


end Go.Proofs.YtmahfkimeclcbaaGreatDoor
