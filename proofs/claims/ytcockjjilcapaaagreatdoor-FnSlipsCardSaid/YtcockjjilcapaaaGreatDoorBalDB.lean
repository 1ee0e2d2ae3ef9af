/-
  YtcockjjilcapaaaGreatDoorBalDB: ballots: the draws of boxes and of rolls. (Printed by wip/gen/baldr.py.)
-/
import Derived.Test.YtcockjjilcapaaaGreatDoorBalDA
import Derived.Test.YtcockjjilcapaaaGreatDoorPut
namespace Go.Proofs.YtcockjjilcapaaaGreatDoor
open Go Go.RowKit Go.Sort
set_option linter.unusedVariables false

def slLen : Value → Nat
  | .slice _ n _ => n
  | _ => 0
theorem one_baD : ∀ x : BA, ∀ u ∈ baV x, u.oneCell' = true := by intro x u h; simp [baV] at h; rcases h with rfl | rfl <;> rfl
theorem one_inD : ∀ x : Int, ∀ u ∈ inV x, u.oneCell' = true := by intro x u h; simp [inV] at h; rcases h with rfl; rfl
/-- A list of the call's own of ballots with short texts. -/
structure OwnB (w : World) (base : Nat) (A : Option Addr) (n c : Nat) (l : List BA) : Prop where
  own : Own baV 2 w base 25 A n c l
  good : ∀ x ∈ l, BaS x
theorem OwnB.below {w w' : World} {base : Nat} {A : Option Addr} {n c : Nat} {l : List BA} (h : OwnB w base A n c l) (hb : Below w.heap.size w w') : OwnB w' base A n c l := ⟨h.own.below hb, h.good⟩
theorem OwnB.cur {w w' : World} {base : Nat} {A : Option Addr} {n c g : Nat} {l : List BA} (h : OwnB w base A n c l) (hg : w.grownBy w' (some g)) (hb : g < base) : OwnB w' base A n c l := ⟨h.own.cur hg hb, h.good⟩
theorem OwnB.base_le {w : World} {base b : Nat} {A : Option Addr} {n c : Nat} {l : List BA} (h : OwnB w base A n c l) (hb : b ≤ base) : OwnB w b A n c l := ⟨h.own.base_le hb, h.good⟩
theorem good_app {l l' : List BA} (h : ∀ x ∈ l, BaS x) (h' : ∀ x ∈ l', BaS x) : ∀ x ∈ l ++ l', BaS x := fun x hx => (List.mem_append.1 hx).elim (h x) (h' x)
theorem good_one {y : BA} (h : BaS y) : ∀ x ∈ [y], BaS x := fun x hx => by rw [List.mem_singleton.1 hx]; exact h
theorem Tryz.infobaD : (Tryz.prog.info? 25).map (fun i => (i.zero, i.size, i.bytes)) = some (some (.agg #[.int .i64 0, .string ByteArray.empty]), 2, 24) := by kernel_rfl
theorem Tryz.infoinD : (Tryz.prog.info? 3).map (fun i => (i.zero, i.size, i.bytes)) = some (some (.int .i64 0), 1, 8) := by kernel_rfl
/-- What box hands back. -/
def BoxPost (g K : Nat) (w : World) (e : Ending) (w' : World) : Prop := (∃ B q d l, e = .returned (.slice B q d) ∧ q ≤ 13 ∧ OwnB w' w.heap.size B q d l) ∧ Cur w' g (K + 300) ∧ w.grownBy w' (some g)
def RollPost (g K : Nat) (w : World) (e : Ending) (w' : World) : Prop := (∃ B q d l, e = .returned (.slice B q d) ∧ q ≤ 21 ∧ Own inV 1 w' w.heap.size 3 B q d l) ∧ Cur w' g (K + 300) ∧ w.grownBy w' (some g)
theorem putZ_lenD (x : Int) : ∀ l, (putZ x l).length ≤ l.length + 1
  | [] => by simp [putZ]
  | y :: t => by
    have := putZ_lenD x t
    unfold putZ
    split
    · simp only [List.length_cons]; omega
    · split <;> simp only [List.length_cons] <;> omega


set_option maxRecDepth 100000 in
set_option maxHeartbeats 8000000 in
theorem box_any (g K : Nat) (w : World) (h : Cur w g K) (hK : K ≤ 90000) : Calls Tryz.prog 49 #[.pointer (some ⟨g, 0, none⟩)] w (BoxPost g K w) := by
  obtain ⟨i0, hi, hz0, hz1, hz2⟩ := info_parts Tryz.infobaD
  have hgw := h.lt
  have C0 := Lib.hid (h.below (below_alloc (.cells #[] 25)))
  have oe : OwnB (w.alloc (.cells #[] 25)) w.heap.size (some ⟨w.heap.size, 0, none⟩) 0 0 [] := ⟨Own.empty baV 2 w 25, fun x hx => by cases hx⟩
  have b0 := below_alloc (w := w) (.cells #[] 25)
  clear h
  go_enter Tryz.func49, Tryz.ntmps49
  go_wp2_with fail
  refine (pick_any g K 9 _ C0.out (by omega) (by omega) (by omega)).mono ?_
  rintro e w1 ⟨⟨x0, rfl, hx0, hx1⟩, hc, hg⟩
  obtain ⟨x0, rfl⟩ := Int.eq_ofNat_of_zero_le hx0
  have C1 := Lib.hid (hc.le (K' := K + 2 + 14 * (8 - x0)) (by omega))
  have G1 := Lib.hid (below_of_cur b0 hg)
  have L1 := Lib.hid (oe.cur hg hgw)
  clear hc hg oe b0 C0 hx0
  go_wp2
  go_loopw [3, 4, 5] (fun v cv xv wr => ∃ (x : Nat) (cd : Int), x ≤ 8 ∧ 0 ≤ cd ∧ cd + x ≤ 8 ∧ xv = .int .i64 x ∧ cv = .int .i64 cd ∧ (∃ B q d l, v = .slice B q d ∧ q + x ≤ 8 ∧ OwnB wr w.heap.size B q d l) ∧ Cur wr g (K + 2 + 14 * (8 - x)) ∧ w.grownBy wr (some g)) (fun _ _ xv _ => (intOf xv).toNat)
  case atStart => exact ⟨x0, 0, by omega, by omega, by omega, rfl, rfl, ⟨_, 0, 0, [], rfl, by omega, L1.out⟩, C1.out, G1.out⟩
  case round =>
    clear C1 G1 L1 hx1
    obtain ⟨x, cd, hx, hcd, hcx, rfl, rfl, ⟨B, q, d, l, rfl, hq, ho⟩, hc, hg⟩ := hrel
    have L1 := Lib.hid ho
    have C1 := Lib.hid hc
    have G1 := Lib.hid hg
    have hgr := hc.lt
    clear ho hc hg
    by_cases hx0 : 0 < x
    · go_wp2_with fail
      refine (ballot_any g (K + 2 + 14 * (8 - x)) _ C1.out (by omega)).mono ?_
      rintro e wa ⟨⟨y, rfl, hy⟩, hc, hg⟩
      have Y := Lib.hid hy
      have Ca := Lib.hid (hc.below (below_alloc (.cells #[.int .i64 y.code, .string y.ch] 25)))
      have Ga := Lib.hid (grown_below (grown_trans G1.out hg) (below_alloc (.cells #[.int .i64 y.code, .string y.ch] 25)))
      have La := Lib.hid ((L1.out.cur hg hgw).below (below_alloc (.cells #[.int .i64 y.code, .string y.ch] 25)))
      have hwa : w.heap.size ≤ wa.heap.size := by have := (grown_trans G1.out hg).size; exact this
      have Ba := Lib.hid ((own_one (enc := baV) wa #[.int .i64 y.code, .string y.ch] 25 (⟨y.code, y.ch⟩ : BA) rfl rfl).base_le (b := w.heap.size) hwa)
      have hgb : g < wa.heap.size := by have h1 := (grown_trans G1.out hg).size; omega
      have hnb : blockOf B = none ∨ blockOf B ≠ some wa.heap.size := .inr fun e => by have h1 := (L1.out.own.lt e).2; have h2 := hg.size; omega
      clear hc hg C1 G1 L1 hy
      go_wp2_with fail
      refine (one_any g (K + 2 + 14 * (8 - x) + 12) 2 _ (Ca.out.le (by omega)) (by omega) (by omega) (by omega)).mono ?_
      rintro e w1 ⟨⟨y2, rfl⟩, hc, hg⟩
      have Cb := Lib.hid hc
      have Gb := Lib.hid (grown_trans Ga.out hg)
      have Lb := Lib.hid (La.out.cur hg hgw)
      have Bb := Lib.hid (Ba.out.cur hg hgw)
      clear hc hg Ca Ga La Ba
      obtain ⟨⟨q0, q1⟩, k0, k1⟩ := bx_cells Bb.out
      cases y2
      · go_wp2_with ((
           at_builtin
           refine wpList_push rfl (.tmp 22) (.tmp 24) _ rfl w.heap.size 25 i0 _ 2 24 Tryz.underlying32 hi hz0 hz1 hz2 rfl (by omega) baV baV_len one_baD B q d l rfl Lb.out.own (⟨y.code, y.ch⟩ : BA) _ rfl _ rfl (by first | rfl | simp) (by simp only [maxLen]; omega) (by omega) Gb.out.size ?_
           intro Bc dc wc oc grc
           have hrc : ∀ k, blockOf B = some k → w.heap.size ≤ k := fun k hk => (Lb.out.own.lt hk).1
           have Cc := Lib.hid (Cb.out.grown grc (fun k hk => by have := hrc k hk; omega))
           have Gc := Lib.hid (grown_row Gb.out grc hrc)
           have Lc := Lib.hid oc
           clear oc grc))
        go_roundw
        case rel => exact ⟨x - 1, cd, by omega, by omega, by omega, by go_num, rfl, ⟨Bc, q + 1, dc, _, rfl, by omega, ⟨Lc.out, good_app Lb.out.good (good_one Y.out)⟩⟩, Cc.out.le (by omega), Gc.out⟩
        case measure => first | (simp [intOf]; done) | (simp [intOf]; omega)
      · obtain ⟨bx0, gx0⟩ := bx_set0 Bb.out (cd + 1)
        have Bs := Lib.hid bx0
        have Cs := Lib.hid (Cb.out.grown gx0 (fun k hk => by injection hk with hk; omega))
        have Gs := Lib.hid (grown_row Gb.out gx0 (fun k hk => by injection hk with hk; omega))
        have Ls := Lib.hid (OwnB.mk (Lb.out.own.grown gx0 hnb) Lb.out.good)
        obtain ⟨⟨r0, r1⟩, z0, z1⟩ := bx_cells Bs.out
        clear bx0 gx0
        go_wp2_with ((
           at_builtin
           refine wpList_push rfl (.tmp 22) (.tmp 24) _ rfl w.heap.size 25 i0 _ 2 24 Tryz.underlying32 hi hz0 hz1 hz2 rfl (by omega) baV baV_len one_baD B q d l rfl Ls.out.own (⟨cd + 1, y.ch⟩ : BA) _ rfl _ rfl (by first | rfl | simp) (by simp only [maxLen]; omega) (by omega) Gs.out.size ?_
           intro Bc dc wc oc grc
           have hrc : ∀ k, blockOf B = some k → w.heap.size ≤ k := fun k hk => (Ls.out.own.lt hk).1
           have Cc := Lib.hid (Cs.out.grown grc (fun k hk => by have := hrc k hk; omega))
           have Gc := Lib.hid (grown_row Gs.out grc hrc)
           have Lc := Lib.hid oc
           clear oc grc))
        go_roundw
        case rel => exact ⟨x - 1, cd + 1, by omega, by omega, by omega, by go_num, rfl, ⟨Bc, q + 1, dc, _, rfl, by omega, ⟨Lc.out, good_app Lb.out.good (good_one Y.out)⟩⟩, Cc.out.le (by omega), Gc.out⟩
        case measure => first | (simp [intOf]; done) | (simp [intOf]; omega)
    · obtain rfl : x = 0 := by omega
      clear hx hx0
      go_wp2_with fail
      refine (one_any g (K + 200) 24 _ (C1.out.le (by omega)) (by omega) (by omega) (by omega)).mono ?_
      rintro e wt ⟨⟨y24, rfl⟩, hc, hg⟩
      have Ct := Lib.hid hc
      have Gt := Lib.hid (grown_trans G1.out hg)
      have Lt := Lib.hid (L1.out.cur hg hgw)
      clear hc hg C1 G1 L1
      cases y24
      · go_wp2
        go_ret
        exact ⟨⟨_, _, _, _, rfl, by omega, Lt.out⟩, (Ct.out.le (by omega)), Gt.out⟩
      · go_wp2
        go_loopw [3] (fun v wr => ∃ B q d l, v = .slice B q d ∧ q ≤ 13 ∧ OwnB wr w.heap.size B q d l ∧ Cur wr g (K + 210 + 4 * q) ∧ w.grownBy wr (some g)) (fun v _ => 14 - slLen v)
        case atStart => exact ⟨_, _, _, _, rfl, by omega, Lt.out, Ct.out.le (by omega), Gt.out⟩
        case round =>
          clear Lt Ct Gt
          obtain ⟨B, q, d, l, rfl, hq, ho, hc, hg⟩ := hrel
          have L1 := Lib.hid ho
          have C1 := Lib.hid hc
          have G1 := Lib.hid hg
          clear ho hc hg
          go_wp2_with fail
          refine (pick_any g (K + 210 + 4 * q) 2 _ C1.out (by omega) (by omega) (by omega)).mono ?_
          rintro e w2 ⟨⟨z, rfl, z_0, z_1⟩, hc, hg⟩
          have C2 := Lib.hid hc
          have G2 := Lib.hid (grown_trans G1.out hg)
          have L2 := Lib.hid (L1.out.cur hg hgw)
          clear hc hg C1 G1 L1
          by_cases hb : (q : Int) < 12 + z
          · go_wp2_with ((
             at_builtin
             refine wpList_push rfl (.tmp 34) (.tmp 39) _ rfl w.heap.size 25 i0 _ 2 24 Tryz.underlying32 hi hz0 hz1 hz2 rfl (by omega) baV baV_len one_baD B q d l rfl L2.out.own (⟨500 + (q : Int), ⟨#[120]⟩⟩ : BA) _ rfl _ rfl (by first | rfl | simp) (by simp only [maxLen]; omega) (by omega) G2.out.size ?_
             intro B3 d3 w3 o3 gr3
             have hr3 : ∀ k, blockOf B = some k → w.heap.size ≤ k := fun k hk => (L2.out.own.lt hk).1
             have C3 := Lib.hid (C2.out.grown gr3 (fun k hk => by have := hr3 k hk; omega))
             have G3 := Lib.hid (grown_row G2.out gr3 hr3)
             have L3 := Lib.hid o3
             clear o3 gr3))
            go_roundw
            case rel => exact ⟨B3, q + 1, d3, _, rfl, by omega, ⟨L3.out, good_app L2.out.good (good_one (by show (⟨#[120]⟩ : ByteArray).size ≤ 24; decide))⟩, C3.out.le (by omega), G3.out⟩
            case measure => simp [slLen]; omega
          · go_wp2
            go_ret
            exact ⟨⟨_, _, _, _, rfl, by omega, L2.out⟩, (C2.out.le (by omega)), G2.out⟩


set_option maxRecDepth 100000 in
set_option maxHeartbeats 8000000 in
theorem roll_any (g K : Nat) (w : World) (h : Cur w g K) (hK : K ≤ 90000) : Calls Tryz.prog 50 #[.pointer (some ⟨g, 0, none⟩)] w (RollPost g K w) := by
  obtain ⟨i0, hi, hz0, hz1, hz2⟩ := info_parts Tryz.infoinD
  have hgw := h.lt
  have C0 := Lib.hid (h.below (below_alloc (.cells #[] 3)))
  have oe : Own inV 1 (w.alloc (.cells #[] 3)) w.heap.size 3 (some ⟨w.heap.size, 0, none⟩) 0 0 [] := Own.empty inV 1 w 3
  have b0 := below_alloc (w := w) (.cells #[] 3)
  clear h
  go_enter Tryz.func50, Tryz.ntmps50
  go_wp2_with fail
  refine (pick_any g K 9 _ C0.out (by omega) (by omega) (by omega)).mono ?_
  rintro e w1 ⟨⟨x0, rfl, hx0, hx1⟩, hc, hg⟩
  obtain ⟨x0, rfl⟩ := Int.eq_ofNat_of_zero_le hx0
  have C1 := Lib.hid (hc.le (K' := K + 2 + 14 * (8 - x0)) (by omega))
  have G1 := Lib.hid (below_of_cur b0 hg)
  have L1 := Lib.hid (oe.cur hg hgw)
  clear hc hg oe b0 C0 hx0
  go_wp2
  go_loopw [3, 4] (fun v xv wr => ∃ x : Nat, x ≤ 8 ∧ xv = .int .i64 x ∧ (∃ B q d l, v = .slice B q d ∧ q + x ≤ 8 ∧ Own inV 1 wr w.heap.size 3 B q d l) ∧ Cur wr g (K + 2 + 14 * (8 - x)) ∧ w.grownBy wr (some g)) (fun _ xv _ => (intOf xv).toNat)
  case atStart => exact ⟨x0, by omega, rfl, ⟨_, 0, 0, [], rfl, by omega, L1.out⟩, C1.out, G1.out⟩
  case round =>
    clear C1 G1 L1 hx1
    obtain ⟨x, hx, rfl, ⟨B, q, d, l, rfl, hq, ho⟩, hc, hg⟩ := hrel
    have L1 := Lib.hid ho
    have C1 := Lib.hid hc
    have G1 := Lib.hid hg
    have hgr := hc.lt
    clear ho hc hg
    by_cases hx0 : 0 < x
    · have Cq := Lib.hid (C1.out.below (below_alloc (.cells #[.int .i64 1, .int .i64 2, .int .i64 3, .int .i64 4, .int .i64 5, .int .i64 17, .int .i64 100, .int .i64 2001, .int .i64 9999] 3)))
      have Gq := Lib.hid (grown_below G1.out (below_alloc (.cells #[.int .i64 1, .int .i64 2, .int .i64 3, .int .i64 4, .int .i64 5, .int .i64 17, .int .i64 100, .int .i64 2001, .int .i64 9999] 3)))
      have Lq := Lib.hid (L1.out.below (below_alloc (.cells #[.int .i64 1, .int .i64 2, .int .i64 3, .int .i64 4, .int .i64 5, .int .i64 17, .int .i64 100, .int .i64 2001, .int .i64 9999] 3)))
      go_wp2_with fail
      have Aq := Lib.hid (rd_lit (w := wr.alloc (.cells #[.int .i64 1, .int .i64 2, .int .i64 3, .int .i64 4, .int .i64 5, .int .i64 17, .int .i64 100, .int .i64 2001, .int .i64 9999] 3)) (k := wr.heap.size) (n := 9) (l := ([1, 2, 3, 4, 5, 17, 100, 2001, 9999] : List Int)) (enc := inV) (heap_new (by first | rfl | simp)) inV_len rfl (by simp [maxLen]) rfl)
      have hgs : g < wr.heap.size := by first | omega | (have := C1.out.lt; simpa using this)
      refine (among_any g (K + 2 + 14 * (8 - x)) _ 9 9 _ _ (Cq.out.le (by omega)) (by omega) Aq.out (by omega) (by omega) (fun a ha => by injection ha with ha; subst ha; first | omega | (simp; done) | (simp; omega) | (simp at hgs ⊢; omega))).mono ?_
      rintro e w2 ⟨⟨y, rfl, hx⟩, hc, hg⟩
      have Xy := Lib.hid (mem_bd (lo := 1) (hi := 9999) hx (by decide))
      have C2 := Lib.hid hc
      have G2 := Lib.hid (grown_trans Gq.out hg)
      have L2 := Lib.hid (Lq.out.cur hg hgw)
      clear hx hc hg hgs Cq Gq Aq C1 G1 Lq L1
      have hws : w.heap.size ≤ w2.heap.size := G2.out.size
      go_wp2_with fail
      refine (l1Put_any B q d w.heap.size l y _ L2.out (by omega) hws).mono ?_
      rintro e w3 ⟨⟨B3, q3, d3, rfl, o3⟩, b3⟩
      have hq3 : q3 ≤ q + 1 := by have h1 := o3.len; have h2 := putZ_lenD y l; have h3 := L2.out.len; omega
      have C3 := Lib.hid (C2.out.below b3)
      have G3 := Lib.hid (grown_below G2.out b3)
      have L3 := Lib.hid o3
      clear C2 G2 L2 o3 b3
      go_wp2
      go_roundw
      case rel => exact ⟨x - 1, by omega, by go_num, ⟨B3, q3, d3, _, rfl, by omega, L3.out⟩, C3.out.le (by omega), G3.out⟩
      case measure => first | (simp [intOf]; done) | (simp [intOf]; omega)
    · obtain rfl : x = 0 := by omega
      clear hx hx0
      go_wp2_with fail
      refine (pick_any g (K + 2 + 14 * (8 - 0)) 24 _ (C1.out.le (by omega)) (by omega) (by omega) (by omega)).mono ?_
      rintro e w2 ⟨⟨s, rfl, s_0, s_1⟩, hc, hg⟩
      have C2 := Lib.hid hc
      have G2 := Lib.hid (grown_trans G1.out hg)
      have L2 := Lib.hid (L1.out.cur hg hgw)
      clear hc hg C1 G1 L1
      by_cases hs0 : s = 0
      · subst hs0
        have Cq := Lib.hid (C2.out.below (below_alloc (.cells #[.int .i64 0, .int .i64 1, .int .i64 10000] 3)))
        have Gq := Lib.hid (grown_below G2.out (below_alloc (.cells #[.int .i64 0, .int .i64 1, .int .i64 10000] 3)))
        have Lq := Lib.hid (L2.out.below (below_alloc (.cells #[.int .i64 0, .int .i64 1, .int .i64 10000] 3)))
        go_wp2_with fail
        have Aq := Lib.hid (rd_lit (w := w2.alloc (.cells #[.int .i64 0, .int .i64 1, .int .i64 10000] 3)) (k := w2.heap.size) (n := 3) (l := ([0, 1, 10000] : List Int)) (enc := inV) (heap_new (by first | rfl | simp)) inV_len rfl (by simp [maxLen]) rfl)
        have hgs : g < w2.heap.size := by first | omega | (have := C2.out.lt; simpa using this)
        refine (among_any g (K + 150) _ 3 3 _ _ (Cq.out.le (by omega)) (by omega) Aq.out (by omega) (by omega) (fun a ha => by injection ha with ha; subst ha; first | omega | (simp; done) | (simp; omega) | (simp at hgs ⊢; omega))).mono ?_
        rintro e w3 ⟨⟨y, rfl, hx⟩, hc, hg⟩
        have Xy := Lib.hid (mem_bd (lo := 0) (hi := 10000) hx (by decide))
        have C3 := Lib.hid hc
        have G3 := Lib.hid (grown_trans Gq.out hg)
        have L3 := Lib.hid (Lq.out.cur hg hgw)
        clear hx hc hg hgs Cq Gq Aq C2 G2 Lq L2
        go_wp2_with (
         at_builtin
         refine wpList_push rfl (.tmp 22) (.tmp 26) _ rfl w.heap.size 3 i0 _ 1 8 Tryz.underlying33 hi hz0 hz1 hz2 rfl (by omega) inV inV_len one_inD B q d l rfl L3.out (y : Int) _ rfl _ rfl (by first | rfl | simp) (by simp only [maxLen]; omega) (by omega) G3.out.size ?_
         intro B4 d4 w4 o4 gr4
         have hr4 : ∀ k, blockOf B = some k → w.heap.size ≤ k := fun k hk => (L3.out.lt hk).1
         have C4 := Lib.hid (C3.out.grown gr4 (fun k hk => by have := hr4 k hk; omega))
         have G4 := Lib.hid (grown_row G3.out gr4 hr4)
         have L4 := Lib.hid o4
         clear o4 gr4)
        go_wp2
        go_ret
        exact ⟨⟨_, _, _, _, rfl, by omega, L4.out⟩, (C4.out.le (by omega)), G4.out⟩
      · have es0 : (s == 0) = false := by simp; omega
        by_cases hs1 : s = 1
        · subst hs1
          have oz := (Own.empty inV 1 w2 3).base_le (b := w.heap.size) G2.out.size
          have Cz := Lib.hid (C2.out.below (below_alloc (.cells #[] 3)))
          have Gz := Lib.hid (grown_below G2.out (below_alloc (.cells #[] 3)))
          have Lz := Lib.hid oz
          clear C2 G2 L2 oz
          go_wp2
          go_loopw [3, 5] (fun v nv wr => ∃ n : Nat, n ≤ 21 ∧ nv = .int .i64 n ∧ (∃ B d l, v = .slice B n d ∧ Own inV 1 wr w.heap.size 3 B n d l) ∧ Cur wr g (K + 210 + 4 * n) ∧ w.grownBy wr (some g)) (fun _ nv _ => 22 - (intOf nv).toNat)
          case atStart => exact ⟨0, by omega, rfl, ⟨_, _, _, rfl, Lz.out⟩, Cz.out.le (by omega), Gz.out⟩
          case round =>
            clear Cz Gz Lz
            obtain ⟨n, hn, rfl, ⟨B, d, l, rfl, ho⟩, hc, hg⟩ := hrel
            have L1 := Lib.hid ho
            have C1 := Lib.hid hc
            have G1 := Lib.hid hg
            clear ho hc hg
            go_wp2_with fail
            refine (pick_any g (K + 210 + 4 * n) 2 _ C1.out (by omega) (by omega) (by omega)).mono ?_
            rintro e w2 ⟨⟨z, rfl, z_0, z_1⟩, hc, hg⟩
            have C2 := Lib.hid hc
            have G2 := Lib.hid (grown_trans G1.out hg)
            have L2 := Lib.hid (L1.out.cur hg hgw)
            clear hc hg C1 G1 L1
            by_cases hb : (n : Int) < 20 + z
            · go_wp2_with (
               at_builtin
               refine wpList_push rfl (.tmp 38) (.tmp 41) _ rfl w.heap.size 3 i0 _ 1 8 Tryz.underlying33 hi hz0 hz1 hz2 rfl (by omega) inV inV_len one_inD B n d l rfl L2.out (500 + (n : Int) : Int) _ rfl _ rfl (by first | rfl | simp) (by simp only [maxLen]; omega) (by omega) G2.out.size ?_
               intro B3 d3 w3 o3 gr3
               have hr3 : ∀ k, blockOf B = some k → w.heap.size ≤ k := fun k hk => (L2.out.lt hk).1
               have C3 := Lib.hid (C2.out.grown gr3 (fun k hk => by have := hr3 k hk; omega))
               have G3 := Lib.hid (grown_row G2.out gr3 hr3)
               have L3 := Lib.hid o3
               clear o3 gr3)
              go_roundw
              case rel => exact ⟨n + 1, by omega, by go_num, ⟨B3, d3, _, rfl, L3.out⟩, C3.out.le (by omega), G3.out⟩
              case measure => first | (simp [intOf]; done) | (simp [intOf]; omega)
            · go_wp2
              go_ret
              exact ⟨⟨_, _, _, _, rfl, by omega, L2.out⟩, (C2.out.le (by omega)), G2.out⟩
        · have es1 : (s == 1) = false := by simp; omega
          go_wp2
          go_ret
          exact ⟨⟨_, _, _, _, rfl, by omega, L2.out⟩, (C2.out.le (by omega)), G2.out⟩


end Go.Proofs.YtcockjjilcapaaaGreatDoor
