/-
  YthphjncgbaknnaaGreatDoorMinF: minutes: the draws of minutes. (Printed by wip/gen/minf.py.)
-/
import Derived.Test.YthphjncgbaknnaaGreatDoorMinE
namespace Go.Proofs.YthphjncgbaknnaaGreatDoor
open Go Go.RowKit Go.Sort
set_option linter.unusedVariables false

def slLen : Value → Nat
  | .slice _ n _ => n
  | _ => 0
theorem one_en : ∀ x : EN, ∀ u ∈ enV x, u.oneCell' = true := by intro x u h; simp [enV] at h; rcases h with rfl | rfl | rfl | rfl | rfl | rfl | rfl <;> rfl
/-- A list of the call's own of entries with short texts. -/
structure OwnE (w : World) (base : Nat) (A : Option Addr) (n c : Nat) (l : List EN) : Prop where
  own : Own enV 7 w base 27 A n c l
  good : ∀ x ∈ l, EnS x
theorem OwnE.below {w w' : World} {base : Nat} {A : Option Addr} {n c : Nat} {l : List EN} (h : OwnE w base A n c l) (hb : Below w.heap.size w w') : OwnE w' base A n c l := ⟨h.own.below hb, h.good⟩
theorem OwnE.cur {w w' : World} {base : Nat} {A : Option Addr} {n c g : Nat} {l : List EN} (h : OwnE w base A n c l) (hg : w.grownBy w' (some g)) (hb : g < base) : OwnE w' base A n c l := ⟨h.own.cur hg hb, h.good⟩
theorem OwnE.base_le {w : World} {base b : Nat} {A : Option Addr} {n c : Nat} {l : List EN} (h : OwnE w base A n c l) (hb : b ≤ base) : OwnE w b A n c l := ⟨h.own.base_le hb, h.good⟩
theorem good_app {l l' : List EN} (h : ∀ x ∈ l, EnS x) (h' : ∀ x ∈ l', EnS x) : ∀ x ∈ l ++ l', EnS x := fun x hx => (List.mem_append.1 hx).elim (h x) (h' x)
theorem good_one {y : EN} (h : EnS y) : ∀ x ∈ [y], EnS x := fun x hx => by rw [List.mem_singleton.1 hx]; exact h
/-- What minutes hands back. -/
def MinPost (g K : Nat) (w : World) (e : Ending) (w' : World) : Prop := (∃ B q d l, e = .returned (.slice B q d) ∧ q ≤ 32 ∧ OwnE w' w.heap.size B q d l) ∧ Cur w' g (K + 600) ∧ w.grownBy w' (some g)


theorem Tryz.infoen' : (Tryz.prog.info? 27).map (fun i => (i.zero, i.size, i.bytes)) = some (some (.agg #[.int .i64 0, .string ByteArray.empty, .string ByteArray.empty, .int .i64 0, .int .i64 0, .int .i64 0, .bool false]), 7, 72) := by kernel_rfl
set_option maxRecDepth 100000 in
set_option maxHeartbeats 4000000 in
theorem minutes_any (g K : Nat) (w : World) (h : Cur w g K) (hK : K ≤ 90000) : Calls Tryz.prog 30 #[.pointer (some ⟨g, 0, none⟩)] w (MinPost g K w) := by
  obtain ⟨i0, hi, hz0, hz1, hz2⟩ := info_parts Tryz.infoen'
  have hgw := h.lt
  have C0 := Lib.hid (h.below (below_alloc (.cells #[] 27)))
  have oe : OwnE (w.alloc (.cells #[] 27)) w.heap.size (some ⟨w.heap.size, 0, none⟩) 0 0 [] := ⟨Own.empty enV 7 w 27, fun x hx => by cases hx⟩
  have b0 := below_alloc (w := w) (.cells #[] 27)
  clear h
  go_enter Tryz.func30, Tryz.ntmps30
  go_wp2_with fail
  refine (pick_any g K 7 _ C0.out (by omega) (by omega) (by omega)).mono ?_
  rintro e w1 ⟨⟨x0, rfl, hx0, hx1⟩, hc, hg⟩
  obtain ⟨x0, rfl⟩ := Int.eq_ofNat_of_zero_le hx0
  have C1 := Lib.hid (hc.le (K' := K + 2 + 40 * (6 - x0)) (by omega))
  have G1 := Lib.hid (below_of_cur b0 hg)
  have L1 := Lib.hid (oe.cur hg hgw)
  clear hc hg oe b0 C0 hx0
  go_wp2
  go_loopw [3, 4] (fun v xv wr => ∃ x : Nat, x ≤ 6 ∧ xv = .int .i64 x ∧ (∃ B q d l, v = .slice B q d ∧ q + x ≤ 6 ∧ OwnE wr w.heap.size B q d l) ∧ Cur wr g (K + 2 + 40 * (6 - x)) ∧ w.grownBy wr (some g)) (fun _ xv _ => (intOf xv).toNat)
  case atStart => exact ⟨x0, by omega, rfl, ⟨_, 0, 0, [], rfl, by omega, L1.out⟩, C1.out, G1.out⟩
  case round =>
    clear C1 G1 L1 hx1
    obtain ⟨x, hx, rfl, ⟨B, q, d, l, rfl, hq, ho⟩, hc, hg⟩ := hrel
    have L1 := Lib.hid ho
    have C1 := Lib.hid hc
    have G1 := Lib.hid hg
    clear ho hc hg
    by_cases hx0 : 0 < x
    · go_wp2_with fail
      refine (entry_any g (K + 2 + 40 * (6 - x)) _ C1.out (by omega)).mono ?_
      rintro e wa ⟨⟨y, rfl, hy⟩, hc, hg⟩
      have Y := Lib.hid hy
      have Ca := Lib.hid hc
      have Ga := Lib.hid (grown_trans G1.out hg)
      have La := Lib.hid (L1.out.cur hg hgw)
      clear hc hg C1 G1 L1 hy
      go_wp2_with ((
       at_builtin
       refine wpList_push rfl (.tmp 13) (.tmp 16) _ rfl w.heap.size 27 i0 _ 7 72 Tryz.underlying35 hi hz0 hz1 hz2 rfl (by omega) enV enV_len one_en B q d l rfl La.out.own (y : EN) _ rfl _ rfl (by first | rfl | simp) (by simp only [maxLen]; omega) (by omega) Ga.out.size ?_
       intro Bb db wb ob grb
       have hrb : ∀ k, blockOf B = some k → w.heap.size ≤ k := fun k hk => (La.out.own.lt hk).1
       have Cb := Lib.hid (Ca.out.grown grb (fun k hk => by have := hrb k hk; omega))
       have Gb := Lib.hid (grown_row Ga.out grb hrb)
       have Lb := Lib.hid ob
       clear ob grb))
      go_roundw
      case rel => exact ⟨x - 1, by omega, by go_num, ⟨Bb, q + 1, db, _, rfl, by omega, ⟨Lb.out, good_app La.out.good (good_one Y.out)⟩⟩, Cb.out.le (by omega), Gb.out⟩
      case measure => first | (simp [intOf]; done) | (simp [intOf]; omega)
    · obtain rfl : x = 0 := by omega
      clear hx hx0
      go_wp2_with fail
      refine (one_any g (K + 2 + 40 * (6 - 0)) 3 _ C1.out (by omega) (by omega) (by omega)).mono ?_
      rintro e w2 ⟨⟨y3, rfl⟩, hc, hg⟩
      have C2 := Lib.hid hc
      have G2 := Lib.hid (grown_trans G1.out hg)
      have L2 := Lib.hid (L1.out.cur hg hgw)
      clear hc hg C1 G1 L1
      cases y3
      · go_wp2_with fail
        refine (one_any g (K + 300) 24 _ (C2.out.le (by omega)) (by omega) (by omega) (by omega)).mono ?_
        rintro e wt ⟨⟨y24, rfl⟩, hc, hg⟩
        have Ct := Lib.hid hc
        have Gt := Lib.hid (grown_trans G2.out hg)
        have Lt := Lib.hid (L2.out.cur hg hgw)
        clear hc hg C2 G2 L2
        cases y24
        · go_wp2
          go_ret
          exact ⟨⟨_, _, _, _, rfl, by omega, Lt.out⟩, (Ct.out.le (by omega)), Gt.out⟩
        · go_wp2
          go_loopw [3] (fun v wr => ∃ B q d l, v = .slice B q d ∧ q ≤ 21 ∧ OwnE wr w.heap.size B q d l ∧ Cur wr g (K + 310 + 4 * q) ∧ w.grownBy wr (some g)) (fun v _ => 22 - slLen v)
          case atStart => exact ⟨_, _, _, _, rfl, by omega, Lt.out, Ct.out.le (by omega), Gt.out⟩
          case round =>
            clear Lt Ct Gt
            obtain ⟨B, q, d, l, rfl, hq, ho, hc, hg⟩ := hrel
            have L1 := Lib.hid ho
            have C1 := Lib.hid hc
            have G1 := Lib.hid hg
            clear ho hc hg
            go_wp2_with fail
            refine (pick_any g (K + 310 + 4 * q) 2 _ C1.out (by omega) (by omega) (by omega)).mono ?_
            rintro e w2 ⟨⟨z, rfl, z_0, z_1⟩, hc, hg⟩
            have C2 := Lib.hid hc
            have G2 := Lib.hid (grown_trans G1.out hg)
            have L2 := Lib.hid (L1.out.cur hg hgw)
            clear hc hg C1 G1 L1
            by_cases hb : (q : Int) < 20 + z
            · go_wp2_with ((
               at_builtin
               refine wpList_push rfl (.tmp 39) (.tmp 41) _ rfl w.heap.size 27 i0 _ 7 72 Tryz.underlying35 hi hz0 hz1 hz2 rfl (by omega) enV enV_len one_en B q d l rfl L2.out.own (⟨2, ⟨#[97]⟩, ⟨#[120]⟩, 0, 0, 0, false⟩ : EN) _ rfl _ rfl (by first | rfl | simp) (by simp only [maxLen]; omega) (by omega) G2.out.size ?_
               intro B3 d3 w3 o3 gr3
               have hr3 : ∀ k, blockOf B = some k → w.heap.size ≤ k := fun k hk => (L2.out.own.lt hk).1
               have C3 := Lib.hid (C2.out.grown gr3 (fun k hk => by have := hr3 k hk; omega))
               have G3 := Lib.hid (grown_row G2.out gr3 hr3)
               have L3 := Lib.hid o3
               clear o3 gr3))
              go_roundw
              case rel => exact ⟨B3, q + 1, d3, _, rfl, by omega, ⟨L3.out, good_app L2.out.good (good_one (by constructor <;> decide))⟩, C3.out.le (by omega), G3.out⟩
              case measure => simp [slLen]; omega
            · go_wp2
              go_ret
              exact ⟨⟨_, _, _, _, rfl, by omega, L2.out⟩, (C2.out.le (by omega)), G2.out⟩
      · go_wp2_with fail
        refine (person_any g (K + 250) _ (C2.out.le (by omega)) (by omega)).mono ?_
        rintro e w3 ⟨⟨who, rfl, hwho⟩, hc, hg⟩
        have C3 := Lib.hid hc
        have G3 := Lib.hid (grown_trans G2.out hg)
        have L3 := Lib.hid (L2.out.cur hg hgw)
        have O3 := Lib.hid (own_one (enc := enV) w3 #[.int .i64 1, .string who, .string ⟨#[]⟩, .int .i64 0, .int .i64 0, .int .i64 0, .bool false] 27 (⟨1, who, ⟨#[]⟩, 0, 0, 0, false⟩ : EN) rfl rfl)
        have C4 := Lib.hid (C3.out.below (below_alloc (.cells #[.int .i64 1, .string who, .string ⟨#[]⟩, .int .i64 0, .int .i64 0, .int .i64 0, .bool false] 27)))
        have G4 := Lib.hid (grown_below G3.out (below_alloc (.cells #[.int .i64 1, .string who, .string ⟨#[]⟩, .int .i64 0, .int .i64 0, .int .i64 0, .bool false] 27)))
        have L4 := Lib.hid (L3.out.below (below_alloc (.cells #[.int .i64 1, .string who, .string ⟨#[]⟩, .int .i64 0, .int .i64 0, .int .i64 0, .bool false] 27)))
        have hw3 := G3.out.size
        have hs3 : w.heap.size ≤ w3.heap.size := G3.out.size
        clear hc hg C2 G2 L2
        go_wp2_with (first
          | (
             at_builtin
             refine wpList_pushAll rfl (.tmp 24) (.tmp 25) _ rfl w3.heap.size 27 i0 _ 7 72 Tryz.underlying35 hi hz0 hz1 hz2 rfl (by omega) enV enV_len one_en (some ⟨w3.heap.size, 0, none⟩) 1 1 [⟨1, who, ⟨#[]⟩, 0, 0, 0, false⟩] rfl O3.out _ q d l rfl (L4.out.own.rd enV_len) (by simp only [maxLen]; omega) (by omega) (by first | omega | (simp; omega) | simp) ?_
             intro B5 d5 w5 o5 gr5
             have hr5 : ∀ k, blockOf (some (⟨w3.heap.size, 0, none⟩ : Addr)) = some k → w.heap.size ≤ k := fun k hk => by simp [blockOf] at hk; omega
             have C5 := Lib.hid (C4.out.grown gr5 (fun k hk => by have := hr5 k hk; omega))
             have G5 := Lib.hid (grown_row G4.out gr5 hr5)
             have L5 := Lib.hid (OwnE.mk (o5.base_le (b := w.heap.size) hs3) (good_app (good_one ⟨Nat.le_trans hwho (by omega), (show (⟨#[]⟩ : ByteArray).size ≤ 24 by decide)⟩) L4.out.good))
             clear o5 gr5)
          | (
             at_builtin
             refine wpList_push rfl (.tmp 26) (.tmp 29) _ rfl w.heap.size 27 i0 _ 7 72 Tryz.underlying35 hi hz0 hz1 hz2 rfl (by omega) enV enV_len one_en B5 (1 + q) d5 ([⟨1, who, ⟨#[]⟩, 0, 0, 0, false⟩] ++ l) rfl L5.out.own (⟨6, who, ⟨#[]⟩, 0, 0, 0, false⟩ : EN) _ rfl _ rfl (by first | rfl | simp) (by simp only [maxLen]; omega) (by omega) G5.out.size ?_
             intro B6 d6 w6 o6 gr6
             have hr6 : ∀ k, blockOf B5 = some k → w.heap.size ≤ k := fun k hk => (L5.out.own.lt hk).1
             have C6 := Lib.hid (C5.out.grown gr6 (fun k hk => by have := hr6 k hk; omega))
             have G6 := Lib.hid (grown_row G5.out gr6 hr6)
             have L6 := Lib.hid o6
             clear o6 gr6))
        have L6e := Lib.hid (OwnE.mk L6.out (good_app L5.out.good (good_one ⟨Nat.le_trans hwho (by omega), (show (⟨#[]⟩ : ByteArray).size ≤ 24 by decide)⟩)))
        clear C3 G3 L3 O3 C4 G4 L4 C5 G5 L5 L6
        go_wp2_with fail
        refine (one_any g (K + 300) 24 _ (C6.out.le (by omega)) (by omega) (by omega) (by omega)).mono ?_
        rintro e wt ⟨⟨y24, rfl⟩, hc, hg⟩
        have Ct := Lib.hid hc
        have Gt := Lib.hid (grown_trans G6.out hg)
        have Lt := Lib.hid (L6e.out.cur hg hgw)
        clear hc hg C6 G6 L6e
        cases y24
        · go_wp2
          go_ret
          exact ⟨⟨_, _, _, _, rfl, by omega, Lt.out⟩, (Ct.out.le (by omega)), Gt.out⟩
        · go_wp2
          go_loopw [3] (fun v wr => ∃ B q d l, v = .slice B q d ∧ q ≤ 21 ∧ OwnE wr w.heap.size B q d l ∧ Cur wr g (K + 310 + 4 * q) ∧ w.grownBy wr (some g)) (fun v _ => 22 - slLen v)
          case atStart => exact ⟨_, _, _, _, rfl, by omega, Lt.out, Ct.out.le (by omega), Gt.out⟩
          case round =>
            clear Lt Ct Gt
            obtain ⟨B, q, d, l, rfl, hq, ho, hc, hg⟩ := hrel
            have L1 := Lib.hid ho
            have C1 := Lib.hid hc
            have G1 := Lib.hid hg
            clear ho hc hg
            go_wp2_with fail
            refine (pick_any g (K + 310 + 4 * q) 2 _ C1.out (by omega) (by omega) (by omega)).mono ?_
            rintro e w2 ⟨⟨z, rfl, z_0, z_1⟩, hc, hg⟩
            have C2 := Lib.hid hc
            have G2 := Lib.hid (grown_trans G1.out hg)
            have L2 := Lib.hid (L1.out.cur hg hgw)
            clear hc hg C1 G1 L1
            by_cases hb : (q : Int) < 20 + z
            · go_wp2_with ((
               at_builtin
               refine wpList_push rfl (.tmp 39) (.tmp 41) _ rfl w.heap.size 27 i0 _ 7 72 Tryz.underlying35 hi hz0 hz1 hz2 rfl (by omega) enV enV_len one_en B q d l rfl L2.out.own (⟨2, ⟨#[97]⟩, ⟨#[120]⟩, 0, 0, 0, false⟩ : EN) _ rfl _ rfl (by first | rfl | simp) (by simp only [maxLen]; omega) (by omega) G2.out.size ?_
               intro B3 d3 w3 o3 gr3
               have hr3 : ∀ k, blockOf B = some k → w.heap.size ≤ k := fun k hk => (L2.out.own.lt hk).1
               have C3 := Lib.hid (C2.out.grown gr3 (fun k hk => by have := hr3 k hk; omega))
               have G3 := Lib.hid (grown_row G2.out gr3 hr3)
               have L3 := Lib.hid o3
               clear o3 gr3))
              go_roundw
              case rel => exact ⟨B3, q + 1, d3, _, rfl, by omega, ⟨L3.out, good_app L2.out.good (good_one (by constructor <;> decide))⟩, C3.out.le (by omega), G3.out⟩
              case measure => simp [slLen]; omega
            · go_wp2
              go_ret
              exact ⟨⟨_, _, _, _, rfl, by omega, L2.out⟩, (C2.out.le (by omega)), G2.out⟩


def DrawMin (w : World) (e : Ending) (w' : World) : Prop := (∃ B q d l, e = .returned (.slice B q d) ∧ q ≤ 32 ∧ OwnE w' w.heap.size B q d l) ∧ Below w.heap.size w w'
set_option maxRecDepth 100000 in
theorem drawMinutes_any (A : Option Addr) (n c : Nat) (l : List Int) (w : World) (ha : Rd byV 1 w A n c l) (hb : ∀ x ∈ l, 0 ≤ x ∧ x ≤ 255) : Calls Tryz.prog 12 #[.slice A n c] w (DrawMin w) := by
  have C0 := Lib.hid (Cur.start ha hb)
  have b0 := below_alloc (w := w) (.cells #[.slice A n c, .int .i64 0, .int .u64 0] 48)
  have hgw : w.heap.size < (w.alloc (.cells #[.slice A n c, .int .i64 0, .int .u64 0] 48)).heap.size := by simp
  go_enter Tryz.func12, Tryz.ntmps12
  go_wp2_with fail
  generalize hw0 : w.alloc (.cells #[.slice A n c, .int .i64 0, .int .u64 0] 48) = w0 at *
  clear hw0
  refine (minutes_any w.heap.size 0 _ C0.out (by omega)).mono ?_
  rintro e w1 ⟨⟨B, q, d, lp, rfl, hq, o1⟩, hc, hg⟩
  have C1 := Lib.hid hc
  have G1 := Lib.hid hg
  have L1 := Lib.hid o1
  clear hc hg o1 C0
  go_wp2
  go_ret
  exact ⟨⟨_, _, _, _, rfl, hq, L1.out.base_le (Nat.le_of_lt hgw)⟩, (b0.trans (below_cur G1.out (Nat.le_refl _) (Nat.le_of_lt hgw)))⟩

end Go.Proofs.YthphjncgbaknnaaGreatDoor
